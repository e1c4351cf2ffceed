/-
  Contracts of functions and laws of the layer over the walk.
-/
import Derived.Test.YtoomflalicffnaaGreatHlD
import Derived.Test.YtoomflalicffnaaGreatProg
import Derived.KernelRfl
namespace Go.Hl
open Go.Proofs
set_option linter.unusedVariables false
set_option linter.unusedSimpArgs false
@[go_sem] theorem ty2:gL Tryz.prog 2 = some ⟨1,false,8,[.int .i64 0],.int .i64⟩:=by kernel_rfl
@[go_sem] theorem ty3:gL Tryz.prog 3 = some ⟨1,false,8,[.int .i64 0],.int .i64⟩:=by kernel_rfl
@[go_sem] theorem ty4:gL Tryz.prog 4 = some ⟨1,false,1,[.bool false],.bool⟩:=by kernel_rfl
@[go_sem] theorem ty5:gL Tryz.prog 5 = some ⟨1,false,1,[.int .u8 0],.int .u8⟩:=by kernel_rfl
@[go_sem] theorem ty9:gL Tryz.prog 9 = some ⟨1,false,16,[.str []],.str⟩:=by kernel_rfl
@[go_sem] theorem bH2:gL Tryz.prog 22 = some ⟨1,false,24,[.bO],.slice 140⟩:=by kernel_rfl
@[go_sem] theorem bH3:gL Tryz.prog 24 = some ⟨1,true,24,[.bO],.st [(0,22,1)]⟩:=by kernel_rfl
@[go_sem] theorem bH4:gL Tryz.prog 25 = some ⟨1,false,24,[.bO],.slice 2⟩:=by kernel_rfl
@[go_sem] theorem bH5:gL Tryz.prog 27 = some ⟨1,false,24,[.bO],.slice 25⟩:=by kernel_rfl
@[go_sem] theorem bH6:gL Tryz.prog 30 = some ⟨1,false,24,[.bO],.slice 77⟩:=by kernel_rfl
@[go_sem] theorem bH7:gL Tryz.prog 32 = some ⟨1,true,24,[.bO],.st [(0,30,1)]⟩:=by kernel_rfl
@[go_sem] theorem bH8:gL Tryz.prog 45 = some ⟨1,false,24,[.bO],.slice 5⟩:=by kernel_rfl
@[go_sem] theorem bH9:gL Tryz.prog 52 = some ⟨1,false,24,[.bO],.slice 126⟩:=by kernel_rfl
@[go_sem] theorem bIA:gL Tryz.prog 53 = some ⟨1,false,24,[.bO],.slice 213⟩:=by kernel_rfl
@[go_sem] theorem bIB:gL Tryz.prog 55 = some ⟨4,true,80,[.int .i64 0,.bO,.bO,.bO],.st [(0,2,1),(1,52,1),(2,53,1),(3,25,1)]⟩:=by kernel_rfl
@[go_sem] theorem bIC:gL Tryz.prog 73 = some ⟨1,false,8,[.iH],.ptr 32⟩:=by kernel_rfl
@[go_sem] theorem bID:gL Tryz.prog 75 = some ⟨1,false,24,[.bO],.slice 173⟩:=by kernel_rfl
@[go_sem] theorem bIE:gL Tryz.prog 77 = some ⟨3,true,48,[.str [],.int .i64 0,.bO],.st [(0,9,1),(1,2,1),(2,75,1)]⟩:=by kernel_rfl
@[go_sem] theorem bIF:gL Tryz.prog 88 = some ⟨1,false,24,[.bO],.slice 27⟩:=by kernel_rfl
@[go_sem] theorem bGZ:gL Tryz.prog 104 = some ⟨1,false,8,[.iH],.ptr 165⟩:=by kernel_rfl
@[go_sem] theorem bG0:gL Tryz.prog 123 = some ⟨8,true,144,[.bO,.int .i64 0,.bO,.bO,.bO,.bO,.int .i64 0,.int .i64 0],.st [(0,32,1),(1,55,4),(5,25,1),(6,2,1),(7,2,1)]⟩:=by kernel_rfl
@[go_sem] theorem bG1:gL Tryz.prog 126 = some ⟨4,true,32,[.int .i64 0,.int .i64 0,.int .i64 0,.int .i64 0],.st [(0,2,1),(1,2,1),(2,2,1),(3,2,1)]⟩:=by kernel_rfl
@[go_sem] theorem bG2:gL Tryz.prog 138 = some ⟨1,false,24,[.bO],.slice 219⟩:=by kernel_rfl
@[go_sem] theorem bG3:gL Tryz.prog 140 = some ⟨3,true,48,[.str [],.int .i64 0,.bO],.st [(0,9,1),(1,2,1),(2,138,1)]⟩:=by kernel_rfl
@[go_sem] theorem bG4:gL Tryz.prog 143 = some ⟨6,true,112,[.iH,.int .i64 0,.bO,.bO,.bO,.bO],.st [(0,73,1),(1,55,4),(5,25,1)]⟩:=by kernel_rfl
@[go_sem] theorem bG5:gL Tryz.prog 158 = some ⟨4,true,32,[.iH,.int .i64 0,.int .i64 0,.int .i64 0],.st [(0,73,1),(1,3,1),(2,2,1),(3,2,1)]⟩:=by kernel_rfl
@[go_sem] theorem bG6:gL Tryz.prog 163 = some ⟨1,false,8,[.int .u64 0],.int .u64⟩:=by kernel_rfl
@[go_sem] theorem bG7:gL Tryz.prog 165 = some ⟨3,true,40,[.bO,.int .i64 0,.int .u64 0],.st [(0,45,1),(1,3,1),(2,163,1)]⟩:=by kernel_rfl
@[go_sem] theorem bG8:gL Tryz.prog 167 = some ⟨1,false,24,[.bO],.slice 9⟩:=by kernel_rfl
@[go_sem] theorem bG9:gL Tryz.prog 171 = some ⟨4,true,32,[.iH,.iH,.int .i64 0,.bool false],.st [(0,104,1),(1,73,1),(2,2,1),(3,4,1)]⟩:=by kernel_rfl
@[go_sem] theorem bHA:gL Tryz.prog 173 = some ⟨5,true,56,[.int .i64 0,.int .i64 0,.int .i64 0,.int .i64 0,.bO],.st [(0,2,1),(1,2,1),(2,2,1),(3,2,1),(4,75,1)]⟩:=by kernel_rfl
@[go_sem] theorem bHB:gL Tryz.prog 192 = some ⟨4,true,48,[.bO,.int .i64 0,.int .i64 0,.int .i64 0],.st [(0,32,1),(1,3,1),(2,2,1),(3,2,1)]⟩:=by kernel_rfl
@[go_sem] theorem bHC:gL Tryz.prog 213 = some ⟨2,true,16,[.int .i64 0,.bool false],.st [(0,2,1),(1,4,1)]⟩:=by kernel_rfl
@[go_sem] theorem bHD:gL Tryz.prog 219 = some ⟨5,true,56,[.int .i64 0,.int .i64 0,.int .i64 0,.int .i64 0,.bO],.st [(0,2,1),(1,2,1),(2,2,1),(3,2,1),(4,138,1)]⟩:=by kernel_rfl
@[go_sem] theorem bHE:gL Tryz.prog 227 = some ⟨2,true,32,[.bO,.int .i64 0],.st [(0,32,1),(1,2,1)]⟩:=by kernel_rfl
@[go_sem] def bC:Marks:=fun _=>([],.nil,[])
@[go_sem] def bM:List Nat:=[]
@[go_sem] def aAN:List Nat:=[0,2]
@[go_sem] def aBZ:List Nat:=[0,1,4]
@[go_sem] def aN9:List Nat:=[2]
@[go_sem] def aAO:List Nat:=[1]
@[go_sem] def aD7:List Nat:=[3]
@[go_sem] def uL:List Nat:=[0,2,3,4,11]
@[go_sem] def tA:List Nat:=[0,1,4,5,9]
@[go_sem] def aOA:List Nat:=[0,1,2,3]
@[go_sem] def aBM:List Nat:=[0,1,4,5,6,11]
@[go_sem] def aGW:List Nat:=[0,1,4,5,11,15,25]
@[go_sem] def aGX:List Nat:=[0,1,4,5,10,14,26]
@[go_sem] def aGY:Marks:=fun id=>match id with | 6=>([],(.op 0 (.op 1 (.op 2 (.op 3 (.op 4 (.op 5 (.op 6 (.op 7 (.op 8 (.op 9 .nil)))))))))),[]) | _=>([],.nil,[])
@[go_sem] def aU8:List Nat:=[2,3]
@[go_sem] def aGZ:List Nat:=[0,2,3,4,9]
@[go_sem] def a2B:List Nat:=[0,1,2,6]
@[go_sem] def aQH:List Nat:=[0,1,4,5,7,8,9,16]
@[go_sem] def aQI:List Nat:=[0,1,2,3,5,7,8,9,10]
@[go_sem] def a2C:List Nat:=[0,2,3,7]
@[go_sem] def aQJ:List Nat:=[0,1,4,5,6,11,12,13]
@[go_sem] def aQK:List Nat:=[0,1,2,6,7,8,16]
@[go_sem] def aQL:List Nat:=[9,29]
@[go_sem] def aBN:List Nat:=[0,1,2,6,7,8,9,10,18,49,67]
@[go_sem] def aBO:List Nat:=[11,31]
@[go_sem] def aBP:Marks:=fun id=>match id with | 6=>([3],(.op 0 (.op 1 (.op 2 (.op 7 (.op 8 (.op 9 (.op 10 (.op 3 (.op 4 (.op 5 (.op 6 (.op 11 (.op 12 .nil))))))))))))),[]) | 8=>([11],(.op 0 (.op 1 (.op 2 (.op 3 (.op 4 (.op 5 (.op 6 (.op 7 (.op 8 (.op 9 (.op 10 (.op 11 (.op 12 .nil))))))))))))),[]) | _=>([],.nil,[])
@[go_sem] def aQM:List Nat:=[0,2,3,5,7,8,9,10]
@[go_sem] def aQN:List Nat:=[0,1,2,4,6]
@[go_sem] def aQO:List Nat:=[10,22]
@[go_sem] def a2D:List Nat:=[0,1,2,4,10]
@[go_sem] def a2E:List Nat:=[0,1,2,4]
theorem mix:Tryz.prog.follows .mixedOrders = true:=by kernel_rfl
abbrev I (n:Int):aC:=.int .i64 n
abbrev ints (l:List Int):aC:=.sl 1 (l.map fun n=>[I n]) false
abbrev cY {α:Type} (sz:Nat) (c:α→List aC) (l:List α):aC:=.sl sz (l.map c) false
def InI (n:Int):Prop:=-9223372036854775808≤n∧n≤9223372036854775807
def x5 (left:Int) (n:Nat):Int:=if left - n < 0 then -1 else left - n
theorem oB (left:Int) (n:Nat):(x5 left n = -1∧left - n < 0)∨(x5 left n = left - n∧0≤left - n):=by
 unfold x5;split
 ·exact .inl ⟨rfl,by assumption⟩
 ·exact .inr ⟨rfl,by omega⟩
theorem oJ {left:Int} {n:Nat} (h:left - n < 0):x5 left n = -1:=if_pos h
theorem tB {left:Int} {n:Nat} (h:0≤left - n):x5 left n = left - n:=if_neg (by omega)
theorem aD8 {left L:Int} {n:Nat} (h:x5 left n = L):(L < 0→left - n < 0)∧(¬ L < 0→L = left - n):=by
 subst h;unfold x5;split <;> constructor <;> intros <;> omega
theorem gK {α:Type} (s:α→Nat) (l:List α) (k:Nat) (h:k < l.length):((l.take (k + 1)).map s).sum = ((l.take k).map s).sum + s l[k]:=by
 rw [List.take_succ_eq_append_getElem h,List.map_append,List.sum_append];simp only [List.map_cons,List.map_nil,List.sum_cons,List.sum_nil,Nat.add_zero]
theorem lU {α:Type} (s:α→Nat):∀ (l:List α) (k:Nat),((l.take k).map s).sum≤(l.map s).sum
 | [],k=>by simp
 |a :: l,0=>by simp
 |a :: l,k + 1=>by have:=lU s l k;simp only [List.take_succ_cons,List.map_cons,List.sum_cons];omega
theorem kS {α:Type} (s:α→Nat) {l:List α} {x:α} (h:x∈l):s x≤(l.map s).sum:=by
 induction l with
 |nil=>simp at h
 |cons a l ih =>
  simp only [List.map_cons,List.sum_cons]
  rcases List.mem_cons.1 h with rfl | h
  ·omega
  ·have:=ih h;omega
def lV {α:Type} (f:α→List aC) (z:List aC) (a:List α) (k:Nat):List (List Cell):=((a.take k).map f ++ List.replicate (a.length - k) z).map (List.map .v)
theorem oT {α:Type} (f:α→List aC) (z:List aC) (a:List α):lV f z a 0 = List.map (List.map .v) (List.replicate a.length z):=by simp [lV]
theorem p8 {α:Type} (f:α→List aC) (z:List aC) (a:List α):lV f z a a.length = (a.map f).map (List.map .v):=by simp [lV]
theorem lW {α:Type} (f:α→List aC) (z:List aC) (a:List α) (k:Nat) (h:k < a.length):(lV f z a k)[k]? = some (z.map .v):=by
 have:((a.take k).map f).length = k:=by simp;omega
 simp only [lV,List.getElem?_map]
 rw [List.getElem?_append_right (by omega),this]
 have h0:0 < a.length - k:=by omega
 simp [h0]
theorem aOB {α:Type} (f:α→List aC) (z:List aC) (a:List α) (k:Nat) (h:k < a.length) (e:List Cell) (he:e = (f a[k]).map .v):(lV f z a k).set k e = lV f z a (k + 1):=by
 subst he
 have h1:((a.take k).map f).length = k:=by simp;omega
 simp only [lV]
 rw [← List.map_set,List.set_append_right _ _ (by omega),h1,Nat.sub_self,List.take_succ_eq_append_getElem h,show a.length - k = (a.length - (k + 1)) + 1 by omega,List.replicate_succ,List.set_cons_zero]
 simp only [List.map_append,List.map_cons,List.map_nil,List.append_assoc,List.cons_append,List.nil_append]
theorem yV {α:Type} {f:α→List aC} {z:List aC} {a:List α} {k:Nat} {h:aA} {n sz:Nat} {e:List Cell} (hk:k < a.length) (he:e = (f a[k]).map .v) :
  (a7 h n (.row sz (lV f z a (k + 1)))).le (a7 (a7 h n (.row sz (lV f z a k))) n (.row sz ((lV f z a k).set k e))):=by
 rw [aOB f z a k hk e he,aO]
 exact aA.le_refl _
theorem cF (h:aA) (n m:Nat) (o:bH):a7 h n o m = if m = n then some o else h m:=rfl
theorem getElem_of_eq {α:Type} {a b:List α} (e:a = b) {k:Nat} (ha:k < a.length) {hb:k < b.length}:a[k] = b[k]:=by subst e;rfl
theorem wB {α:Type} {a b:List α} {k:Nat} (ha:k < a.length) (hb:k < b.length) (hp:a.take k = b.take k) (he:a[k] = b[k]):a.take (k + 1) = b.take (k + 1):=by
 rw [List.take_succ_eq_append_getElem ha,List.take_succ_eq_append_getElem hb,hp,he]
theorem tC {α:Type} {a b:List α} (hl:a.length = b.length) (h:a.take a.length = b.take a.length):a = b:=by
 rw [List.take_length,hl,List.take_length] at h;exact h
theorem kN (l:List (List aC)):dP (l.map (List.map .v)) = l:=by
 induction l with
 |nil=>rfl
 |cons e l ih =>
  have:z5 (e.map Cell.v) = e:=by
   induction e with
   |nil=>rfl
   |cons x e ih=>simp only [List.map_cons,z5,Cell.val,ih]
  simp only [dP,List.map_cons] at ih ⊢
  rw [ih,this]
theorem oC {h h':aA} {n sz:Nat} (es:List (List aC)) (h0:h n = none) (hl:(a7 h n (.row sz (es.map (List.map .v)))).le h') (len:Nat) (e:len = es.length):Shift (.os n sz 0 len) h' (.sl sz es false) h:=by
 subst e
 refine (Shift.of (Sub.refl _) hl).trans ((Shift.cR (aH _ _ _) (by simp [dF])).trans ?_)
 have:aC.cR n (dP (es.map (List.map .v))) (.os n sz 0 es.length) = .sl sz es false:=by simp [aC.cR,kN]
 rw [this]
 exact cG ((bI h0).2 ((bI h0).2 (aA.le_refl h)))
theorem bW {α β:Type} {f:α→β} {l:List α} {k:Nat} (h:k < l.length):(l.map f)[k]? = some (f l[k]):=by
 rw [List.getElem?_map,List.getElem?_eq_getElem h];rfl
theorem p9 {α:Type} {P:α→Prop} {l:List α} {k:Nat} (h:k < l.length) (hp:∀ x∈l.take k,P x) (he:P l[k]):∀ x∈l.take (k + 1),P x:=by
 rw [List.take_succ_eq_append_getElem h]
 intro x hx
 rcases List.mem_append.1 hx with hx | hx
 ·exact hp x hx
 ·rw [List.mem_singleton.1 hx];exact he
def idxOf {α:Type} (p:α→Bool) (l:List α):Int:=match l.findIdx? p with | some i=>i | none=>-1
theorem tD {α:Type} {p:α→Bool} {l:List α} (h:∀ x∈l,p x = false):idxOf p l = -1:=by
 have:l.findIdx? p = none:=List.findIdx?_eq_none_iff.2 h
 simp only [idxOf,this]
theorem tE {α:Type} {p:α→Bool} {l:List α} {k:Nat} (hk:k < l.length) (h:∀ x∈l.take k,p x = false) (he:p l[k] = true):idxOf p l = k:=by
 have:l.findIdx? p = some k:=by
  rw [List.findIdx?_eq_some_iff_getElem]
  refine ⟨hk,he,fun j hj=>?_⟩
  have:=h l[j] (List.mem_take_iff_getElem.2 ⟨j,by omega,rfl⟩)
  simp [this]
 simp only [idxOf,this]
theorem pJ {α:Type} {p:α→Bool} {l:List α}:decide (0≤idxOf p l) = l.any p:=by
 unfold idxOf
 cases h:l.findIdx? p with
 |none =>
  have:=List.findIdx?_eq_none_iff.1 h
  simp only
  rw [Bool.eq_false_iff.2 (show l.any p≠true from ?_)]
  ·simp
  ·intro hx
   obtain ⟨x,hx,hp⟩:=List.any_eq_true.1 hx
   rw [this x hx] at hp;cases hp
 |some i =>
  obtain ⟨hi,hp,_⟩:=List.findIdx?_eq_some_iff_getElem.1 h
  have:l.any p = true:=List.any_eq_true.2 ⟨_,List.getElem_mem hi,hp⟩
  rw [this];simp
def fP (n:Int):Prop:=0≤n∧n≤1000002
instance (n:Int):Decidable (fP n):=inferInstanceAs (Decidable (0≤n∧n≤1000002))
def hH (l:List Int):Prop:=∀ x∈l,fP x
instance (l:List Int):Decidable (hH l):=inferInstanceAs (Decidable (∀ x∈l,fP x))
theorem aZB {α:Type} {P:α→Prop} [DecidablePred P] {l:List α} [Decidable (∀ x∈l,P x)]:(!l.any fun x=>!decide (P x)) = decide (∀ x∈l,P x):=by
 rw [Bool.eq_iff_iff]
 simp [List.any_eq_false]
inductive aB where
 |mk (aR:Int) (aW:Int) (cB:Int) (bZ:Int) (aI:(List aB))
def aB.aR:aB→Int
 | .mk aR aW cB bZ aI=>aR
def aB.aW:aB→Int
 | .mk aR aW cB bZ aI=>aW
def aB.cB:aB→Int
 | .mk aR aW cB bZ aI=>cB
def aB.bZ:aB→Int
 | .mk aR aW cB bZ aI=>bZ
def aB.aI:aB→(List aB)
 | .mk aR aW cB bZ aI=>aI
mutual
def aB.c:aB→List aC
 | .mk aR aW cB bZ aI=>[(.int .i64 aR),(.int .i64 aW),(.int .i64 cB),(.int .i64 bZ),.sl 5 (aB.cL aI) false]
def aB.cL:List aB→List (List aC)
 | []=>[]
 |x :: l=>x.c :: aB.cL l
end
mutual
def aB.s:aB→Nat
 | .mk aR aW cB bZ aI=>(aI.length + aB.sL aI)
def aB.sL:List aB→Nat
 | []=>0
 |x :: l=>x.s + aB.sL l
end
theorem aB.aU9:∀ l,aB.cL l = l.map aB.c
 | []=>rfl
 |x :: l=>by simp only [aB.cL,List.map_cons,aB.aU9 l]
theorem aB.aVA:∀ l,aB.sL l = (l.map aB.s).sum
 | []=>rfl
 |x :: l=>by simp only [aB.sL,List.map_cons,List.sum_cons,aB.aVA l]
theorem aB.aQ (x:aB):x.c = [(.int .i64 x.aR),(.int .i64 x.aW),(.int .i64 x.cB),(.int .i64 x.bZ),(cY 5 aB.c x.aI)]:=by cases x;simp only [aB.c,aB.aU9,cY];rfl
theorem aB.oD (x:aB):x.s = (qR aB.s x.aI):=by cases x;simp only [aB.s,aB.aVA,qR];rfl
theorem aB.qA {x y:aB} (h:y∈x.aI):SizeOf.sizeOf y < SizeOf.sizeOf x:=by
 cases x
 have:=List.sizeOf_lt_of_mem h
 simp only [aB.aI] at this
 simp only [aB.mk.sizeOf_spec];omega
@[simp] theorem aB.aQP (x:aB):x.c.length = 5:=by rw [aB.aQ];rfl
inductive aB.wf:aB→Prop
 |mk (x:aB) (h0:InI x.aR) (h1:InI x.aW) (h2:InI x.cB) (h3:InI x.bZ) (hk:∀ y∈x.aI,y.wf):x.wf
theorem aB.eq_iff {a b:aB}:a = b ↔ a.aR = b.aR∧a.aW = b.aW∧a.cB = b.cB∧a.bZ = b.bZ∧a.aI = b.aI:=by cases a;cases b;simp [aB.aR,aB.aW,aB.cB,aB.bZ,aB.aI]
noncomputable instance:DecidableEq aB:=fun a b=>Classical.propDecidable (a = b)
structure aS where
 iA:(List UInt8)
 a9:Int
 aL:(List aB)
def aS.c (x:aS):List aC:=[(.str x.iA),(.int .i64 x.a9),(cY 5 aB.c x.aL)]
def aS.s (x:aS):Nat:=x.iA.length + (qR aB.s x.aL)
theorem aS.aQ (x:aS):x.c = [(.str x.iA),(.int .i64 x.a9),(cY 5 aB.c x.aL)]:=rfl
theorem aS.oD (x:aS):x.s = x.iA.length + (qR aB.s x.aL):=rfl
@[simp] theorem aS.aQP (x:aS):x.c.length = 3:=by rw [aS.aQ];rfl
def aS.wf (x:aS):Prop:=InI x.a9∧(∀ y∈x.aL,y.wf)
theorem aS.eq_iff {a b:aS}:a = b ↔ a.iA = b.iA∧a.a9 = b.a9∧a.aL = b.aL:=by cases a;cases b;simp
noncomputable instance:DecidableEq aS:=fun a b=>Classical.propDecidable (a = b)
structure aE where
 aJ:(List aS)
def aE.c (x:aE):List aC:=[(cY 3 aS.c x.aJ)]
def aE.s (x:aE):Nat:=(qR aS.s x.aJ)
theorem aE.aQ (x:aE):x.c = [(cY 3 aS.c x.aJ)]:=rfl
theorem aE.oD (x:aE):x.s = (qR aS.s x.aJ):=rfl
@[simp] theorem aE.aQP (x:aE):x.c.length = 1:=by rw [aE.aQ];rfl
def aE.wf (x:aE):Prop:=(∀ y∈x.aJ,y.wf)
theorem aE.eq_iff {a b:aE}:a = b ↔ a.aJ = b.aJ:=by cases a;cases b;simp
noncomputable instance:DecidableEq aE:=fun a b=>Classical.propDecidable (a = b)
set_option maxRecDepth 100000
theorem eH (n a b:Int):dI Tryz.prog 86 [I n,I a,I b] (.bool (decide (a≤n∧n≤b))):=by
 refine dJ 15 a2B bM bC mix Tryz.func86 rfl (by kernel_rfl) (by simp) fun h=>?_
 simp -dsimp -implicitDefEqProofs only [go_sem,↓reduceIte,Tryz.f86]
 repeat' (with_reducible first | intro _ | refine And.intro ?_ ?_)
 all_goals try (first | (simp [*];done) | omega | grind)
theorem within (n a b:Int):dI Tryz.prog 116 [I n,I a,I b] (.bool (decide (a≤n∧n≤b))):=by
 refine dJ 15 a2B bM bC mix Tryz.func116 rfl (by kernel_rfl) (by simp) fun h=>?_
 simp -dsimp -implicitDefEqProofs only [go_sem,↓reduceIte,Tryz.f116]
 repeat' (with_reducible first | intro _ | refine And.intro ?_ ?_)
 all_goals try (first | (simp [*];done) | omega | grind)
theorem mZ (n:Int):dI Tryz.prog 183 [I n] (.bool (decide (fP n))):=by
 refine dJ 5 aAN bM bC mix Tryz.func183 rfl (by kernel_rfl) (by simp) fun h=>?_
 simp -dsimp -implicitDefEqProofs only [go_sem,↓reduceIte,Tryz.f183]
 first | refine aG.mk (eH n 0 1000002) ?_ | refine aD.mk (eH n 0 1000002) ?_ | refine aG.a5 (eH n 0 1000002) ?_ | refine aD.mk (aX.cD (eH n 0 1000002)) ?_
 simp -dsimp -implicitDefEqProofs only [go_sem,↓reduceIte,Tryz.f183]
 all_goals rfl
theorem oU (n:Int):dI Tryz.prog 168 [I n] (.bool (decide (fP n))):=by
 refine dJ 5 aAN bM bC mix Tryz.func168 rfl (by kernel_rfl) (by simp) fun h=>?_
 simp -dsimp -implicitDefEqProofs only [go_sem,↓reduceIte,Tryz.f168]
 first | refine aG.mk (within n 0 1000002) ?_ | refine aD.mk (within n 0 1000002) ?_ | refine aG.a5 (within n 0 1000002) ?_ | refine aD.mk (aX.cD (within n 0 1000002)) ?_
 simp -dsimp -implicitDefEqProofs only [go_sem,↓reduceIte,Tryz.f168]
 all_goals rfl
@[go_sem] def aQQ:List Nat:=[0,2,3,7,15]
theorem tF (l:List Int):dI Tryz.prog 124 [cY 1 (fun n=>[I n]) l] (.bool (decide (hH l))):=by
 refine dJ 16 aQQ bM bC mix Tryz.func124 rfl (by kernel_rfl) (by simp) fun h=>?_
 simp -dsimp -implicitDefEqProofs only [go_sem,↓reduceIte,Tryz.f124]
 refine bQ (keep:=aQQ) (ib:=bM) (mk:=bC) mix (by kernel_rfl) (fun k:Nat=>[(0,cY 1 (fun n=>[I n]) l),(3,I k)]) (fun _=>h) (fun k=>k≤(l).length∧∀ x∈(l).take k,fP x) (fun k=>(l).length - k) 0 (by simp [bU,bF,aA.le_refl]) ?_
 intro k ⟨hk,hp⟩
 rcases Nat.lt_or_ge k (l).length with hlt | hge
 ·have ea:(l)[k]? = some (l)[k]:=List.getElem?_eq_getElem hlt
  simp -dsimp -implicitDefEqProofs only [go_sem,↓reduceIte,Tryz.f124,ea]
  repeat' (with_reducible first | intro _ | refine And.intro ?_ ?_)
  all_goals try omega
  first | refine aG.mk (mZ l[k]) ?_ | refine aD.mk (mZ l[k]) ?_ | refine aG.a5 (mZ l[k]) ?_ | refine aD.mk (aX.cD (mZ l[k])) ?_
  simp -dsimp -implicitDefEqProofs only [go_sem,↓reduceIte,Tryz.f124]
  repeat' (with_reducible first | intro _ | refine And.intro ?_ ?_)
  ·rename_i he
   exact (decide_eq_false fun e=>he (e _ (List.getElem_mem hlt))).symm
  ·rename_i he
   refine ⟨k + 1,?_⟩
   repeat' (with_reducible refine And.intro ?_ ?_)
   all_goals try (rw [IntWalk.i64_in _ (by omega)];first | rfl | omega)
   all_goals try omega
   all_goals try (repeat' (with_reducible first | exact aA.le_refl _ | refine (bI (by first | assumption | exact And.right (by assumption) | exact b8.2 (by assumption))).2 ?_))
   exact p9 hlt hp he
 ·have hk':k = (l).length:=by omega
  subst hk'
  rw [List.take_length] at hp
  simp -dsimp -implicitDefEqProofs only [go_sem,↓reduceIte,Tryz.f124,Nat.lt_irrefl]
  intro _
  exact (decide_eq_true hp).symm
theorem aLG (a:List Int) (p:Int→Bool) (g:FuncId) (cap:List aC) {h0:aA} (hc:∀ x∈a,aX Tryz.prog g ([(.int .i64 x)] ++ cap) (.bool (p x)) h0):aX Tryz.prog 197 [(cY 1 (fun n=>[I n]) a),.fn (.func g) [] cap] (I (idxOf p a)) h0:=by
 refine aK9 19 aQH bM bC mix Tryz.func197 rfl (by kernel_rfl) (by simp) fun h hle=>?_
 simp -dsimp -implicitDefEqProofs only [go_sem,↓reduceIte,Tryz.f197,Tryz.f197]
 intro _
 refine bQ (keep:=aQH) (ib:=bM) (mk:=bC) mix (by kernel_rfl) (fun k:Nat=>[(0,(cY 1 (fun n=>[I n]) a)),(1,.fn (.func g) [] cap),(7,I a.length),(8,I k)]) (fun _=>h) (fun k=>k≤a.length∧∀ x∈a.take k,p x = false) (fun k=>a.length - k) 0 (by simp [bU,bF,aA.le_refl]) ?_
 intro k ⟨hk,hp⟩
 rcases Nat.lt_or_ge k a.length with hlt | hge
 ·have ea:a[k]? = some a[k]:=List.getElem?_eq_getElem hlt
  simp -dsimp -implicitDefEqProofs only [go_sem,↓reduceIte,Tryz.f197,Tryz.f197,ea]
  repeat' (with_reducible first | intro _ | refine And.intro ?_ ?_)
  all_goals try omega
  have hx:=hc a[k] (List.getElem_mem hlt)
  refine aG.a5 (hx.mono hle) ?_
  cases hpk:p a[k] with
  |true =>
   simp -dsimp -implicitDefEqProofs only [go_sem,↓reduceIte,Tryz.f197,Tryz.f197]
   repeat' (with_reducible first | intro _ | refine And.intro ?_ ?_)
   all_goals first | exact (tE hlt hp hpk).symm | rfl | (rw [tE hlt hp hpk])
  |false =>
   simp -dsimp -implicitDefEqProofs only [go_sem,↓reduceIte,Tryz.f197,Tryz.f197]
   refine ⟨k + 1,?_⟩
   repeat' (with_reducible refine And.intro ?_ ?_)
   all_goals try (rw [IntWalk.i64_in _ (by omega)];first | rfl | omega)
   all_goals try omega
   exact p9 (P:=fun x=>p x = false) hlt hp hpk
 ·have hk':k = a.length:=by omega
  subst hk'
  rw [List.take_length] at hp
  simp -dsimp -implicitDefEqProofs only [go_sem,↓reduceIte,Tryz.f197,Tryz.f197,Nat.lt_irrefl]
  all_goals first | exact (tD hp).symm | rw [tD hp]
theorem rA (a:List Int) (p:Int→Bool) (g:FuncId) (cap:List aC) {h0:aA} (hc:∀ x∈a,aX Tryz.prog g ([(.int .i64 x)] ++ cap) (.bool (p x)) h0):aX Tryz.prog 166 [(cY 1 (fun n=>[I n]) a),.fn (.func g) [] cap] (.bool (a.any p)) h0:=by
 refine aK9 9 aBZ bM bC mix Tryz.func166 rfl (by kernel_rfl) (by simp) fun h hle=>?_
 simp -dsimp -implicitDefEqProofs only [go_sem,↓reduceIte,Tryz.f166,Tryz.f166]
 refine aG.a5 ((aLG a p g cap hc).mono hle) ?_
 simp -dsimp -implicitDefEqProofs only [go_sem,↓reduceIte,Tryz.f166,Tryz.f166]
 all_goals first | done | exact pJ | rw [pJ]
theorem rC (n:Int):dI Tryz.prog 167 [I n] (.bool (!decide (fP n))):=by
 refine dJ 6 aAN bM bC mix Tryz.func167 rfl (by kernel_rfl) (by simp) fun h=>?_
 simp -dsimp -implicitDefEqProofs only [go_sem,↓reduceIte,Tryz.f167]
 first | refine aG.mk (oU n) ?_ | refine aD.mk (oU n) ?_ | refine aG.a5 (oU n) ?_ | refine aD.mk (aX.cD (oU n)) ?_
 simp -dsimp -implicitDefEqProofs only [go_sem,↓reduceIte,Tryz.f167]
theorem qB (l:List Int) (c:Int):dI Tryz.prog 93 [cY 1 (fun n=>[I n]) l,I c] (.bool (decide ((l.length:Int) = c∧hH l))):=by
 refine dJ 14 aBZ bM bC mix Tryz.func93 rfl (by kernel_rfl) (by simp) fun h=>?_
 simp -dsimp -implicitDefEqProofs only [go_sem,↓reduceIte,Tryz.f93]
 repeat' (with_reducible first | intro _ | refine And.intro ?_ ?_)
 all_goals try (first | (simp [*];done) | omega | grind)
 first | refine aG.mk (rA l (fun n=>!decide (fP n)) 167 [] fun x _=>(rC x).aY6) ?_ | refine aD.mk (rA l (fun n=>!decide (fP n)) 167 [] fun x _=>(rC x).aY6) ?_ | refine aG.a5 (rA l (fun n=>!decide (fP n)) 167 [] fun x _=>(rC x).aY6) ?_ | refine aD.mk (aX.cD (rA l (fun n=>!decide (fP n)) 167 [] fun x _=>(rC x).aY6)) ?_
 simp -dsimp -implicitDefEqProofs only [go_sem,↓reduceIte,Tryz.f93]
 rename_i e
 rw [aZB,decide_eq_decide]
 exact ⟨fun q=>⟨e,q⟩,fun q=>q.2⟩
def Low (c:UInt8):Prop:=97≤c.toNat∧c.toNat≤122
def Dig (c:UInt8):Prop:=48≤c.toNat∧c.toNat≤57
instance (c:UInt8):Decidable (Low c):=inferInstanceAs (Decidable (_∧_))
instance (c:UInt8):Decidable (Dig c):=inferInstanceAs (Decidable (_∧_))
def yW (s:List UInt8):Prop:=1≤s.length∧s.length≤12∧(∀ c,s[0]? = some c→Low c)∧∀ c∈s,Low c∨Dig c
noncomputable instance (s:List UInt8):Decidable (yW s):=Classical.propDecidable _
theorem aG0 {s:List UInt8} {k:Nat} {c:UInt8} (h:k < s.length) (ec:s[k] = c) (hp:∀ x∈s.take k,Low x∨Dig x) (he:Low c∨Dig c):∀ x∈s.take (k + 1),Low x∨Dig x :=
 p9 (P:=fun x=>Low x∨Dig x) h hp (by rw [ec];exact he)
theorem aLH {s:List UInt8} {k:Nat} {c:UInt8} (h:k < s.length) (ec:s[k] = c) (he:¬ (Low c∨Dig c)):false = decide (yW s) :=
 (decide_eq_false fun e=>he (ec ▸ e.2.2.2 _ (List.getElem_mem h))).symm
theorem aS1 {s:List UInt8} {k:Nat} {c:UInt8} (h:k < s.length) (h0:(k:Int) = 0) (ec:s[k] = c) (he:¬ Low c):false = decide (yW s) :=
 (decide_eq_false fun e => he (e.2.2.1 c (by have : k = 0 := by omega
                                             subst this;rw [List.getElem?_eq_getElem h,ec]))).symm
@[go_sem] def aIA:List Nat:=[0,2,3,17,21,45]
theorem tG (s:List UInt8):dI Tryz.prog 216 [.str s] (.bool (decide (yW s))):=by
 cases s with
 |nil =>
  refine dJ 46 aIA bM bC mix Tryz.func216 rfl (by kernel_rfl) (by simp) fun h=>?_
  simp -dsimp -implicitDefEqProofs only [go_sem,↓reduceIte,Tryz.f216]
  first | refine aG.mk (eH 0 1 12) ?_ | refine aD.mk (eH 0 1 12) ?_ | refine aG.a5 (eH 0 1 12) ?_ | refine aD.mk (aX.cD (eH 0 1 12)) ?_
  simp -dsimp -implicitDefEqProofs only [go_sem,↓reduceIte,Tryz.f216]
  repeat' (with_reducible first | intro _ | refine And.intro ?_ ?_)
  all_goals try (first | (simp [yW, *];done) | omega | (grind [yW]) | (simp [yW];omega))
 |cons c t =>
  refine dJ 46 aIA bM bC mix Tryz.func216 rfl (by kernel_rfl) (by simp) fun h=>?_
  simp -dsimp -implicitDefEqProofs only [go_sem,↓reduceIte,Tryz.f216,List.getElem?_cons_zero,Int.toNat_zero]
  intro _
  first | refine aG.mk (eH (c :: t).length 1 12) ?_ | refine aD.mk (eH (c :: t).length 1 12) ?_ | refine aG.a5 (eH (c :: t).length 1 12) ?_ | refine aD.mk (aX.cD (eH (c :: t).length 1 12)) ?_
  simp -dsimp -implicitDefEqProofs only [go_sem,↓reduceIte,Tryz.f216,List.getElem?_cons_zero,Int.toNat_zero]
  repeat' (with_reducible first | intro _ | refine And.intro ?_ ?_)
  all_goals try (first | (simp [yW,Low,Dig, *];done) | omega | (grind [yW,Low,Dig]) | (simp [yW,Low,Dig];omega))
  rename_i h0 h1 h2 h3
  generalize hs:c :: t = s at *
  refine bQ (keep:=aIA) (ib:=bM) (mk:=bC) mix (by kernel_rfl) (fun k:Nat=>[(0,.str s),(3,I k)]) (fun _=>h) (fun k=>k≤s.length∧∀ x∈s.take k,Low x∨Dig x) (fun k=>s.length - k) 0 (by simp [bU,bF,aA.le_refl]) ?_
  intro k ⟨hk,hp⟩
  rcases Nat.lt_or_ge k s.length with hlt | hge
  ·generalize ec:s[k] = d
   have ea:s[k]? = some d:=by rw [← ec];exact List.getElem?_eq_getElem hlt
   simp -dsimp -implicitDefEqProofs only [go_sem,↓reduceIte,Tryz.f216,ea,Int.toNat_natCast]
   repeat' (with_reducible first | intro _ | refine And.intro ?_ ?_)
   all_goals try omega
   all_goals try exact aLH hlt ec (by simp only [Low,Dig];omega)
   all_goals
    refine ⟨k + 1,?_⟩
    repeat' (with_reducible refine And.intro ?_ ?_)
    all_goals try (rw [IntWalk.i64_in _ (by omega)];first | rfl | omega)
    all_goals try omega
    all_goals try (repeat' (with_reducible first | exact aA.le_refl _ | refine (bI (by first | assumption | exact And.right (by assumption) | exact b8.2 (by assumption))).2 ?_))
    exact aG0 hlt ec hp (by simp only [Low,Dig];omega)
  ·have hk':k = s.length:=by omega
   subst hk'
   rw [List.take_length] at hp
   simp -dsimp -implicitDefEqProofs only [go_sem,↓reduceIte,Tryz.f216,Nat.lt_irrefl]
   have:s.length = t.length + 1:=by rw [← hs];rfl
   exact fun _=>(decide_eq_true ⟨by omega,by omega,fun x hx=>by rw [← hs] at hx;simp at hx;subst hx;simp only [Low];omega,hp⟩).symm
@[go_sem] def aQR:List Nat:=[0,2,3,5,6,7,34]
theorem aIB (s:List UInt8):dI Tryz.prog 198 [.str s] (.bool (decide (yW s))):=by
 refine dJ 44 aQR bM bC mix Tryz.func198 rfl (by kernel_rfl) (by simp) fun h=>?_
 simp -dsimp -implicitDefEqProofs only [go_sem,↓reduceIte,Tryz.f198]
 repeat' (with_reducible first | intro _ | refine And.intro ?_ ?_)
 refine bQ (keep:=aQR) (ib:=bM) (mk:=bC) mix (by kernel_rfl) (fun k:Nat=>[(0,.str s),(5,I s.length),(6,I k)]) (fun _=>h) (fun k=>k≤s.length∧(∀ x∈s.take k,Low x∨Dig x)∧(0 < k→∀ c,s[0]? = some c→Low c)) (fun k=>s.length - k) 0 (by simp [bU,bF,aA.le_refl]) ?_
 intro k ⟨hk,hp,hz⟩
 rcases Nat.lt_or_ge k s.length with hlt | hge
 ·generalize ec:s[k] = d
  have ea:s[k]? = some d:=by rw [← ec];exact List.getElem?_eq_getElem hlt
  have hz':Low d∨¬ ((k:Int) = 0)→∀ c,s[0]? = some c→Low c:=by
   intro q c hc
   by_cases h0:k = 0
   ·subst h0
    rw [ea] at hc
    obtain rfl:=Option.some.inj hc
    exact q.resolve_right (by simp)
   ·exact hz (by omega) c hc
  simp -dsimp -implicitDefEqProofs only [go_sem,↓reduceIte,Tryz.f198,ea,Int.toNat_natCast]
  repeat' (with_reducible first | intro _ | refine And.intro ?_ ?_)
  all_goals try omega
  all_goals try exact aLH hlt ec (by simp only [Low,Dig];omega)
  all_goals try exact aS1 hlt (by omega) ec (by simp only [Low];omega)
  all_goals
   refine ⟨k + 1,?_⟩
   repeat' (with_reducible refine And.intro ?_ ?_)
   all_goals try (rw [IntWalk.i64_in _ (by omega)];first | rfl | omega)
   all_goals try omega
   all_goals try (repeat' (with_reducible first | exact aA.le_refl _ | refine (bI (by first | assumption | exact And.right (by assumption) | exact b8.2 (by assumption))).2 ?_))
   all_goals first | exact aG0 hlt ec hp (by simp only [Low,Dig];omega) | exact fun _=>hz' (by simp only [Low];omega)
 ·have hk':k = s.length:=by omega
  subst hk'
  rw [List.take_length] at hp
  simp -dsimp -implicitDefEqProofs only [go_sem,↓reduceIte,Tryz.f198,Nat.lt_irrefl]
  repeat' (with_reducible first | intro _ | refine And.intro ?_ ?_)
  all_goals simp only [yW,decide_eq_decide,eq_comm (a:=false),decide_eq_false_iff_not]
  all_goals grind
mutual
def aB.d:aB→Nat
 | .mk _ _ _ _ kids=>aB.dL kids + 1
def aB.dL:List aB→Nat
 | []=>0
 |x :: l=>max x.d (aB.dL l)
end
theorem aB.bAI (x:aB):x.d = aB.dL x.aI + 1:=by cases x;rfl
theorem aB.aIC:∀ {l:List aB} {k:Nat} (h:k < l.length),aB.dL (l.take (k + 1)) = max (aB.dL (l.take k)) l[k].d
 |x :: l,0,_=>by simp [aB.dL]
 |x :: l,k + 1,h=>by
  have:=aB.aIC (l:=l) (k:=k) (by simpa using h)
  simp only [List.take_succ_cons,aB.dL,this,List.getElem_cons_succ]
  omega
mutual
theorem aB.a4O:∀ x:aB,x.d≤x.s + 1
 | .mk _ _ _ _ kids=>by
  have:=aB.a2F kids
  simp only [aB.d,aB.s];omega
theorem aB.a2F:∀ l:List aB,aB.dL l≤l.length + aB.sL l
 | []=>by simp [aB.dL]
 |x :: l=>by
  have h1:=aB.a4O x
  have h2:=aB.a2F l
  simp only [aB.dL,aB.sL,List.length_cons];omega
end
theorem aB.aBQ {x y:aB} (h:y∈x.aI):y.s < x.s:=by
 have h1:=kS aB.s h
 have h2:=List.length_pos_of_mem h
 rw [x.oD,fM];omega
theorem aB.aVB (x:aB) {k:Nat} (h:k < x.aI.length):k + ((x.aI.take k).map aB.s).sum + x.aI[k].s + 1≤x.s:=by
 have h1:=gK aB.s x.aI k h
 have h2:=lU aB.s x.aI (k + 1)
 rw [x.oD,fM];omega
theorem aB.a2G (x:aB):x.aI.length + ((x.aI.take x.aI.length).map aB.s).sum = x.s:=by
 rw [List.take_length,x.oD,fM]
theorem aGA (x:aB) (hs:x.s≤4294967296) (hc:∀ y∈x.aI,dI Tryz.prog 202 [.agg y.c] (I ((y.s:Int) + 1))):dI Tryz.prog 202 [.agg x.c] (I ((x.s:Int) + 1)):=by
 have hx:=x.a2G
 rw [aB.aQ x]
 refine dJ 19 aQI aAO bC mix Tryz.func202 rfl (by kernel_rfl) (by simp) fun h=>?_
 simp -dsimp -implicitDefEqProofs only [go_sem,↓reduceIte,Tryz.f202]
 repeat' (with_reducible first | intro _ | refine And.intro ?_ ?_)
 refine bQ (keep:=aQI) (ib:=aAO) (mk:=bC) mix (by kernel_rfl) (fun k:Nat=>[(1,.ip 5 [x.c] 0 0),(3,I (1 + k + (((x.aI.take k).map aB.s).sum:Int))),(7,cY 5 aB.c x.aI),(8,I x.aI.length),(9,I k)]) (fun _=>h) (fun k=>k≤x.aI.length) (fun k=>x.aI.length - k) 0 (by simp [bU,bF,aA.le_refl,aB.aQ]) ?_
 intro k hk
 rcases Nat.lt_or_ge k x.aI.length with hlt | hge
 ·have ea:x.aI[k]? = some x.aI[k]:=List.getElem?_eq_getElem hlt
  have hp:=x.aVB hlt
  have h1:=gK aB.s x.aI k hlt
  have hcy:=hc x.aI[k] (List.getElem_mem hlt)
  simp only [aB.aQ] at hcy
  simp -dsimp -implicitDefEqProofs only [go_sem,↓reduceIte,Tryz.f202,ea,aB.aQ,aO]
  repeat' (with_reducible first | intro _ | refine And.intro ?_ ?_)
  all_goals try omega
  first | refine aG.mk (hcy) ?_ | refine aD.mk (hcy) ?_ | refine aG.a5 (hcy) ?_ | refine aD.mk (aX.cD (hcy)) ?_
  simp -dsimp -implicitDefEqProofs only [go_sem,↓reduceIte,Tryz.f202]
  rename_i n hn
  refine ⟨k + 1,?_⟩
  repeat' (with_reducible refine And.intro ?_ ?_)
  all_goals try (rw [IntWalk.i64_in _ (by omega)];first | rfl | omega)
  all_goals try omega
  all_goals try (repeat' (with_reducible first | exact aA.le_refl _ | refine (bI (by first | assumption | exact And.right (by assumption) | exact b8.2 (by assumption))).2 ?_))
  all_goals try (simp only [aB.aQ];done)
 ·have hk':k = x.aI.length:=by omega
  subst hk'
  simp -dsimp -implicitDefEqProofs only [go_sem,↓reduceIte,Tryz.f202,Nat.lt_irrefl]
  omega
theorem aD9 (x:aB) (hs:x.s≤4294967296):dI Tryz.prog 202 [.agg x.c] (I ((x.s:Int) + 1)) :=
 aGA x hs fun y hy=>aD9 y (by have:=aB.aBQ hy;omega)
termination_by SizeOf.sizeOf x
decreasing_by exact aB.qA hy
theorem aEA (x:aB) (hs:x.s≤4294967296) (hc:∀ y∈x.aI,dI Tryz.prog 221 [.agg y.c] (I (y.d:Int))):dI Tryz.prog 221 [.agg x.c] (I (x.d:Int)):=by
 have hd:=x.a4O
 rw [aB.bAI] at hd ⊢
 rw [aB.aQ x]
 refine dJ 20 aQI aAO bC mix Tryz.func221 rfl (by kernel_rfl) (by simp) fun h=>?_
 simp -dsimp -implicitDefEqProofs only [go_sem,↓reduceIte,Tryz.f221]
 repeat' (with_reducible first | intro _ | refine And.intro ?_ ?_)
 refine bQ (keep:=aQI) (ib:=aAO) (mk:=bC) mix (by kernel_rfl) (fun k:Nat=>[(1,.ip 5 [x.c] 0 0),(3,I (aB.dL (x.aI.take k):Int)),(7,cY 5 aB.c x.aI),(8,I x.aI.length),(9,I k)]) (fun _=>h) (fun k=>k≤x.aI.length) (fun k=>x.aI.length - k) 0 (by simp [bU,bF,aA.le_refl,aB.aQ,aB.dL]) ?_
 intro k hk
 rcases Nat.lt_or_ge k x.aI.length with hlt | hge
 ·have ea:x.aI[k]? = some x.aI[k]:=List.getElem?_eq_getElem hlt
  have h1:=aB.aIC hlt
  have hcy:=hc x.aI[k] (List.getElem_mem hlt)
  simp only [aB.aQ] at hcy
  simp -dsimp -implicitDefEqProofs only [go_sem,↓reduceIte,Tryz.f221,ea,aB.aQ,aO]
  repeat' (with_reducible first | intro _ | refine And.intro ?_ ?_)
  all_goals try omega
  first | refine aG.mk (hcy) ?_ | refine aD.mk (hcy) ?_ | refine aG.a5 (hcy) ?_ | refine aD.mk (aX.cD (hcy)) ?_
  simp -dsimp -implicitDefEqProofs only [go_sem,↓reduceIte,Tryz.f221]
  repeat' (with_reducible first | intro _ | refine And.intro ?_ ?_)
  all_goals try rfl
  rename_i n hn
  refine ⟨k + 1,?_⟩
  repeat' (with_reducible refine And.intro ?_ ?_)
  all_goals try (rw [IntWalk.i64_in _ (by omega)];first | rfl | omega)
  all_goals try omega
  all_goals try (repeat' (with_reducible first | exact aA.le_refl _ | refine (bI (by first | assumption | exact And.right (by assumption) | exact b8.2 (by assumption))).2 ?_))
  all_goals try (simp only [aB.aQ];done)
 ·have hk':k = x.aI.length:=by omega
  subst hk'
  simp -dsimp -implicitDefEqProofs only [go_sem,↓reduceIte,Tryz.f221,Nat.lt_irrefl]
  rw [List.take_length,IntWalk.i64_in _ (by omega)];omega
theorem aG1 (x:aB) (hs:x.s≤4294967296):dI Tryz.prog 221 [.agg x.c] (I (x.d:Int)) :=
 aEA x hs fun y hy=>aG1 y (by have:=aB.aBQ hy;omega)
termination_by SizeOf.sizeOf x
decreasing_by exact aB.qA hy
@[go_sem] def aQS:List Nat:=[0,1,4,5,18]
theorem aID (x:aB) (left:Int) (h0:0≤left) (h9:left≤4294967296) (hs:x.s≤4294967296) (hc:∀ y∈x.aI,∀ left:Int,0≤left→left≤4294967296→dI Tryz.prog 217 [.ip 5 [y.c] 0 0,I left] (I (x5 left (y.s + 1)))):dI Tryz.prog 217 [.ip 5 [x.c] 0 0,I left] (I (x5 left (x.s + 1))):=by
 have hx:=x.a2G
 rw [aB.aQ x]
 refine dJ 30 aQS bM bC mix Tryz.func217 rfl (by kernel_rfl) (by simp) fun h=>?_
 simp -dsimp -implicitDefEqProofs only [go_sem,↓reduceIte,Tryz.f217]
 repeat' (with_reducible first | intro _ | refine And.intro ?_ ?_)
 refine bQ (keep:=aQS) (ib:=bM) (mk:=bC) mix (by kernel_rfl) (fun k:Nat=>[(0,.ip 5 [x.c] 0 0),(1,I (x5 left (1 + k + ((x.aI.take k).map aB.s).sum))),(5,I k)]) (fun _=>h) (fun k=>k≤x.aI.length) (fun k=>x.aI.length - k) 0 (by simp [bU,bF,aA.le_refl,aB.aQ];rw [IntWalk.i64_in _ (by omega)];unfold x5;split <;> omega) ?_
 intro k hk
 rcases Nat.lt_or_ge k x.aI.length with hlt | hge
 ·have hp:=x.aVB hlt
  have h1:=gK aB.s x.aI k hlt
  rcases oB left (1 + k + ((x.aI.take k).map aB.s).sum) with ⟨e,hl⟩ | ⟨e,hl⟩
  ·rw [e,aB.aQ x]
   simp -dsimp -implicitDefEqProofs only [go_sem,↓reduceIte,Tryz.f217]
   repeat' (with_reducible first | intro _ | refine And.intro ?_ ?_)
   all_goals try omega
   exact (oJ (by omega)).symm
  ·rw [e,aB.aQ x]
   simp -dsimp -implicitDefEqProofs only [go_sem,↓reduceIte,Tryz.f217]
   repeat' (with_reducible first | intro _ | refine And.intro ?_ ?_)
   all_goals try omega
   first | refine aD.mk ((hc x.aI[k] (List.getElem_mem hlt) _ hl (by omega)).sub (by repeat' (first | exact fU.nil | refine fU.cons ?_ ?_ | exact Sub.refl _ | (rw [aB.aQ];exact Sub.refl _) | exact Sub.fQ rfl rfl rfl | exact Sub.ip (bW (by omega)) (by simp) | exact Sub.fQ (bW (by omega)) rfl rfl | exact Sub.ip (by simp [*]) (by simp) | exact Sub.fQ (by simp [*]) (by rfl) (by rfl)))) ?_ | refine aG.mk ((hc x.aI[k] (List.getElem_mem hlt) _ hl (by omega)).sub (by repeat' (first | exact fU.nil | refine fU.cons ?_ ?_ | exact Sub.refl _ | (rw [aB.aQ];exact Sub.refl _) | exact Sub.fQ rfl rfl rfl | exact Sub.ip (bW (by omega)) (by simp) | exact Sub.fQ (bW (by omega)) rfl rfl | exact Sub.ip (by simp [*]) (by simp) | exact Sub.fQ (by simp [*]) (by rfl) (by rfl)))) ?_
   simp -dsimp -implicitDefEqProofs only [go_sem,↓reduceIte,Tryz.f217]
   refine ⟨k + 1,?_⟩
   repeat' (with_reducible refine And.intro ?_ ?_)
   all_goals try (rw [IntWalk.i64_in _ (by omega)];first | rfl | omega)
   all_goals try omega
   all_goals try (repeat' (with_reducible first | exact aA.le_refl _ | refine (bI (by first | assumption | exact And.right (by assumption) | exact b8.2 (by assumption))).2 ?_))
   all_goals try (simp only [aB.aQ];done)
   all_goals (rw [h1];unfold x5;split <;> split <;> omega)
 ·have hk':k = x.aI.length:=by omega
  subst hk'
  rw [aB.aQ x]
  simp -dsimp -implicitDefEqProofs only [go_sem,↓reduceIte,Tryz.f217,Nat.lt_irrefl]
  rw [show 1 + x.aI.length + ((x.aI.take x.aI.length).map aB.s).sum = x.s + 1 by omega]
  exact fun _=>rfl
theorem yX (x:aB) (left:Int) (h0:0≤left) (h9:left≤4294967296) (hs:x.s≤4294967296):dI Tryz.prog 217 [.ip 5 [x.c] 0 0,I left] (I (x5 left (x.s + 1))) :=
 aID x left h0 h9 hs fun y hy left h0 h9=>yX y left h0 h9 (by have:=aB.aBQ hy;omega)
termination_by SizeOf.sizeOf x
decreasing_by exact aB.qA hy
@[go_sem] def aZC:List Nat:=[0,1,4,7]
theorem aIE (a b:Int):dI Tryz.prog 233 [I a,I b] (I (max a b)):=by
 refine dJ 10 aZC bM bC mix Tryz.func233 rfl (by kernel_rfl) (by simp) fun h=>?_
 simp -dsimp -implicitDefEqProofs only [go_sem,↓reduceIte,Tryz.f233]
 repeat' (with_reducible first | intro _ | refine And.intro ?_ ?_)
 all_goals omega
theorem aGB (x:aB) (hs:x.s≤4294967296) (hc:∀ y∈x.aI,dI Tryz.prog 228 [.ip 5 [y.c] 0 0] (I (y.d:Int))):dI Tryz.prog 228 [.ip 5 [x.c] 0 0] (I (x.d:Int)):=by
 have hd:=x.a4O
 rw [aB.bAI] at hd ⊢
 rw [aB.aQ x]
 refine dJ 25 uL bM bC mix Tryz.func228 rfl (by kernel_rfl) (by simp) fun h=>?_
 simp -dsimp -implicitDefEqProofs only [go_sem,↓reduceIte,Tryz.f228]
 repeat' (with_reducible first | intro _ | refine And.intro ?_ ?_)
 refine bQ (keep:=uL) (ib:=bM) (mk:=bC) mix (by kernel_rfl) (fun k:Nat=>[(0,.ip 5 [x.c] 0 0),(3,I (aB.dL (x.aI.take k):Int)),(4,I k)]) (fun _=>h) (fun k=>k≤x.aI.length) (fun k=>x.aI.length - k) 0 (by simp [bU,bF,aA.le_refl,aB.aQ,aB.dL]) ?_
 intro k hk
 rw [aB.aQ x]
 rcases Nat.lt_or_ge k x.aI.length with hlt | hge
 ·have h1:=aB.aIC hlt
  simp -dsimp -implicitDefEqProofs only [go_sem,↓reduceIte,Tryz.f228]
  repeat' (with_reducible first | intro _ | refine And.intro ?_ ?_)
  all_goals try omega
  first | refine aD.mk ((hc x.aI[k] (List.getElem_mem hlt)).sub (by repeat' (first | exact fU.nil | refine fU.cons ?_ ?_ | exact Sub.refl _ | (rw [aB.aQ];exact Sub.refl _) | exact Sub.fQ rfl rfl rfl | exact Sub.ip (bW (by omega)) (by simp) | exact Sub.fQ (bW (by omega)) rfl rfl | exact Sub.ip (by simp [*]) (by simp) | exact Sub.fQ (by simp [*]) (by rfl) (by rfl)))) ?_ | refine aG.mk ((hc x.aI[k] (List.getElem_mem hlt)).sub (by repeat' (first | exact fU.nil | refine fU.cons ?_ ?_ | exact Sub.refl _ | (rw [aB.aQ];exact Sub.refl _) | exact Sub.fQ rfl rfl rfl | exact Sub.ip (bW (by omega)) (by simp) | exact Sub.fQ (bW (by omega)) rfl rfl | exact Sub.ip (by simp [*]) (by simp) | exact Sub.fQ (by simp [*]) (by rfl) (by rfl)))) ?_
  simp -dsimp -implicitDefEqProofs only [go_sem,↓reduceIte,Tryz.f228]
  first | refine aG.mk (aIE _ _) ?_ | refine aD.mk (aIE _ _) ?_ | refine aG.a5 (aIE _ _) ?_ | refine aD.mk (aX.cD (aIE _ _)) ?_
  simp -dsimp -implicitDefEqProofs only [go_sem,↓reduceIte,Tryz.f228]
  refine ⟨k + 1,?_⟩
  repeat' (with_reducible refine And.intro ?_ ?_)
  all_goals try (rw [IntWalk.i64_in _ (by omega)];first | rfl | omega)
  all_goals try omega
  all_goals try (repeat' (with_reducible first | exact aA.le_refl _ | refine (bI (by first | assumption | exact And.right (by assumption) | exact b8.2 (by assumption))).2 ?_))
  all_goals try (simp only [aB.aQ];done)
 ·have hk':k = x.aI.length:=by omega
  subst hk'
  simp -dsimp -implicitDefEqProofs only [go_sem,↓reduceIte,Tryz.f228,Nat.lt_irrefl]
  intro _
  rw [List.take_length,IntWalk.i64_in _ (by omega)];omega
theorem aEB (x:aB) (hs:x.s≤4294967296):dI Tryz.prog 228 [.ip 5 [x.c] 0 0] (I (x.d:Int)) :=
 aGB x hs fun y hy=>aEB y (by have:=aB.aBQ hy;omega)
termination_by SizeOf.sizeOf x
decreasing_by exact aB.qA hy
def fG (k:Int):Int:=if k = 1∨k = 2 then 0 else if k = 3∨k = 4∨k = 5∨k = 6∨k = 9 then 2 else if k = 7 then 1 else if k = 8 then 3 else -1
def mR (p:aE) (e:aB) (vars funcs:Int):Prop :=
 if e.aR = 10∨e.aR = 11 then
  0≤e.aW∧e.aW≤funcs - 1∧∀ f,p.aJ[e.aW.toNat]? = some f →
   0≤e.cB∧e.cB≤(f.aL.length:Int) - 1∧(e.aI.length:Int) = f.a9∧(e.aR = 10→e.bZ = 0)∧(e.aR = 11→0≤e.bZ∧e.bZ≤8∧(f.aL.length:Int) = f.a9)
 else fG e.aR = e.aI.length∧e.cB = 0∧e.bZ = 0∧(e.aR = 1→fP e.aW)∧(e.aR = 2→0≤e.aW∧e.aW≤vars - 1)∧(e.aR≠1→e.aR≠2→e.aW = 0)
noncomputable instance (p:aE) (e:aB) (vars funcs:Int):Decidable (mR p e vars funcs):=Classical.propDecidable _
def kG (kind:Int) (i:Nat) (vars:Int):Int:=if kind = 9∧i = 1 then vars + 1 else vars
mutual
def aB.ok (p:aE) (funcs:Int):aB→Int→Prop
 | .mk a b c d kids,vars=>mR p (.mk a b c d kids) vars funcs∧aB.okL p funcs a kids 0 vars
def aB.okL (p:aE) (funcs:Int) (kind:Int):List aB→Nat→Int→Prop
 | [],_,_=>True
 |x :: l,i,vars=>x.ok p funcs (kG kind i vars)∧aB.okL p funcs kind l (i + 1) vars
end
noncomputable instance (p:aE) (funcs:Int) (e:aB) (vars:Int):Decidable (e.ok p funcs vars):=Classical.propDecidable _
theorem aB.aQT (p:aE) (funcs kind:Int):∀ (l:List aB) (i:Nat) (vars:Int),aB.okL p funcs kind l i vars ↔ ∀ (k:Nat) (h:k < l.length),l[k].ok p funcs (kG kind (i + k) vars)
 | [],i,vars=>by simp [aB.okL]
 |x :: l,i,vars=>by
  rw [aB.okL,aB.aQT p funcs kind l (i + 1) vars]
  constructor
  ·rintro ⟨h1,h2⟩ k hk
   cases k with
   |zero=>exact h1
   |succ k=>have:=h2 k (by simpa using hk);rw [show i + 1 + k = i + (k + 1) by omega] at this;exact this
  ·intro h
   refine ⟨h 0 (by simp),fun k hk=>?_⟩
   have:=h (k + 1) (by simpa using hk)
   rw [show i + 1 + k = i + (k + 1) by omega];exact this
theorem aB.cZ (p:aE) (funcs:Int) (x:aB) (vars:Int):x.ok p funcs vars ↔ mR p x vars funcs∧∀ (k:Nat) (h:k < x.aI.length),x.aI[k].ok p funcs (kG x.aR k vars):=by
 cases x with
 |mk a b c d kids =>
  rw [aB.ok,aB.aQT]
  simp only [Nat.zero_add,aB.aI,aB.aR]
theorem aE.aG2 (p:aE):p.aJ.length≤p.s:=by rw [p.oD,fM];omega
theorem aE.aEC {p:aE} {f:aS} (h:f∈p.aJ):f.s + p.aJ.length≤p.s:=by
 have:=kS aS.s h
 rw [p.oD,fM];omega
theorem aS.aED (f:aS):f.aL.length≤f.s:=by rw [f.oD,fM];omega
theorem aS.a2H {f:aS} {e:aB} (h:e∈f.aL):e.s < f.s:=by
 have:=kS aB.s h
 have:=List.length_pos_of_mem h
 rw [f.oD,fM];omega
@[go_sem] def aZD:List Nat:=[0,2,3,4,7,13,15]
theorem aCG (k:Int):dI Tryz.prog 194 [I k] (I (fG k)):=by
 refine dJ 17 aZD bM bC mix Tryz.func194 rfl (by kernel_rfl) (by simp) fun h=>?_
 simp -dsimp -implicitDefEqProofs only [go_sem,↓reduceIte,Tryz.f194]
 repeat' (with_reducible first | intro _ | refine And.intro ?_ ?_)
 all_goals try (first | (simp [fG, *];done) | omega | (grind [fG]) | (simp [fG];omega))
theorem oV {p:aE} {e:aB} {vars funcs:Int} (hk:e.aR = 10∨e.aR = 11) {f:aS} (ef:p.aJ[e.aW.toNat]? = some f):mR p e vars funcs ↔
  0≤e.aW∧e.aW≤funcs - 1∧0≤e.cB∧e.cB≤(f.aL.length:Int) - 1∧(e.aI.length:Int) = f.a9∧(e.aR = 10→e.bZ = 0)∧(e.aR = 11→0≤e.bZ∧e.bZ≤8∧(f.aL.length:Int) = f.a9):=by
 unfold mR
 rw [if_pos hk]
 simp [ef]
theorem yY {p:aE} {e:aB} {vars funcs:Int} (hk:e.aR = 10∨e.aR = 11) (hr:¬ (0≤e.aW∧e.aW≤funcs - 1)):¬ mR p e vars funcs:=by
 unfold mR
 rw [if_pos hk]
 intro h
 exact hr ⟨h.1,h.2.1⟩
theorem eO {p:aE} {e:aB} {vars funcs:Int} (hk:¬ (e.aR = 10∨e.aR = 11)):mR p e vars funcs ↔
  fG e.aR = e.aI.length∧e.cB = 0∧e.bZ = 0∧(e.aR = 1→fP e.aW)∧(e.aR = 2→0≤e.aW∧e.aW≤vars - 1)∧(e.aR≠1→e.aR≠2→e.aW = 0):=by
 unfold mR
 rw [if_neg hk]
@[go_sem] def aIF:List Nat:=[0,1,2,3,8,9,21,29,62,67,114,118,119,126]
@[go_sem] def aVC:Marks:=fun id=>match id with | 4=>([],(.op 0 (.op 1 (.op 2 (.op 3 (.op 4 (.op 5 (.op 6 (.op 7 (.op 8 (.op 9 .nil)))))))))),[]) | 5=>([],(.op 0 (.op 1 (.op 2 (.op 3 (.op 4 (.op 5 (.op 6 (.op 7 (.op 8 (.op 9 (.op 10 (.op 11 (.op 12 (.op 13 (.op 14 (.op 15 (.op 16 (.op 17 (.op 18 (.op 19 (.op 20 (.op 21 (.op 22 (.op 23 .nil)))))))))))))))))))))))),[]) | 9=>([],(.op 0 (.op 1 (.op 2 (.op 3 (.op 4 (.op 5 (.op 6 (.op 7 (.op 8 (.op 9 (.op 10 (.op 11 (.op 12 (.op 13 (.op 14 (.op 15 (.op 16 (.op 17 .nil)))))))))))))))))),[]) | 10=>([],(.op 0 (.op 1 (.op 2 (.op 3 (.op 4 (.op 5 (.op 6 (.op 7 (.op 8 (.op 9 (.op 10 (.op 11 (.op 12 (.op 13 (.op 14 (.op 15 (.op 16 (.op 17 (.op 18 (.op 19 (.op 20 (.op 21 (.op 22 (.op 23 (.op 24 .nil))))))))))))))))))))))))),[]) | _=>([],.nil,[])
theorem aQU (p:aE) (e:aB) (vars funcs:Int) (hv:0≤vars) (hv2:vars≤4294967296) (eM:0≤funcs) (hf:funcs≤p.aJ.length) (hps:p.s≤4294967296):dI Tryz.prog 234 [.ip 1 [p.c] 0 0,.ip 5 [e.c] 0 0,I vars,I funcs] (.bool (decide (mR p e vars funcs))):=by
 have hl:=p.aG2
 have e1:IntKind.i64.wrap (funcs - 1) = funcs - 1:=IntWalk.i64_in _ (by omega)
 have e2:IntKind.i64.wrap (vars - 1) = vars - 1:=IntWalk.i64_in _ (by omega)
 rw [aB.aQ]
 simp only [aE.aQ]
 by_cases hk:e.aR = 10∨e.aR = 11
 ·by_cases hr:0≤e.aW∧e.aW≤funcs - 1
  ·obtain ⟨f,ef⟩:∃ f,p.aJ[e.aW.toNat]? = some f:=⟨_,List.getElem?_eq_getElem (by omega)⟩
   have hn:=oV (vars:=vars) (funcs:=funcs) hk ef
   have hfs:=aE.aEC (List.mem_of_getElem? ef)
   have hos:=f.aED
   refine dJ 140 aIF bM aVC mix Tryz.func234 rfl (by kernel_rfl) (by simp) fun h=>?_
   simp -dsimp -implicitDefEqProofs only [go_sem,↓reduceIte,Tryz.f234,e1,e2]
   repeat' (with_reducible first | intro _ | refine And.intro ?_ ?_)
   all_goals try omega
   all_goals (first | refine aG.mk (eH e.aW 0 (funcs - 1)) ?_ | refine aD.mk (eH e.aW 0 (funcs - 1)) ?_)
   all_goals simp -dsimp -implicitDefEqProofs only [go_sem,↓reduceIte,Tryz.f234,ef,aS.aQ]
   all_goals repeat' (with_reducible first | intro _ | refine And.intro ?_ ?_)
   all_goals try omega
   all_goals try simp (disch:=omega) only [IntWalk.i64_in]
   all_goals (first | refine aG.mk (eH e.cB 0 (f.aL.length - 1)) ?_ | refine aD.mk (eH e.cB 0 (f.aL.length - 1)) ?_)
   all_goals simp -dsimp -implicitDefEqProofs only [go_sem,↓reduceIte,Tryz.f234,ef,aS.aQ]
   all_goals repeat' (with_reducible first | intro _ | refine And.intro ?_ ?_)
   all_goals try omega
   all_goals try (first | (simp [*];done) | omega | grind)
   first | refine aG.mk (eH e.bZ 0 8) ?_ | refine aD.mk (eH e.bZ 0 8) ?_ | refine aG.a5 (eH e.bZ 0 8) ?_ | refine aD.mk (aX.cD (eH e.bZ 0 8)) ?_
   simp -dsimp -implicitDefEqProofs only [go_sem,↓reduceIte,Tryz.f234,ef,aS.aQ]
   repeat' (with_reducible first | intro _ | refine And.intro ?_ ?_)
   all_goals try (first | (simp [*];done) | omega | grind)
  ·have hn:=yY (p:=p) (vars:=vars) hk hr
   refine dJ 140 aIF bM aVC mix Tryz.func234 rfl (by kernel_rfl) (by simp) fun h=>?_
   simp -dsimp -implicitDefEqProofs only [go_sem,↓reduceIte,Tryz.f234,e1,e2]
   repeat' (with_reducible first | intro _ | refine And.intro ?_ ?_)
   all_goals try omega
   all_goals (first | refine aG.mk (eH e.aW 0 (funcs - 1)) ?_ | refine aD.mk (eH e.aW 0 (funcs - 1)) ?_)
   all_goals simp -dsimp -implicitDefEqProofs only [go_sem,↓reduceIte,Tryz.f234]
   all_goals repeat' (with_reducible first | intro _ | refine And.intro ?_ ?_)
   all_goals try (first | (simp [*];done) | omega | grind)
 ·have hn:=eO (p:=p) (vars:=vars) (funcs:=funcs) hk
  refine dJ 140 aIF bM aVC mix Tryz.func234 rfl (by kernel_rfl) (by simp) fun h=>?_
  simp -dsimp -implicitDefEqProofs only [go_sem,↓reduceIte,Tryz.f234,e1,e2]
  repeat' (with_reducible first | intro _ | refine And.intro ?_ ?_)
  all_goals try omega
  first | refine aG.mk (aCG e.aR) ?_ | refine aD.mk (aCG e.aR) ?_ | refine aG.a5 (aCG e.aR) ?_ | refine aD.mk (aX.cD (aCG e.aR)) ?_
  simp -dsimp -implicitDefEqProofs only [go_sem,↓reduceIte,Tryz.f234]
  repeat' (with_reducible first | intro _ | refine And.intro ?_ ?_)
  all_goals try (first | (simp [*];done) | omega | grind)
  ·first | refine aG.mk (mZ e.aW) ?_ | refine aD.mk (mZ e.aW) ?_ | refine aG.a5 (mZ e.aW) ?_ | refine aD.mk (aX.cD (mZ e.aW)) ?_
   simp -dsimp -implicitDefEqProofs only [go_sem,↓reduceIte,Tryz.f234]
   all_goals try (first | (simp [*];done) | omega | grind)
  ·all_goals try simp (disch:=omega) only [IntWalk.i64_in]
   first | refine aG.mk (eH e.aW 0 (vars - 1)) ?_ | refine aD.mk (eH e.aW 0 (vars - 1)) ?_ | refine aG.a5 (eH e.aW 0 (vars - 1)) ?_ | refine aD.mk (aX.cD (eH e.aW 0 (vars - 1))) ?_
   simp -dsimp -implicitDefEqProofs only [go_sem,↓reduceIte,Tryz.f234]
   all_goals try (first | (simp [*];done) | omega | grind)
@[go_sem] def rD:List Nat:=[0,1,2,3,4,6,7,8,9,10,11,12,25,26,38,52,68,69,81,82,94,95,104,125,152,154,155,156,157,168,175]
@[go_sem] def aBR:List Nat:=[3,4]
@[go_sem] def aQV:List Nat:=[0,1,2,3,8,9,10,16,23,35,48]
theorem aIG (p:aE) (e:aB) (vars funcs:Int) (hv:0≤vars) (hv2:vars + e.s≤4294967296) (eM:0≤funcs) (hf:funcs≤p.aJ.length) (hps:p.s≤4294967296)
  (hc:∀ y∈e.aI,∀ vars:Int,0≤vars→vars + y.s≤4294967296→dI Tryz.prog 229 [.ip 1 [p.c] 0 0,.ip 5 [y.c] 0 0,I vars,I funcs] (.bool (decide (y.ok p funcs vars)))) :
  dI Tryz.prog 229 [.ip 1 [p.c] 0 0,.ip 5 [e.c] 0 0,I vars,I funcs] (.bool (decide (e.ok p funcs vars))):=by
 have hok:=aB.cZ p funcs e vars
 simp only [aB.aQ,aE.aQ]
 refine dJ 49 aQV bM bC mix Tryz.func229 rfl (by kernel_rfl) (by simp) fun h=>?_
 simp -dsimp -implicitDefEqProofs only [go_sem,↓reduceIte,Tryz.f229]
 first | refine aD.mk ((aQU p e vars funcs hv (by omega) eM hf hps).sub (by repeat' (first | exact fU.nil | refine fU.cons ?_ ?_ | exact Sub.refl _ | (rw [aB.aQ];exact Sub.refl _) | exact Sub.fQ rfl rfl rfl | exact Sub.ip (bW (by omega)) (by simp) | exact Sub.fQ (bW (by omega)) rfl rfl | exact Sub.ip (by simp [*]) (by simp) | exact Sub.fQ (by simp [*]) (by rfl) (by rfl)))) ?_ | refine aG.mk ((aQU p e vars funcs hv (by omega) eM hf hps).sub (by repeat' (first | exact fU.nil | refine fU.cons ?_ ?_ | exact Sub.refl _ | (rw [aB.aQ];exact Sub.refl _) | exact Sub.fQ rfl rfl rfl | exact Sub.ip (bW (by omega)) (by simp) | exact Sub.fQ (bW (by omega)) rfl rfl | exact Sub.ip (by simp [*]) (by simp) | exact Sub.fQ (by simp [*]) (by rfl) (by rfl)))) ?_
 simp -dsimp -implicitDefEqProofs only [go_sem,↓reduceIte,Tryz.f229]
 repeat' (with_reducible first | intro _ | refine And.intro ?_ ?_)
 ·rename_i hn
  exact (decide_eq_false fun q=>hn (hok.1 q).1).symm
 ·rename_i hn
  refine bQ (keep:=aQV) (ib:=bM) (mk:=bC) mix (by kernel_rfl) (fun k:Nat=>[(0,.ip 1 [p.c] 0 0),(1,.ip 5 [e.c] 0 0),(2,I vars),(3,I funcs),(9,I k)]) (fun _=>h) (fun k=>k≤e.aI.length∧∀ (j:Nat) (hj:j < e.aI.length),j < k→e.aI[j].ok p funcs (kG e.aR j vars)) (fun k=>e.aI.length - k) 0 (by simp [bU,bF,aA.le_refl,aB.aQ,aE.aQ]) ?_
  intro k ⟨hk,hp⟩
  simp only [aB.aQ,aE.aQ]
  rcases Nat.lt_or_ge k e.aI.length with hlt | hge
  ·have jC:=aB.aBQ (List.getElem_mem hlt)
   have nx (q:e.aI[k].ok p funcs (kG e.aR k vars)):∀ (j:Nat) (hj:j < e.aI.length),j < k + 1→e.aI[j].ok p funcs (kG e.aR j vars):=by
    intro j hj hjk
    rcases Nat.lt_succ_iff_lt_or_eq.1 hjk with h1 | rfl
    ·exact hp j hj h1
    ·exact q
   have no (q:¬ e.aI[k].ok p funcs (kG e.aR k vars)):false = decide (e.ok p funcs vars):=(decide_eq_false fun z=>q ((hok.1 z).2 k hlt)).symm
   simp -dsimp -implicitDefEqProofs only [go_sem,↓reduceIte,Tryz.f229]
   repeat' (with_reducible first | intro _ | refine And.intro ?_ ?_)
   all_goals try omega
   ·have em:kG e.aR k vars = vars + 1:=if_pos ⟨by assumption,by omega⟩
    rw [em] at nx no
    all_goals try simp (disch:=omega) only [IntWalk.i64_in]
    first | refine aD.mk ((hc e.aI[k] (List.getElem_mem hlt) (vars + 1) (by omega) (by omega)).sub (by repeat' (first | exact fU.nil | refine fU.cons ?_ ?_ | exact Sub.refl _ | (rw [aB.aQ];exact Sub.refl _) | exact Sub.fQ rfl rfl rfl | exact Sub.ip (bW (by omega)) (by simp) | exact Sub.fQ (bW (by omega)) rfl rfl | exact Sub.ip (by simp [*]) (by simp) | exact Sub.fQ (by simp [*]) (by rfl) (by rfl)))) ?_ | refine aG.mk ((hc e.aI[k] (List.getElem_mem hlt) (vars + 1) (by omega) (by omega)).sub (by repeat' (first | exact fU.nil | refine fU.cons ?_ ?_ | exact Sub.refl _ | (rw [aB.aQ];exact Sub.refl _) | exact Sub.fQ rfl rfl rfl | exact Sub.ip (bW (by omega)) (by simp) | exact Sub.fQ (bW (by omega)) rfl rfl | exact Sub.ip (by simp [*]) (by simp) | exact Sub.fQ (by simp [*]) (by rfl) (by rfl)))) ?_
    simp -dsimp -implicitDefEqProofs only [go_sem,↓reduceIte,Tryz.f229]
    repeat' (with_reducible first | intro _ | refine And.intro ?_ ?_)
    ·exact no (by assumption)
    ·refine ⟨k + 1,?_⟩
     repeat' (with_reducible refine And.intro ?_ ?_)
     all_goals try (rw [IntWalk.i64_in _ (by omega)];first | rfl | omega)
     all_goals try omega
     all_goals try (repeat' (with_reducible first | exact aA.le_refl _ | refine (bI (by first | assumption | exact And.right (by assumption) | exact b8.2 (by assumption))).2 ?_))
     all_goals try (simp only [aB.aQ,aE.aQ];done)
     exact nx (by assumption)
   all_goals
    have em:kG e.aR k vars = vars:=if_neg (by omega)
    rw [em] at nx no
    first | refine aD.mk ((hc e.aI[k] (List.getElem_mem hlt) vars (by omega) (by omega)).sub (by repeat' (first | exact fU.nil | refine fU.cons ?_ ?_ | exact Sub.refl _ | (rw [aB.aQ];exact Sub.refl _) | exact Sub.fQ rfl rfl rfl | exact Sub.ip (bW (by omega)) (by simp) | exact Sub.fQ (bW (by omega)) rfl rfl | exact Sub.ip (by simp [*]) (by simp) | exact Sub.fQ (by simp [*]) (by rfl) (by rfl)))) ?_ | refine aG.mk ((hc e.aI[k] (List.getElem_mem hlt) vars (by omega) (by omega)).sub (by repeat' (first | exact fU.nil | refine fU.cons ?_ ?_ | exact Sub.refl _ | (rw [aB.aQ];exact Sub.refl _) | exact Sub.fQ rfl rfl rfl | exact Sub.ip (bW (by omega)) (by simp) | exact Sub.fQ (bW (by omega)) rfl rfl | exact Sub.ip (by simp [*]) (by simp) | exact Sub.fQ (by simp [*]) (by rfl) (by rfl)))) ?_
    simp -dsimp -implicitDefEqProofs only [go_sem,↓reduceIte,Tryz.f229]
    repeat' (with_reducible first | intro _ | refine And.intro ?_ ?_)
    ·exact no (by assumption)
    ·refine ⟨k + 1,?_⟩
     repeat' (with_reducible refine And.intro ?_ ?_)
     all_goals try (rw [IntWalk.i64_in _ (by omega)];first | rfl | omega)
     all_goals try omega
     all_goals try (repeat' (with_reducible first | exact aA.le_refl _ | refine (bI (by first | assumption | exact And.right (by assumption) | exact b8.2 (by assumption))).2 ?_))
     all_goals try (simp only [aB.aQ,aE.aQ];done)
     exact nx (by assumption)
  ·have hk':k = e.aI.length:=by omega
   subst hk'
   simp -dsimp -implicitDefEqProofs only [go_sem,↓reduceIte,Tryz.f229,Nat.lt_irrefl]
   exact fun _=>(decide_eq_true (hok.2 ⟨hn,fun j hj=>hp j hj hj⟩)).symm
theorem aIH (p:aE) (e:aB) (vars funcs:Int) (hv:0≤vars) (hv2:vars + e.s≤4294967296) (eM:0≤funcs) (hf:funcs≤p.aJ.length) (hps:p.s≤4294967296) :
  dI Tryz.prog 229 [.ip 1 [p.c] 0 0,.ip 5 [e.c] 0 0,I vars,I funcs] (.bool (decide (e.ok p funcs vars))) :=
 aIG p e vars funcs hv hv2 eM hf hps fun y hy vars hv hv2=>aIH p y vars funcs hv hv2 eM hf hps
termination_by SizeOf.sizeOf e
decreasing_by exact aB.qA hy
set_option maxHeartbeats 8000000 in
theorem aEE (p:aE) (e:aB) (vars funcs:Int) (hv:0≤vars) (hv2:vars + e.s≤4294967296) (eM:0≤funcs) (hf:funcs≤p.aJ.length) (hps:p.s≤4294967296)
  (hc:∀ y∈e.aI,∀ vars:Int,0≤vars→vars + y.s≤4294967296→dI Tryz.prog 222 [.agg [cY 3 aS.c p.aJ,I funcs],.agg y.c,I vars] (.bool (decide (y.ok p funcs vars)))) (hk:¬ (e.aR = 10∨e.aR = 11)) :
  dI Tryz.prog 222 [.agg [cY 3 aS.c p.aJ,I funcs],.agg e.c,I vars] (.bool (decide (e.ok p funcs vars))):=by
 have hok:=aB.cZ p funcs e vars
 have hl:=p.aG2
 have e1:IntKind.i64.wrap (funcs - 1) = funcs - 1:=IntWalk.i64_in _ (by omega)
 have e2:IntKind.i64.wrap (vars - 1) = vars - 1:=IntWalk.i64_in _ (by omega)
 simp only [aB.aQ]
 have no1 (hk:¬ (e.aR = 10∨e.aR = 11)) (q:¬ (fG e.aR = e.aI.length∧e.cB = 0∧e.bZ = 0∧(e.aR = 1→fP e.aW)∧(e.aR = 2→0≤e.aW∧e.aW≤vars - 1)∧(e.aR≠1→e.aR≠2→e.aW = 0))):false = decide (e.ok p funcs vars) :=
  (decide_eq_false fun z=>q ((eO hk).1 (hok.1 z).1)).symm
 have bAK (hk:¬ (e.aR = 10∨e.aR = 11)) (q:fG e.aR = e.aI.length∧e.cB = 0∧e.bZ = 0∧(e.aR = 1→fP e.aW)∧(e.aR = 2→0≤e.aW∧e.aW≤vars - 1)∧(e.aR≠1→e.aR≠2→e.aW = 0)):mR p e vars funcs:=(eO hk).2 q
 refine dJ 177 rD aBR bC mix Tryz.func222 rfl (by kernel_rfl) (by simp) fun h=>?_
 simp (maxSteps:=1000000) -dsimp -implicitDefEqProofs only [go_sem,↓reduceIte,Tryz.f222,e1,e2]
 repeat' (with_reducible first | intro _ | refine And.intro ?_ ?_)
 all_goals try omega
 all_goals try (refine no1 (by omega) ?_;simp only [fG];grind)
 ·first | refine aG.mk (oU e.aW) ?_ | refine aD.mk (oU e.aW) ?_ | refine aG.a5 (oU e.aW) ?_ | refine aD.mk (aX.cD (oU e.aW)) ?_
  simp (maxSteps:=1000000) -dsimp -implicitDefEqProofs only [go_sem,↓reduceIte,Tryz.f222]
  rw [decide_eq_decide,hok,eO hk]
  have:e.aI.length = 0:=by omega
  constructor
  ·intro q
   exact ⟨by simp only [fG];grind,fun k hk=>by omega⟩
  ·intro q
   grind
 ·first | refine aG.mk (within e.aW 0 (vars - 1)) ?_ | refine aD.mk (within e.aW 0 (vars - 1)) ?_ | refine aG.a5 (within e.aW 0 (vars - 1)) ?_ | refine aD.mk (aX.cD (within e.aW 0 (vars - 1))) ?_
  simp (maxSteps:=1000000) -dsimp -implicitDefEqProofs only [go_sem,↓reduceIte,Tryz.f222]
  rw [decide_eq_decide,hok,eO hk]
  have:e.aI.length = 0:=by omega
  constructor
  ·intro q
   exact ⟨by simp only [fG];grind,fun k hk=>by omega⟩
  ·intro q
   grind
 all_goals
  have hn:=bAK hk (by simp only [fG];grind)
  clear no1 bAK
  refine bQ (keep:=rD) (ib:=aBR) (mk:=bC) mix (by kernel_rfl) (fun k:Nat=>[(2,I vars),(3,.ip 2 [[cY 3 aS.c p.aJ,I funcs]] 0 0),(4,.ip 5 [e.c] 0 0),(154,cY 5 aB.c e.aI),(155,I e.aI.length),(156,I k)]) (fun _=>h) (fun k=>k≤e.aI.length∧∀ (j:Nat) (hj:j < e.aI.length),j < k→e.aI[j].ok p funcs (kG e.aR j vars)) (fun k=>e.aI.length - k) 0 (by refine ⟨by simp [bU,bF,aB.aQ],by repeat' (with_reducible first | exact aA.le_refl _ | refine (bI (by first | assumption | exact And.right (by assumption) | exact b8.2 (by assumption))).2 ?_),by simp⟩) ?_
  intro k ⟨hk,hp⟩
  simp only [aB.aQ]
  rcases Nat.lt_or_ge k e.aI.length with hlt | hge
  ·have jC:=aB.aBQ (List.getElem_mem hlt)
   have nx (q:e.aI[k].ok p funcs (kG e.aR k vars)):∀ (j:Nat) (hj:j < e.aI.length),j < k + 1→e.aI[j].ok p funcs (kG e.aR j vars):=by
    intro j hj hjk
    rcases Nat.lt_succ_iff_lt_or_eq.1 hjk with h1 | rfl
    ·exact hp j hj h1
    ·exact q
   have no (q:¬ e.aI[k].ok p funcs (kG e.aR k vars)):false = decide (e.ok p funcs vars):=(decide_eq_false fun z=>q ((hok.1 z).2 k hlt)).symm
   have ea:e.aI[k]? = some e.aI[k]:=List.getElem?_eq_getElem hlt
   rcases Decidable.em (e.aR = 9∧k = 1) with e9 | e9
   ·have em:kG e.aR k vars = vars + 1:=if_pos e9
    rw [em] at nx no
    have hcy:=hc e.aI[k] (List.getElem_mem hlt) (vars + 1) (by omega) (by omega)
    simp only [aB.aQ] at hcy
    simp (maxSteps:=1000000) -dsimp -implicitDefEqProofs only [go_sem,↓reduceIte,Tryz.f222,ea,aB.aQ,aO]
    repeat' (with_reducible first | intro _ | refine And.intro ?_ ?_)
    all_goals try omega
    all_goals try simp (disch:=omega) only [IntWalk.i64_in]
    all_goals (first | refine aG.mk (hcy) ?_ | refine aD.mk (hcy) ?_)
    all_goals simp (maxSteps:=1000000) -dsimp -implicitDefEqProofs only [go_sem,↓reduceIte,Tryz.f222]
    all_goals repeat' (with_reducible first | intro _ | refine And.intro ?_ ?_)
    all_goals first | exact no (by assumption) | exact aA.le_refl _ | skip
    all_goals try (exact (bI (by assumption)).2 (aA.le_refl _))
    all_goals
     refine ⟨k + 1,?_⟩
     repeat' (with_reducible refine And.intro ?_ ?_)
     all_goals try (rw [IntWalk.i64_in _ (by omega)];first | rfl | omega)
     all_goals try omega
     all_goals try (repeat' (with_reducible first | exact aA.le_refl _ | refine (bI (by first | assumption | exact And.right (by assumption) | exact b8.2 (by assumption))).2 ?_))
     all_goals try (simp only [aB.aQ];done)
     exact nx (by assumption)
   ·have em:kG e.aR k vars = vars:=if_neg e9
    rw [em] at nx no
    have hcy:=hc e.aI[k] (List.getElem_mem hlt) vars (by omega) (by omega)
    simp only [aB.aQ] at hcy
    simp (maxSteps:=1000000) -dsimp -implicitDefEqProofs only [go_sem,↓reduceIte,Tryz.f222,ea,aB.aQ,aO]
    repeat' (with_reducible first | intro _ | refine And.intro ?_ ?_)
    all_goals try omega
    all_goals (first | refine aG.mk (hcy) ?_ | refine aD.mk (hcy) ?_)
    all_goals simp (maxSteps:=1000000) -dsimp -implicitDefEqProofs only [go_sem,↓reduceIte,Tryz.f222]
    all_goals repeat' (with_reducible first | intro _ | refine And.intro ?_ ?_)
    all_goals first | exact no (by assumption) | exact aA.le_refl _ | skip
    all_goals try (exact (bI (by assumption)).2 (aA.le_refl _))
    all_goals
     refine ⟨k + 1,?_⟩
     repeat' (with_reducible refine And.intro ?_ ?_)
     all_goals try (rw [IntWalk.i64_in _ (by omega)];first | rfl | omega)
     all_goals try omega
     all_goals try (repeat' (with_reducible first | exact aA.le_refl _ | refine (bI (by first | assumption | exact And.right (by assumption) | exact b8.2 (by assumption))).2 ?_))
     all_goals try (simp only [aB.aQ];done)
     exact nx (by assumption)
  ·have hk':k = e.aI.length:=by omega
   subst hk'
   simp (maxSteps:=1000000) -dsimp -implicitDefEqProofs only [go_sem,↓reduceIte,Tryz.f222,Nat.lt_irrefl]
   exact (decide_eq_true (hok.2 ⟨hn,fun j hj=>hp j hj hj⟩)).symm
theorem yZ {p:aE} {e:aB} {vars funcs:Int} {f:aS} (hk:e.aR = 10∨e.aR = 11) (ef:p.aJ[e.aW.toNat]? = some f)
  (q:¬ (0≤e.cB∧e.cB≤(f.aL.length:Int) - 1∧(e.aI.length:Int) = f.a9∧(e.aR = 10→e.bZ = 0)∧(e.aR = 11→0≤e.bZ∧e.bZ≤8∧(f.aL.length:Int) = f.a9))):false = decide (e.ok p funcs vars) :=
 (decide_eq_false fun z=>q ((oV hk ef).1 ((aB.cZ _ _ _ _).1 z).1).2.2).symm
theorem aLI {p:aE} {e:aB} {vars funcs:Int} (hk:e.aR = 10∨e.aR = 11) (q:¬ (0≤e.aW∧e.aW≤funcs - 1)):false = decide (e.ok p funcs vars) :=
 (decide_eq_false fun z=>yY hk q ((aB.cZ _ _ _ _).1 z).1).symm
set_option maxHeartbeats 8000000 in
theorem aLJ (p:aE) (e:aB) (vars funcs:Int) (hv:0≤vars) (hv2:vars + e.s≤4294967296) (eM:0≤funcs) (hf:funcs≤p.aJ.length) (hps:p.s≤4294967296)
  (hc:∀ y∈e.aI,∀ vars:Int,0≤vars→vars + y.s≤4294967296→dI Tryz.prog 222 [.agg [cY 3 aS.c p.aJ,I funcs],.agg y.c,I vars] (.bool (decide (y.ok p funcs vars)))) (hk:e.aR = 10) :
  dI Tryz.prog 222 [.agg [cY 3 aS.c p.aJ,I funcs],.agg e.c,I vars] (.bool (decide (e.ok p funcs vars))):=by
 have hl:=p.aG2
 have e1:IntKind.i64.wrap (funcs - 1) = funcs - 1:=IntWalk.i64_in _ (by omega)
 simp only [aB.aQ]
 by_cases hr:0≤e.aW∧e.aW≤funcs - 1
 ·obtain ⟨f,ef⟩:∃ f,p.aJ[e.aW.toNat]? = some f:=⟨_,List.getElem?_eq_getElem (by omega)⟩
  have hfs:=aE.aEC (List.mem_of_getElem? ef)
  have hos:=f.aED
  have e3:IntKind.i64.wrap ((f.aL.length:Int) - 1) = f.aL.length - 1:=IntWalk.i64_in _ (by omega)
  refine dJ 177 rD aBR bC mix Tryz.func222 rfl (by kernel_rfl) (by simp) fun h=>?_
  simp -dsimp -implicitDefEqProofs only [go_sem,↓reduceIte,Tryz.f222,e1,e3,hk]
  repeat' (with_reducible first | intro _ | refine And.intro ?_ ?_)
  all_goals try omega
  all_goals (first | refine aG.mk (within e.aW 0 (funcs - 1)) ?_ | refine aD.mk (within e.aW 0 (funcs - 1)) ?_)
  all_goals simp -dsimp -implicitDefEqProofs only [go_sem,↓reduceIte,Tryz.f222,ef,aS.aQ,aO,hk,e3]
  all_goals repeat' (with_reducible first | intro _ | refine And.intro ?_ ?_)
  all_goals try omega
  all_goals try (refine yZ (by omega) ef ?_;omega)
  all_goals try (repeat' (with_reducible first | exact aA.le_refl _ | refine (bI (by first | assumption | exact And.right (by assumption) | exact b8.2 (by assumption))).2 ?_))
  all_goals (first | refine aG.mk (within e.cB 0 (f.aL.length - 1)) ?_ | refine aD.mk (within e.cB 0 (f.aL.length - 1)) ?_)
  all_goals simp -dsimp -implicitDefEqProofs only [go_sem,↓reduceIte,Tryz.f222,ef,aS.aQ,aO,hk]
  all_goals repeat' (with_reducible first | intro _ | refine And.intro ?_ ?_)
  all_goals try omega
  all_goals try (refine yZ (by omega) ef ?_;omega)
  all_goals try (repeat' (with_reducible first | exact aA.le_refl _ | refine (bI (by first | assumption | exact And.right (by assumption) | exact b8.2 (by assumption))).2 ?_))
  all_goals
   have hn:mR p e vars funcs:=(oV (by omega) ef).2 (by omega)
   have hok:=aB.cZ p funcs e vars
   clear hr hfs hos ef
   refine bQ (keep:=rD) (ib:=aBR) (mk:=bC) mix (by kernel_rfl) (fun k:Nat=>[(2,I vars),(3,.ip 2 [[cY 3 aS.c p.aJ,I funcs]] 0 0),(4,.ip 5 [e.c] 0 0),(154,cY 5 aB.c e.aI),(155,I e.aI.length),(156,I k)]) (fun _=>h) (fun k=>k≤e.aI.length∧∀ (j:Nat) (hj:j < e.aI.length),j < k→e.aI[j].ok p funcs vars) (fun k=>e.aI.length - k) 0 (by refine ⟨by simp [bU,bF,aB.aQ,hk],by repeat' (with_reducible first | exact aA.le_refl _ | refine (bI (by first | assumption | exact And.right (by assumption) | exact b8.2 (by assumption))).2 ?_),by simp⟩) ?_
   intro k ⟨hk',hp⟩
   simp only [aB.aQ]
   rcases Nat.lt_or_ge k e.aI.length with hlt | hge
   ·have jC:=aB.aBQ (List.getElem_mem hlt)
    have nx (q:e.aI[k].ok p funcs vars):∀ (j:Nat) (hj:j < e.aI.length),j < k + 1→e.aI[j].ok p funcs vars:=by
     intro j hj hjk
     rcases Nat.lt_succ_iff_lt_or_eq.1 hjk with h1 | rfl
     ·exact hp j hj h1
     ·exact q
    have no (q:¬ e.aI[k].ok p funcs vars):false = decide (e.ok p funcs vars):=(decide_eq_false fun z=>q (by have:=(hok.1 z).2 k hlt;rwa [show kG e.aR k vars = vars from if_neg (by omega)] at this)).symm
    have ea:e.aI[k]? = some e.aI[k]:=List.getElem?_eq_getElem hlt
    have hcy:=hc e.aI[k] (List.getElem_mem hlt) vars (by omega) (by omega)
    simp only [aB.aQ] at hcy
    simp -dsimp -implicitDefEqProofs only [go_sem,↓reduceIte,Tryz.f222,ea,aB.aQ,aO,hk]
    repeat' (with_reducible first | intro _ | refine And.intro ?_ ?_)
    all_goals try omega
    first | refine aG.mk (hcy) ?_ | refine aD.mk (hcy) ?_ | refine aG.a5 (hcy) ?_ | refine aD.mk (aX.cD (hcy)) ?_
    simp -dsimp -implicitDefEqProofs only [go_sem,↓reduceIte,Tryz.f222]
    repeat' (with_reducible first | intro _ | refine And.intro ?_ ?_)
    all_goals first | exact no (by assumption) | skip
    all_goals try (repeat' (with_reducible first | exact aA.le_refl _ | refine (bI (by first | assumption | exact And.right (by assumption) | exact b8.2 (by assumption))).2 ?_))
    refine ⟨k + 1,?_⟩
    repeat' (with_reducible refine And.intro ?_ ?_)
    all_goals try (rw [IntWalk.i64_in _ (by omega)];first | rfl | omega)
    all_goals try omega
    all_goals try (repeat' (with_reducible first | exact aA.le_refl _ | refine (bI (by first | assumption | exact And.right (by assumption) | exact b8.2 (by assumption))).2 ?_))
    all_goals try (simp only [aB.aQ,hk];done)
    exact nx (by assumption)
   ·have hk'':k = e.aI.length:=by omega
    subst hk''
    simp -dsimp -implicitDefEqProofs only [go_sem,↓reduceIte,Tryz.f222,Nat.lt_irrefl]
    exact (decide_eq_true (hok.2 ⟨hn,fun j hj=>by rw [show kG e.aR j vars = vars from if_neg (by omega)];exact hp j hj hj⟩)).symm
 ·refine dJ 177 rD aBR bC mix Tryz.func222 rfl (by kernel_rfl) (by simp) fun h=>?_
  simp -dsimp -implicitDefEqProofs only [go_sem,↓reduceIte,Tryz.f222,e1,hk]
  repeat' (with_reducible first | intro _ | refine And.intro ?_ ?_)
  all_goals try omega
  all_goals (first | refine aG.mk (within e.aW 0 (funcs - 1)) ?_ | refine aD.mk (within e.aW 0 (funcs - 1)) ?_)
  all_goals simp -dsimp -implicitDefEqProofs only [go_sem,↓reduceIte,Tryz.f222]
  all_goals repeat' (with_reducible first | intro _ | refine And.intro ?_ ?_)
  all_goals try omega
  all_goals exact aLI (by omega) hr
set_option maxHeartbeats 8000000 in
theorem aLK (p:aE) (e:aB) (vars funcs:Int) (hv:0≤vars) (hv2:vars + e.s≤4294967296) (eM:0≤funcs) (hf:funcs≤p.aJ.length) (hps:p.s≤4294967296)
  (hc:∀ y∈e.aI,∀ vars:Int,0≤vars→vars + y.s≤4294967296→dI Tryz.prog 222 [.agg [cY 3 aS.c p.aJ,I funcs],.agg y.c,I vars] (.bool (decide (y.ok p funcs vars)))) (hk:e.aR = 11) :
  dI Tryz.prog 222 [.agg [cY 3 aS.c p.aJ,I funcs],.agg e.c,I vars] (.bool (decide (e.ok p funcs vars))):=by
 have hl:=p.aG2
 have e1:IntKind.i64.wrap (funcs - 1) = funcs - 1:=IntWalk.i64_in _ (by omega)
 simp only [aB.aQ]
 by_cases hr:0≤e.aW∧e.aW≤funcs - 1
 ·obtain ⟨f,ef⟩:∃ f,p.aJ[e.aW.toNat]? = some f:=⟨_,List.getElem?_eq_getElem (by omega)⟩
  have hfs:=aE.aEC (List.mem_of_getElem? ef)
  have hos:=f.aED
  have e3:IntKind.i64.wrap ((f.aL.length:Int) - 1) = f.aL.length - 1:=IntWalk.i64_in _ (by omega)
  refine dJ 177 rD aBR bC mix Tryz.func222 rfl (by kernel_rfl) (by simp) fun h=>?_
  simp -dsimp -implicitDefEqProofs only [go_sem,↓reduceIte,Tryz.f222,e1,e3,hk]
  repeat' (with_reducible first | intro _ | refine And.intro ?_ ?_)
  all_goals try omega
  all_goals (first | refine aG.mk (within e.aW 0 (funcs - 1)) ?_ | refine aD.mk (within e.aW 0 (funcs - 1)) ?_)
  all_goals simp -dsimp -implicitDefEqProofs only [go_sem,↓reduceIte,Tryz.f222,ef,aS.aQ,aO,hk,e3]
  all_goals repeat' (with_reducible first | intro _ | refine And.intro ?_ ?_)
  all_goals try omega
  all_goals try (refine yZ (by omega) ef ?_;omega)
  all_goals try (repeat' (with_reducible first | exact aA.le_refl _ | refine (bI (by first | assumption | exact And.right (by assumption) | exact b8.2 (by assumption))).2 ?_))
  all_goals (first | refine aG.mk (within e.cB 0 (f.aL.length - 1)) ?_ | refine aD.mk (within e.cB 0 (f.aL.length - 1)) ?_)
  all_goals simp -dsimp -implicitDefEqProofs only [go_sem,↓reduceIte,Tryz.f222,ef,aS.aQ,aO,hk]
  all_goals repeat' (with_reducible first | intro _ | refine And.intro ?_ ?_)
  all_goals try omega
  all_goals try (refine yZ (by omega) ef ?_;omega)
  all_goals try (repeat' (with_reducible first | exact aA.le_refl _ | refine (bI (by first | assumption | exact And.right (by assumption) | exact b8.2 (by assumption))).2 ?_))
  all_goals (first | refine aG.mk (within e.bZ 0 8) ?_ | refine aD.mk (within e.bZ 0 8) ?_)
  all_goals simp -dsimp -implicitDefEqProofs only [go_sem,↓reduceIte,Tryz.f222,aO,hk]
  all_goals repeat' (with_reducible first | intro _ | refine And.intro ?_ ?_)
  all_goals try (refine yZ (by omega) ef ?_;omega)
  all_goals try (repeat' (with_reducible first | exact aA.le_refl _ | refine (bI (by first | assumption | exact And.right (by assumption) | exact b8.2 (by assumption))).2 ?_))
  all_goals
   have hn:mR p e vars funcs:=(oV (by omega) ef).2 (by omega)
   have hok:=aB.cZ p funcs e vars
   clear hr hfs hos ef
   refine bQ (keep:=rD) (ib:=aBR) (mk:=bC) mix (by kernel_rfl) (fun k:Nat=>[(2,I vars),(3,.ip 2 [[cY 3 aS.c p.aJ,I funcs]] 0 0),(4,.ip 5 [e.c] 0 0),(154,cY 5 aB.c e.aI),(155,I e.aI.length),(156,I k)]) (fun _=>h) (fun k=>k≤e.aI.length∧∀ (j:Nat) (hj:j < e.aI.length),j < k→e.aI[j].ok p funcs vars) (fun k=>e.aI.length - k) 0 (by refine ⟨by simp [bU,bF,aB.aQ,hk],by repeat' (with_reducible first | exact aA.le_refl _ | refine (bI (by first | assumption | exact And.right (by assumption) | exact b8.2 (by assumption))).2 ?_),by simp⟩) ?_
   intro k ⟨hk',hp⟩
   simp only [aB.aQ]
   rcases Nat.lt_or_ge k e.aI.length with hlt | hge
   ·have jC:=aB.aBQ (List.getElem_mem hlt)
    have nx (q:e.aI[k].ok p funcs vars):∀ (j:Nat) (hj:j < e.aI.length),j < k + 1→e.aI[j].ok p funcs vars:=by
     intro j hj hjk
     rcases Nat.lt_succ_iff_lt_or_eq.1 hjk with h1 | rfl
     ·exact hp j hj h1
     ·exact q
    have no (q:¬ e.aI[k].ok p funcs vars):false = decide (e.ok p funcs vars):=(decide_eq_false fun z=>q (by have:=(hok.1 z).2 k hlt;rwa [show kG e.aR k vars = vars from if_neg (by omega)] at this)).symm
    have ea:e.aI[k]? = some e.aI[k]:=List.getElem?_eq_getElem hlt
    have hcy:=hc e.aI[k] (List.getElem_mem hlt) vars (by omega) (by omega)
    simp only [aB.aQ] at hcy
    simp -dsimp -implicitDefEqProofs only [go_sem,↓reduceIte,Tryz.f222,ea,aB.aQ,aO,hk]
    repeat' (with_reducible first | intro _ | refine And.intro ?_ ?_)
    all_goals try omega
    first | refine aG.mk (hcy) ?_ | refine aD.mk (hcy) ?_ | refine aG.a5 (hcy) ?_ | refine aD.mk (aX.cD (hcy)) ?_
    simp -dsimp -implicitDefEqProofs only [go_sem,↓reduceIte,Tryz.f222]
    repeat' (with_reducible first | intro _ | refine And.intro ?_ ?_)
    all_goals first | exact no (by assumption) | skip
    all_goals try (repeat' (with_reducible first | exact aA.le_refl _ | refine (bI (by first | assumption | exact And.right (by assumption) | exact b8.2 (by assumption))).2 ?_))
    refine ⟨k + 1,?_⟩
    repeat' (with_reducible refine And.intro ?_ ?_)
    all_goals try (rw [IntWalk.i64_in _ (by omega)];first | rfl | omega)
    all_goals try omega
    all_goals try (repeat' (with_reducible first | exact aA.le_refl _ | refine (bI (by first | assumption | exact And.right (by assumption) | exact b8.2 (by assumption))).2 ?_))
    all_goals try (simp only [aB.aQ,hk];done)
    exact nx (by assumption)
   ·have hk'':k = e.aI.length:=by omega
    subst hk''
    simp -dsimp -implicitDefEqProofs only [go_sem,↓reduceIte,Tryz.f222,Nat.lt_irrefl]
    exact (decide_eq_true (hok.2 ⟨hn,fun j hj=>by rw [show kG e.aR j vars = vars from if_neg (by omega)];exact hp j hj hj⟩)).symm
 ·refine dJ 177 rD aBR bC mix Tryz.func222 rfl (by kernel_rfl) (by simp) fun h=>?_
  simp -dsimp -implicitDefEqProofs only [go_sem,↓reduceIte,Tryz.f222,e1,hk]
  repeat' (with_reducible first | intro _ | refine And.intro ?_ ?_)
  all_goals try omega
  all_goals (first | refine aG.mk (within e.aW 0 (funcs - 1)) ?_ | refine aD.mk (within e.aW 0 (funcs - 1)) ?_)
  all_goals simp -dsimp -implicitDefEqProofs only [go_sem,↓reduceIte,Tryz.f222]
  all_goals repeat' (with_reducible first | intro _ | refine And.intro ?_ ?_)
  all_goals try omega
  all_goals exact aLI (by omega) hr
theorem y3 (p:aE) (e:aB) (vars funcs:Int) (hv:0≤vars) (hv2:vars + e.s≤4294967296) (eM:0≤funcs) (hf:funcs≤p.aJ.length) (hps:p.s≤4294967296) :
  dI Tryz.prog 222 [.agg [cY 3 aS.c p.aJ,I funcs],.agg e.c,I vars] (.bool (decide (e.ok p funcs vars))):=by
 by_cases h1:e.aR = 10
 ·exact aLJ p e vars funcs hv hv2 eM hf hps (fun y hy vars hv hv2=>y3 p y vars funcs hv hv2 eM hf hps) h1
 ·by_cases h2:e.aR = 11
  ·exact aLK p e vars funcs hv hv2 eM hf hps (fun y hy vars hv hv2=>y3 p y vars funcs hv hv2 eM hf hps) h2
  ·exact aEE p e vars funcs hv hv2 eM hf hps (fun y hy vars hv hv2=>y3 p y vars funcs hv hv2 eM hf hps) (fun q=>q.elim h1 h2)
termination_by SizeOf.sizeOf e
decreasing_by all_goals exact aB.qA hy
def kH (p:aE) (e:aB) (vars funcs:Int):Prop:=(0≤vars∧vars≤412)∧(0≤funcs∧funcs≤p.aJ.length)∧(e.s:Int) + 1≤400∧(e.d:Int)≤60∧e.ok p funcs vars
noncomputable instance (p:aE) (e:aB) (vars funcs:Int):Decidable (kH p e vars funcs):=Classical.propDecidable _
def vM (p:aE) (k:Nat) (f:aS):Prop:=yW f.iA∧(0≤f.a9∧f.a9≤12)∧(1≤(f.aL.length:Int)∧(f.aL.length:Int)≤12)∧(∀ g∈p.aJ.take k,g.iA≠f.iA)∧(qR aB.s f.aL:Int)≤400∧∀ e∈f.aL,kH p e f.a9 k
noncomputable instance (p:aE) (k:Nat) (f:aS):Decidable (vM p k f):=Classical.propDecidable _
def aE.ok (p:aE):Prop:=(p.aJ.length:Int)≤16∧∀ (k:Nat) (f:aS),p.aJ[k]? = some f→vM p k f
noncomputable instance (p:aE):Decidable p.ok:=Classical.propDecidable _
theorem aCH (n:Int):dI Tryz.prog 227 [I n] (.bool (decide (0≤n∧n≤412))):=by
 refine dJ 5 aAN bM bC mix Tryz.func227 rfl (by kernel_rfl) (by simp) fun h=>?_
 simp -dsimp -implicitDefEqProofs only [go_sem,↓reduceIte,Tryz.f227]
 first | refine aG.mk (eH n 0 412) ?_ | refine aD.mk (eH n 0 412) ?_ | refine aG.a5 (eH n 0 412) ?_ | refine aD.mk (aX.cD (eH n 0 412)) ?_
 simp -dsimp -implicitDefEqProofs only [go_sem,↓reduceIte,Tryz.f227]
theorem aCI (n:Int):dI Tryz.prog 220 [I n] (.bool (decide (0≤n∧n≤412))):=by
 refine dJ 5 aAN bM bC mix Tryz.func220 rfl (by kernel_rfl) (by simp) fun h=>?_
 simp -dsimp -implicitDefEqProofs only [go_sem,↓reduceIte,Tryz.f220]
 first | refine aG.mk (within n 0 412) ?_ | refine aD.mk (within n 0 412) ?_ | refine aG.a5 (within n 0 412) ?_ | refine aD.mk (aX.cD (within n 0 412)) ?_
 simp -dsimp -implicitDefEqProofs only [go_sem,↓reduceIte,Tryz.f220]
theorem aEF {left:Int} {n:Nat}:0≤x5 left n ↔ (n:Int)≤left:=by
 unfold x5;split <;> omega
@[go_sem] def aZE:List Nat:=[0,1,2,3,8]
theorem aQW (p:aE) (e:aB) (vars funcs:Int) (hs:e.s≤4294966296) (hps:p.s≤4294967296):dI Tryz.prog 218 [.ip 1 [p.c] 0 0,.ip 5 [e.c] 0 0,I vars,I funcs] (.bool (decide (kH p e vars funcs))):=by
 simp only [aE.aQ]
 refine dJ 37 aZE bM bC mix Tryz.func218 rfl (by kernel_rfl) (by simp) fun h=>?_
 simp -dsimp -implicitDefEqProofs only [go_sem,↓reduceIte,Tryz.f218]
 first | refine aG.mk (aCH vars) ?_ | refine aD.mk (aCH vars) ?_ | refine aG.a5 (aCH vars) ?_ | refine aD.mk (aX.cD (aCH vars)) ?_
 simp -dsimp -implicitDefEqProofs only [go_sem,↓reduceIte,Tryz.f218]
 repeat' (with_reducible first | intro _ | refine And.intro ?_ ?_)
 all_goals try (first | (simp [kH, *];done) | omega | (grind [kH]) | (simp [kH];omega))
 first | refine aG.mk (eH funcs 0 p.aJ.length) ?_ | refine aD.mk (eH funcs 0 p.aJ.length) ?_ | refine aG.a5 (eH funcs 0 p.aJ.length) ?_ | refine aD.mk (aX.cD (eH funcs 0 p.aJ.length)) ?_
 simp -dsimp -implicitDefEqProofs only [go_sem,↓reduceIte,Tryz.f218]
 repeat' (with_reducible first | intro _ | refine And.intro ?_ ?_)
 all_goals try (first | (simp [kH, *];done) | omega | (grind [kH]) | (simp [kH];omega))
 first | refine aD.mk ((yX e 400 (by omega) (by omega) (by omega)).sub (by repeat' (first | exact fU.nil | refine fU.cons ?_ ?_ | exact Sub.refl _ | (rw [aB.aQ];exact Sub.refl _) | exact Sub.fQ rfl rfl rfl | exact Sub.ip (bW (by omega)) (by simp) | exact Sub.fQ (bW (by omega)) rfl rfl | exact Sub.ip (by simp [*]) (by simp) | exact Sub.fQ (by simp [*]) (by rfl) (by rfl)))) ?_ | refine aG.mk ((yX e 400 (by omega) (by omega) (by omega)).sub (by repeat' (first | exact fU.nil | refine fU.cons ?_ ?_ | exact Sub.refl _ | (rw [aB.aQ];exact Sub.refl _) | exact Sub.fQ rfl rfl rfl | exact Sub.ip (bW (by omega)) (by simp) | exact Sub.fQ (bW (by omega)) rfl rfl | exact Sub.ip (by simp [*]) (by simp) | exact Sub.fQ (by simp [*]) (by rfl) (by rfl)))) ?_
 simp -dsimp -implicitDefEqProofs only [go_sem,↓reduceIte,Tryz.f218]
 repeat' (with_reducible first | intro _ | refine And.intro ?_ ?_)
 ·have hle:((e.s + 1:Nat):Int)≤400:=aEF.1 (by assumption)
  first | refine aD.mk ((aEB e (by omega)).sub (by repeat' (first | exact fU.nil | refine fU.cons ?_ ?_ | exact Sub.refl _ | (rw [aB.aQ];exact Sub.refl _) | exact Sub.fQ rfl rfl rfl | exact Sub.ip (bW (by omega)) (by simp) | exact Sub.fQ (bW (by omega)) rfl rfl | exact Sub.ip (by simp [*]) (by simp) | exact Sub.fQ (by simp [*]) (by rfl) (by rfl)))) ?_ | refine aG.mk ((aEB e (by omega)).sub (by repeat' (first | exact fU.nil | refine fU.cons ?_ ?_ | exact Sub.refl _ | (rw [aB.aQ];exact Sub.refl _) | exact Sub.fQ rfl rfl rfl | exact Sub.ip (bW (by omega)) (by simp) | exact Sub.fQ (bW (by omega)) rfl rfl | exact Sub.ip (by simp [*]) (by simp) | exact Sub.fQ (by simp [*]) (by rfl) (by rfl)))) ?_
  simp -dsimp -implicitDefEqProofs only [go_sem,↓reduceIte,Tryz.f218]
  repeat' (with_reducible first | intro _ | refine And.intro ?_ ?_)
  ·first | refine aD.mk ((aIH p e vars funcs (by omega) (by omega) (by omega) (by omega) hps).sub (by repeat' (first | exact fU.nil | refine fU.cons ?_ ?_ | exact Sub.refl _ | (rw [aB.aQ];exact Sub.refl _) | exact Sub.fQ rfl rfl rfl | exact Sub.ip (bW (by omega)) (by simp) | exact Sub.fQ (bW (by omega)) rfl rfl | exact Sub.ip (by simp [*]) (by simp) | exact Sub.fQ (by simp [*]) (by rfl) (by rfl)))) ?_ | refine aG.mk ((aIH p e vars funcs (by omega) (by omega) (by omega) (by omega) hps).sub (by repeat' (first | exact fU.nil | refine fU.cons ?_ ?_ | exact Sub.refl _ | (rw [aB.aQ];exact Sub.refl _) | exact Sub.fQ rfl rfl rfl | exact Sub.ip (bW (by omega)) (by simp) | exact Sub.fQ (bW (by omega)) rfl rfl | exact Sub.ip (by simp [*]) (by simp) | exact Sub.fQ (by simp [*]) (by rfl) (by rfl)))) ?_
   simp -dsimp -implicitDefEqProofs only [go_sem,↓reduceIte,Tryz.f218]
   rw [decide_eq_decide]
   exact ⟨fun q=>⟨by omega,by omega,by omega,by omega,q⟩,fun q=>q.2.2.2.2⟩
  ·exact (decide_eq_false fun q=>by have:=q.2.2.2.1;omega).symm
 ·rename_i hn
  exact (decide_eq_false fun q=>hn (aEF.2 (by have:=q.2.2.1;omega))).symm
@[go_sem] def aZF:List Nat:=[0,1,2,3,4,5,8]
@[go_sem] def bAL:List Nat:=[4,5]
theorem aS2 (p:aE) (e:aB) (vars funcs:Int) (hs:e.s≤4294966296) (hps:p.s≤4294967296):dI Tryz.prog 201 [.agg p.c,.agg e.c,I vars,I funcs] (.bool (decide (kH p e vars funcs))):=by
 have h1:=aD9 e (by omega)
 have h2:=aG1 e (by omega)
 simp only [aB.aQ] at h1 h2
 simp only [aE.aQ,aB.aQ]
 refine dJ 36 aZF bAL bC mix Tryz.func201 rfl (by kernel_rfl) (by simp) fun h=>?_
 simp -dsimp -implicitDefEqProofs only [go_sem,↓reduceIte,Tryz.f201]
 first | refine aG.mk (aCI vars) ?_ | refine aD.mk (aCI vars) ?_ | refine aG.a5 (aCI vars) ?_ | refine aD.mk (aX.cD (aCI vars)) ?_
 simp -dsimp -implicitDefEqProofs only [go_sem,↓reduceIte,Tryz.f201]
 repeat' (with_reducible first | intro _ | refine And.intro ?_ ?_)
 all_goals try (first | (simp [kH, *];done) | omega | (grind [kH]) | (simp [kH];omega))
 first | refine aG.mk (within funcs 0 p.aJ.length) ?_ | refine aD.mk (within funcs 0 p.aJ.length) ?_ | refine aG.a5 (within funcs 0 p.aJ.length) ?_ | refine aD.mk (aX.cD (within funcs 0 p.aJ.length)) ?_
 simp -dsimp -implicitDefEqProofs only [go_sem,↓reduceIte,Tryz.f201]
 repeat' (with_reducible first | intro _ | refine And.intro ?_ ?_)
 all_goals try (first | (simp [kH, *];done) | omega | (grind [kH]) | (simp [kH];omega))
 first | refine aG.mk (h1) ?_ | refine aD.mk (h1) ?_ | refine aG.a5 (h1) ?_ | refine aD.mk (aX.cD (h1)) ?_
 simp -dsimp -implicitDefEqProofs only [go_sem,↓reduceIte,Tryz.f201]
 repeat' (with_reducible first | intro _ | refine And.intro ?_ ?_)
 ·first | refine aG.mk (h2) ?_ | refine aD.mk (h2) ?_ | refine aG.a5 (h2) ?_ | refine aD.mk (aX.cD (h2)) ?_
  simp -dsimp -implicitDefEqProofs only [go_sem,↓reduceIte,Tryz.f201]
  repeat' (with_reducible first | intro _ | refine And.intro ?_ ?_)
  ·have h3:=y3 p e vars funcs (by omega) (by omega) (by omega) (by omega) hps
   simp only [aB.aQ] at h3
   first | refine aG.mk (h3) ?_ | refine aD.mk (h3) ?_ | refine aG.a5 (h3) ?_ | refine aD.mk (aX.cD (h3)) ?_
   simp -dsimp -implicitDefEqProofs only [go_sem,↓reduceIte,Tryz.f201]
   rw [decide_eq_decide]
   exact ⟨fun q=>⟨by omega,by omega,by omega,by omega,q⟩,fun q=>q.2.2.2.2⟩
  ·exact (decide_eq_false fun q=>by have:=q.2.2.2.1;omega).symm
 ·exact (decide_eq_false fun q=>by have:=q.2.2.1;omega).symm
@[go_sem] def aII:List Nat:=[0,1,4,5,6,7,8,37,40,55,62,90]
@[go_sem] def aVD:Marks:=fun id=>match id with | 7=>([],(.op 0 (.op 1 (.op 2 (.op 3 (.op 4 (.op 5 (.op 6 (.op 7 (.op 8 (.op 9 (.op 10 (.op 11 (.op 12 .nil))))))))))))),[]) | 14=>([],(.op 0 (.op 1 (.op 2 (.op 3 (.op 4 (.op 5 (.op 6 (.op 7 (.op 8 (.op 9 (.op 10 (.op 11 (.op 12 (.op 13 (.op 14 (.op 15 (.op 16 (.op 17 .nil)))))))))))))))))),[]) | _=>([],.nil,[])
theorem aQX (p:aE) (k:Nat) (f:aS) (ef:p.aJ[k]? = some f) (hps:p.s≤4194304):dI Tryz.prog 195 [.ip 1 [p.c] 0 0,I k] (.bool (decide (vM p k f))):=by
 have hk:k < p.aJ.length:=(List.getElem?_eq_some_iff.1 ef).1
 have hfs:=aE.aEC (List.mem_of_getElem? ef)
 have hl:=p.aG2
 have hos:=f.aED
 simp only [aE.aQ]
 have no (q:¬ (yW f.iA∧(0≤f.a9∧f.a9≤12)∧(1≤(f.aL.length:Int)∧(f.aL.length:Int)≤12))):false = decide (vM p k f):=(decide_eq_false fun z=>q ⟨z.1,z.2.1,z.2.2.1⟩).symm
 refine dJ 91 aII bM aVD mix Tryz.func195 rfl (by kernel_rfl) (by simp) fun h=>?_
 simp -dsimp -implicitDefEqProofs only [go_sem,↓reduceIte,Tryz.f195,ef,aS.aQ,Int.toNat_natCast]
 repeat' (with_reducible first | intro _ | refine And.intro ?_ ?_)
 all_goals try omega
 first | refine aG.mk (tG f.iA) ?_ | refine aD.mk (tG f.iA) ?_ | refine aG.a5 (tG f.iA) ?_ | refine aD.mk (aX.cD (tG f.iA)) ?_
 simp -dsimp -implicitDefEqProofs only [go_sem,↓reduceIte,Tryz.f195,ef,aS.aQ]
 repeat' (with_reducible first | intro _ | refine And.intro ?_ ?_)
 ·first | refine aG.mk (eH f.a9 0 12) ?_ | refine aD.mk (eH f.a9 0 12) ?_ | refine aG.a5 (eH f.a9 0 12) ?_ | refine aD.mk (aX.cD (eH f.a9 0 12)) ?_
  simp -dsimp -implicitDefEqProofs only [go_sem,↓reduceIte,Tryz.f195,ef,aS.aQ]
  repeat' (with_reducible first | intro _ | refine And.intro ?_ ?_)
  ·first | refine aG.mk (eH f.aL.length 1 12) ?_ | refine aD.mk (eH f.aL.length 1 12) ?_ | refine aG.a5 (eH f.aL.length 1 12) ?_ | refine aD.mk (aX.cD (eH f.aL.length 1 12)) ?_
   simp -dsimp -implicitDefEqProofs only [go_sem,↓reduceIte,Tryz.f195,ef,aS.aQ]
   repeat' (with_reducible first | intro _ | refine And.intro ?_ ?_)
   ·exact no fun z=>by simp_all
   ·rename_i q1 q2 q3
    refine bQ (keep:=aII) (ib:=bM) (mk:=aVD) mix (by kernel_rfl) (fun j:Nat=>[(0,.ip 1 [p.c] 0 0),(1,I k),(5,.ip 3 (p.aJ.map aS.c) k 0),(6,I j)]) (fun _=>h) (fun j=>j≤k∧∀ g∈p.aJ.take j,g.iA≠f.iA) (fun j=>k - j) 0 (by refine ⟨by simp [bU,bF,aE.aQ],by repeat' (with_reducible first | exact aA.le_refl _ | refine (bI (by first | assumption | exact And.right (by assumption) | exact b8.2 (by assumption))).2 ?_),by simp⟩) ?_
    intro j ⟨hj,hp⟩
    simp only [aE.aQ]
    rcases Nat.lt_or_ge j k with hlt | hge
    ·have eg:p.aJ[j]? = some p.aJ[j]:=List.getElem?_eq_getElem (by omega)
     simp -dsimp -implicitDefEqProofs only [go_sem,↓reduceIte,Tryz.f195,ef,eg,aS.aQ,Int.toNat_natCast]
     repeat' (with_reducible first | intro _ | refine And.intro ?_ ?_)
     all_goals try omega
     ·rename_i he
      refine (decide_eq_false fun z=>z.2.2.2.1 p.aJ[j] ?_ he).symm
      exact List.mem_take_iff_getElem.2 ⟨j,by omega,rfl⟩
     ·rename_i he
      refine ⟨j + 1,?_⟩
      repeat' (with_reducible refine And.intro ?_ ?_)
      all_goals try (rw [IntWalk.i64_in _ (by omega)];first | rfl | omega)
      all_goals try omega
      all_goals try (repeat' (with_reducible first | exact aA.le_refl _ | refine (bI (by first | assumption | exact And.right (by assumption) | exact b8.2 (by assumption))).2 ?_))
      all_goals try (simp only [aE.aQ];done)
      exact p9 (P:=fun g:aS=>g.iA≠f.iA) (by omega) hp he
    ·have hj':j = k:=by omega
     rw [hj'] at hp
     simp -dsimp -implicitDefEqProofs only [go_sem,↓reduceIte,Tryz.f195,hj',Int.lt_irrefl]
     have part (i:Nat) (hi:i < f.aL.length):i + ((f.aL.take i).map aB.s).sum + f.aL[i].s + 1≤qR aB.s f.aL:=by
      have h1:=gK aB.s f.aL i hi
      have h2:=lU aB.s f.aL (i + 1)
      rw [fM];omega
     have hszs:qR aB.s f.aL≤f.s:=by rw [f.oD];omega
     refine bQ (keep:=aII) (ib:=bM) (mk:=aVD) mix (by kernel_rfl) (fun i:Nat=>[(0,.ip 1 [p.c] 0 0),(1,I k),(5,.ip 3 (p.aJ.map aS.c) k 0),(7,I (400 - (i + ((f.aL.take i).map aB.s).sum:Nat))),(8,I i)]) (fun _=>h) (fun i=>i≤f.aL.length∧i + ((f.aL.take i).map aB.s).sum≤400∧∀ e∈f.aL.take i,kH p e f.a9 k) (fun i=>f.aL.length - i) 0 (by refine ⟨by simp [bU,bF,aE.aQ],by repeat' (with_reducible first | exact aA.le_refl _ | refine (bI (by first | assumption | exact And.right (by assumption) | exact b8.2 (by assumption))).2 ?_),by simp⟩) ?_
     intro i ⟨hi,hsum,hall⟩
     simp only [aE.aQ]
     rcases Nat.lt_or_ge i f.aL.length with hlt | hge
     ·have h1:=gK aB.s f.aL i hlt
      have hpt:=part i hlt
      have hout:=aS.a2H (List.getElem_mem hlt)
      simp -dsimp -implicitDefEqProofs only [go_sem,↓reduceIte,Tryz.f195,ef,aS.aQ,Int.toNat_natCast]
      repeat' (with_reducible first | intro _ | refine And.intro ?_ ?_)
      all_goals try omega
      first | refine aD.mk ((yX f.aL[i] (400 - (i + ((f.aL.take i).map aB.s).sum:Nat)) (by omega) (by omega) (by omega)).sub (by repeat' (first | exact fU.nil | refine fU.cons ?_ ?_ | exact Sub.refl _ | (rw [aB.aQ];exact Sub.refl _) | exact Sub.fQ rfl rfl rfl | exact Sub.ip (bW (by omega)) (by simp) | exact Sub.fQ (bW (by omega)) rfl rfl | exact Sub.ip (by simp [*]) (by simp) | exact Sub.fQ (by simp [*]) (by rfl) (by rfl)))) ?_ | refine aG.mk ((yX f.aL[i] (400 - (i + ((f.aL.take i).map aB.s).sum:Nat)) (by omega) (by omega) (by omega)).sub (by repeat' (first | exact fU.nil | refine fU.cons ?_ ?_ | exact Sub.refl _ | (rw [aB.aQ];exact Sub.refl _) | exact Sub.fQ rfl rfl rfl | exact Sub.ip (bW (by omega)) (by simp) | exact Sub.fQ (bW (by omega)) rfl rfl | exact Sub.ip (by simp [*]) (by simp) | exact Sub.fQ (by simp [*]) (by rfl) (by rfl)))) ?_
      simp -dsimp -implicitDefEqProofs only [go_sem,↓reduceIte,Tryz.f195,ef,aS.aQ]
      rcases oB (400 - (i + ((f.aL.take i).map aB.s).sum:Nat)) (f.aL[i].s + 1) with ⟨e,hl1⟩ | ⟨e,hl1⟩
      ·simp -dsimp -implicitDefEqProofs only [go_sem,↓reduceIte,Tryz.f195,e]
       repeat' (with_reducible first | intro _ | refine And.intro ?_ ?_)
       all_goals try omega
       all_goals exact (decide_eq_false fun z=>by have:=z.2.2.2.2.1;omega).symm
      ·simp -dsimp -implicitDefEqProofs only [go_sem,↓reduceIte,Tryz.f195,e]
       repeat' (with_reducible first | intro _ | refine And.intro ?_ ?_)
       all_goals try omega
       first | refine aD.mk ((aQW p f.aL[i] f.a9 k (by omega) (by omega)).sub (by repeat' (first | exact fU.nil | refine fU.cons ?_ ?_ | exact Sub.refl _ | (rw [aB.aQ];exact Sub.refl _) | exact Sub.fQ rfl rfl rfl | exact Sub.ip (bW (by omega)) (by simp) | exact Sub.fQ (bW (by omega)) rfl rfl | exact Sub.ip (by simp [*]) (by simp) | exact Sub.fQ (by simp [*]) (by rfl) (by rfl)))) ?_ | refine aG.mk ((aQW p f.aL[i] f.a9 k (by omega) (by omega)).sub (by repeat' (first | exact fU.nil | refine fU.cons ?_ ?_ | exact Sub.refl _ | (rw [aB.aQ];exact Sub.refl _) | exact Sub.fQ rfl rfl rfl | exact Sub.ip (bW (by omega)) (by simp) | exact Sub.fQ (bW (by omega)) rfl rfl | exact Sub.ip (by simp [*]) (by simp) | exact Sub.fQ (by simp [*]) (by rfl) (by rfl)))) ?_
       simp -dsimp -implicitDefEqProofs only [go_sem,↓reduceIte,Tryz.f195,ef,aS.aQ]
       repeat' (with_reducible first | intro _ | refine And.intro ?_ ?_)
       ·rename_i hn
        exact (decide_eq_false fun z=>hn (z.2.2.2.2.2 _ (List.getElem_mem hlt))).symm
       ·rename_i hn
        refine ⟨i + 1,?_⟩
        repeat' (with_reducible refine And.intro ?_ ?_)
        all_goals try (rw [IntWalk.i64_in _ (by omega)];first | rfl | omega)
        all_goals try omega
        all_goals try (repeat' (with_reducible first | exact aA.le_refl _ | refine (bI (by first | assumption | exact And.right (by assumption) | exact b8.2 (by assumption))).2 ?_))
        all_goals try (simp only [aE.aQ];done)
        exact p9 (P:=fun e=>kH p e f.a9 k) hlt hall hn
     ·have hi':i = f.aL.length:=by omega
      subst hi'
      rw [List.take_length] at hsum hall
      simp -dsimp -implicitDefEqProofs only [go_sem,↓reduceIte,Tryz.f195,ef,aS.aQ,Nat.lt_irrefl]
      exact fun _=>(decide_eq_true ⟨by assumption,q1,q3,hp,by rw [fM];omega,hall⟩).symm
  ·exact no fun z=>by simp_all
 ·exact no fun z=>by simp_all
@[go_sem] def aQY:List Nat:=[0,2,3,9,16,22]
theorem bAM (p:aE) (hps:p.s≤4194304):dI Tryz.prog 160 [.ip 1 [p.c] 0 0] (.bool (decide p.ok)):=by
 simp only [aE.aQ]
 refine dJ 23 aQY bM bC mix Tryz.func160 rfl (by kernel_rfl) (by simp) fun h=>?_
 simp -dsimp -implicitDefEqProofs only [go_sem,↓reduceIte,Tryz.f160]
 repeat' (with_reducible first | intro _ | refine And.intro ?_ ?_)
 ·exact (decide_eq_false fun z=>by have:=z.1;omega).symm
 refine bQ (keep:=aQY) (ib:=bM) (mk:=bC) mix (by kernel_rfl) (fun k:Nat=>[(0,.ip 1 [p.c] 0 0),(3,I k)]) (fun _=>h) (fun k=>k≤p.aJ.length∧∀ (j:Nat) (f:aS),j < k→p.aJ[j]? = some f→vM p j f) (fun k=>p.aJ.length - k) 0 (by refine ⟨by simp [bU,bF,aE.aQ],by repeat' (with_reducible first | exact aA.le_refl _ | refine (bI (by first | assumption | exact And.right (by assumption) | exact b8.2 (by assumption))).2 ?_),by simp⟩) ?_
 intro k ⟨hk,hp⟩
 simp only [aE.aQ]
 rcases Nat.lt_or_ge k p.aJ.length with hlt | hge
 ·have eg:p.aJ[k]? = some p.aJ[k]:=List.getElem?_eq_getElem (by omega)
  simp -dsimp -implicitDefEqProofs only [go_sem,↓reduceIte,Tryz.f160]
  repeat' (with_reducible first | intro _ | refine And.intro ?_ ?_)
  all_goals try omega
  first | refine aD.mk ((aQX p k p.aJ[k] eg hps).sub (by repeat' (first | exact fU.nil | refine fU.cons ?_ ?_ | exact Sub.refl _ | (rw [aB.aQ];exact Sub.refl _) | exact Sub.fQ rfl rfl rfl | exact Sub.ip (bW (by omega)) (by simp) | exact Sub.fQ (bW (by omega)) rfl rfl | exact Sub.ip (by simp [*]) (by simp) | exact Sub.fQ (by simp [*]) (by rfl) (by rfl)))) ?_ | refine aG.mk ((aQX p k p.aJ[k] eg hps).sub (by repeat' (first | exact fU.nil | refine fU.cons ?_ ?_ | exact Sub.refl _ | (rw [aB.aQ];exact Sub.refl _) | exact Sub.fQ rfl rfl rfl | exact Sub.ip (bW (by omega)) (by simp) | exact Sub.fQ (bW (by omega)) rfl rfl | exact Sub.ip (by simp [*]) (by simp) | exact Sub.fQ (by simp [*]) (by rfl) (by rfl)))) ?_
  simp -dsimp -implicitDefEqProofs only [go_sem,↓reduceIte,Tryz.f160]
  repeat' (with_reducible first | intro _ | refine And.intro ?_ ?_)
  ·rename_i hn
   exact (decide_eq_false fun z=>hn (z.2 k _ eg)).symm
  ·rename_i hn
   refine ⟨k + 1,?_⟩
   repeat' (with_reducible refine And.intro ?_ ?_)
   all_goals try (rw [IntWalk.i64_in _ (by omega)];first | rfl | omega)
   all_goals try omega
   all_goals try (repeat' (with_reducible first | exact aA.le_refl _ | refine (bI (by first | assumption | exact And.right (by assumption) | exact b8.2 (by assumption))).2 ?_))
   all_goals try (simp only [aE.aQ];done)
   intro j f hj ej
   rcases Nat.lt_succ_iff_lt_or_eq.1 hj with h1 | rfl
   ·exact hp j f h1 ej
   ·rw [eg] at ej;obtain rfl:=Option.some.inj ej;exact hn
 ·have hk':k = p.aJ.length:=by omega
  subst hk'
  simp -dsimp -implicitDefEqProofs only [go_sem,↓reduceIte,Tryz.f160,Nat.lt_irrefl]
  exact fun _=>(decide_eq_true ⟨by omega,fun j f ej=>hp j f (List.getElem?_eq_some_iff.1 ej).1 ej⟩).symm
theorem aOC (a:List aS) (p:aS→Bool) (g:FuncId) (cap:List aC) {h0:aA} (hc:∀ x∈a,aX Tryz.prog g ([(.agg (aS.c x))] ++ cap) (.bool (p x)) h0):aX Tryz.prog 219 [(cY 3 aS.c a),.fn (.func g) [] cap] (I (idxOf p a)) h0:=by
 refine aK9 19 aQH bM bC mix Tryz.func219 rfl (by kernel_rfl) (by simp) fun h hle=>?_
 simp -dsimp -implicitDefEqProofs only [go_sem,↓reduceIte,Tryz.f219,Tryz.f219]
 intro _
 refine bQ (keep:=aQH) (ib:=bM) (mk:=bC) mix (by kernel_rfl) (fun k:Nat=>[(0,(cY 3 aS.c a)),(1,.fn (.func g) [] cap),(7,I a.length),(8,I k)]) (fun _=>h) (fun k=>k≤a.length∧∀ x∈a.take k,p x = false) (fun k=>a.length - k) 0 (by simp [bU,bF,aA.le_refl]) ?_
 intro k ⟨hk,hp⟩
 rcases Nat.lt_or_ge k a.length with hlt | hge
 ·have ea:a[k]? = some a[k]:=List.getElem?_eq_getElem hlt
  simp -dsimp -implicitDefEqProofs only [go_sem,↓reduceIte,Tryz.f219,Tryz.f219,ea,aS.aQ]
  repeat' (with_reducible first | intro _ | refine And.intro ?_ ?_)
  all_goals try omega
  have hx:=hc a[k] (List.getElem_mem hlt)
  simp only [aS.aQ] at hx
  refine aG.a5 (hx.mono hle) ?_
  cases hpk:p a[k] with
  |true =>
   simp -dsimp -implicitDefEqProofs only [go_sem,↓reduceIte,Tryz.f219,Tryz.f219]
   repeat' (with_reducible first | intro _ | refine And.intro ?_ ?_)
   all_goals first | exact (tE hlt hp hpk).symm | rfl | (rw [tE hlt hp hpk])
  |false =>
   simp -dsimp -implicitDefEqProofs only [go_sem,↓reduceIte,Tryz.f219,Tryz.f219]
   refine ⟨k + 1,?_⟩
   repeat' (with_reducible refine And.intro ?_ ?_)
   all_goals try (rw [IntWalk.i64_in _ (by omega)];first | rfl | omega)
   all_goals try omega
   exact p9 (P:=fun x=>p x = false) hlt hp hpk
 ·have hk':k = a.length:=by omega
  subst hk'
  rw [List.take_length] at hp
  simp -dsimp -implicitDefEqProofs only [go_sem,↓reduceIte,Tryz.f219,Tryz.f219,Nat.lt_irrefl]
  all_goals first | exact (tD hp).symm | rw [tD hp]
theorem aOD (a:List aS) (p:aS→Bool) (g:FuncId) (cap:List aC) {h0:aA} (hc:∀ x∈a,aX Tryz.prog g ([(.agg (aS.c x))] ++ cap) (.bool (p x)) h0):aX Tryz.prog 199 [(cY 3 aS.c a),.fn (.func g) [] cap] (.bool (a.any p)) h0:=by
 refine aK9 9 aBZ bM bC mix Tryz.func199 rfl (by kernel_rfl) (by simp) fun h hle=>?_
 simp -dsimp -implicitDefEqProofs only [go_sem,↓reduceIte,Tryz.f199,Tryz.f199]
 refine aG.a5 ((aOC a p g cap hc).mono hle) ?_
 simp -dsimp -implicitDefEqProofs only [go_sem,↓reduceIte,Tryz.f199,Tryz.f199]
 all_goals first | done | exact pJ | rw [pJ]
theorem aGC (g f:aS) (n:Nat) {h0:aA} (hn:h0 n = some (.row 3 [f.c.map .v])):aX Tryz.prog 200 [.agg g.c,.op n 3 0 0] (.bool (decide (g.iA = f.iA))) h0:=by
 simp only [aS.aQ]
 have hg (h:aA) (hle:h0.le h):=aA.a4H hle hn
 refine aK9 9 aOA aN9 bC mix Tryz.func200 rfl (by kernel_rfl) (by simp) fun h hle=>?_
 simp -dsimp -implicitDefEqProofs only [go_sem,↓reduceIte,Tryz.f200]
 have hn':=hg h hle
 simp only [aS.aQ] at hn'
 simp -dsimp -implicitDefEqProofs only [go_sem,↓reduceIte,Tryz.f200,hn']
@[go_sem] def aIJ:List Nat:=[0,1,2,3,4,5,7,11,13,14,15,16,31,42,44,45,46,47,56,63]
theorem aIK (p:aE) (hps:p.s≤4194304):dI Tryz.prog 172 [.agg p.c] (.bool (decide p.ok)):=by
 simp only [aE.aQ]
 refine dJ 65 aIJ aAO bC mix Tryz.func172 rfl (by kernel_rfl) (by simp) fun h=>?_
 simp -dsimp -implicitDefEqProofs only [go_sem,↓reduceIte,Tryz.f172]
 repeat' (with_reducible first | intro _ | refine And.intro ?_ ?_)
 ·exact (decide_eq_false fun z=>by have:=z.1;omega).symm
 refine bQ (keep:=aIJ) (ib:=aAO) (mk:=bC) mix (by kernel_rfl) (fun k:Nat=>[(1,.ip 1 [p.c] 0 0),(13,cY 3 aS.c p.aJ),(14,I p.aJ.length),(15,I k)]) (fun _=>h) (fun k=>k≤p.aJ.length∧∀ (j:Nat) (f:aS),j < k→p.aJ[j]? = some f→vM p j f) (fun k=>p.aJ.length - k) 0 (by refine ⟨by simp [bU,bF,aE.aQ],by repeat' (with_reducible first | exact aA.le_refl _ | refine (bI (by first | assumption | exact And.right (by assumption) | exact b8.2 (by assumption))).2 ?_),by simp⟩) ?_
 intro k ⟨hk,hp⟩
 simp only [aE.aQ]
 rcases Nat.lt_or_ge k p.aJ.length with hlt | hge
 ·obtain ⟨f,eg⟩:∃ f,p.aJ[k]? = some f:=⟨_,List.getElem?_eq_getElem hlt⟩
  have hfs:=aE.aEC (List.mem_of_getElem? eg)
  have hos:=f.aED
  have no (q:¬ vM p k f):false = decide p.ok:=(decide_eq_false fun z=>q (z.2 k f eg)).symm
  simp -dsimp -implicitDefEqProofs only [go_sem,↓reduceIte,Tryz.f172,eg,aS.aQ,aO]
  repeat' (with_reducible first | intro _ | refine And.intro ?_ ?_)
  all_goals try omega
  rename_i n hn
  first | refine aG.mk (aIB f.iA) ?_ | refine aD.mk (aIB f.iA) ?_ | refine aG.a5 (aIB f.iA) ?_ | refine aD.mk (aX.cD (aIB f.iA)) ?_
  simp -dsimp -implicitDefEqProofs only [go_sem,↓reduceIte,Tryz.f172,cF,aO]
  repeat' (with_reducible first | intro _ | refine And.intro ?_ ?_)
  all_goals try (repeat' (with_reducible first | exact aA.le_refl _ | refine (bI (by first | assumption | exact And.right (by assumption) | exact b8.2 (by assumption))).2 ?_))
  all_goals try omega
  all_goals try (rename_i hnm;exact no fun z=>hnm z.1)
  rename_i hnm
  rw [← List.map_take]
  refine aG.a5 (aOD (p.aJ.take k) (fun g=>decide (g.iA = f.iA)) 200 [.op n 3 0 0] fun g _=>aGC g f n (by simp [cF,aS.aQ])) ?_
  simp -dsimp -implicitDefEqProofs only [go_sem,↓reduceIte,Tryz.f172,cF,aO]
  repeat' (with_reducible first | intro _ | refine And.intro ?_ ?_)
  all_goals try (repeat' (with_reducible first | exact aA.le_refl _ | refine (bI (by first | assumption | exact And.right (by assumption) | exact b8.2 (by assumption))).2 ?_))
  ·rename_i q
   refine no fun z=>?_
   obtain ⟨g,iZ,hg2⟩:=List.any_eq_true.1 q
   exact z.2.2.2.1 g iZ (by simpa using hg2)
  rename_i hnd
  have hnd':∀ g∈p.aJ.take k,g.iA≠f.iA:=fun g hg=>by
   have:=List.any_eq_false.1 hnd g hg
   simpa using this
  first | refine aG.mk (within f.a9 0 12) ?_ | refine aD.mk (within f.a9 0 12) ?_ | refine aG.a5 (within f.a9 0 12) ?_ | refine aD.mk (aX.cD (within f.a9 0 12)) ?_
  simp -dsimp -implicitDefEqProofs only [go_sem,↓reduceIte,Tryz.f172,cF,aO]
  repeat' (with_reducible first | intro _ | refine And.intro ?_ ?_)
  all_goals try (repeat' (with_reducible first | exact aA.le_refl _ | refine (bI (by first | assumption | exact And.right (by assumption) | exact b8.2 (by assumption))).2 ?_))
  ·first | refine aG.mk (within f.aL.length 1 12) ?_ | refine aD.mk (within f.aL.length 1 12) ?_ | refine aG.a5 (within f.aL.length 1 12) ?_ | refine aD.mk (aX.cD (within f.aL.length 1 12)) ?_
   simp -dsimp -implicitDefEqProofs only [go_sem,↓reduceIte,Tryz.f172,cF,aO]
   repeat' (with_reducible first | intro _ | refine And.intro ?_ ?_)
   all_goals try (repeat' (with_reducible first | exact aA.le_refl _ | refine (bI (by first | assumption | exact And.right (by assumption) | exact b8.2 (by assumption))).2 ?_))
   ·rename_i q
    exact no fun z=>q z.2.2.1
   ·rename_i q1 q2 q3 q4
    have part (i:Nat) (hi:i < f.aL.length):i + ((f.aL.take i).map aB.s).sum + f.aL[i].s + 1≤qR aB.s f.aL:=by
     have h1:=gK aB.s f.aL i hi
     have h2:=lU aB.s f.aL (i + 1)
     rw [fM];omega
    have hszs:qR aB.s f.aL≤f.s:=by rw [f.oD];omega
    refine bQ (keep:=aIJ) (ib:=aAO) (mk:=bC) mix (by kernel_rfl) (fun i:Nat=>[(1,.ip 1 [p.c] 0 0),(3,I k),(4,.op n 3 0 0),(5,I ((i + ((f.aL.take i).map aB.s).sum:Nat):Int)),(13,cY 3 aS.c p.aJ),(14,I p.aJ.length),(15,I k),(44,cY 5 aB.c f.aL),(45,I f.aL.length),(46,I i)]) (fun _=>a7 h n (.row 3 [f.c.map .v])) (fun i=>i≤f.aL.length∧∀ e∈f.aL.take i,kH p e f.a9 k) (fun i=>f.aL.length - i) 0 (by refine ⟨by simp [bU,bF,aE.aQ],by simp [aS.aQ,aA.le_refl],by simp⟩) ?_
    intro i ⟨hi,hall⟩
    simp only [aE.aQ,aS.aQ,List.map_cons,List.map_nil]
    rcases Nat.lt_or_ge i f.aL.length with jO | aAP
    ·have h1:=gK aB.s f.aL i jO
     have hpt:=part i jO
     have hout:=aS.a2H (List.getElem_mem jO)
     have ee:f.aL[i]? = some f.aL[i]:=List.getElem?_eq_getElem jO
     have hv:=aS2 p f.aL[i] f.a9 k (by omega) (by omega)
     have hz:=aD9 f.aL[i] (by omega)
     simp only [aB.aQ,aE.aQ] at hv hz
     simp -dsimp -implicitDefEqProofs only [go_sem,↓reduceIte,Tryz.f172,ee,aB.aQ,aO]
     repeat' (with_reducible first | intro _ | refine And.intro ?_ ?_)
     all_goals try omega
     rename_i m hm
     have hmn:(n = m) = False:=eq_false fun e=>hm.1 e.symm
     have a4P:(m = n) = False:=eq_false hm.1
     simp -dsimp -implicitDefEqProofs only [go_sem,↓reduceIte,Tryz.f172,cF,hmn,a4P]
     first | refine aG.mk (hv) ?_ | refine aD.mk (hv) ?_ | refine aG.a5 (hv) ?_ | refine aD.mk (aX.cD (hv)) ?_
     simp -dsimp -implicitDefEqProofs only [go_sem,↓reduceIte,Tryz.f172,cF,hmn,a4P]
     repeat' (with_reducible first | intro _ | refine And.intro ?_ ?_)
     ·rename_i hne
      exact no fun z=>hne (z.2.2.2.2.2 _ (List.getElem_mem jO))
     ·all_goals try (repeat' (with_reducible first | exact aA.le_refl _ | refine (bI (by first | assumption | exact And.right (by assumption) | exact b8.2 (by assumption))).2 ?_))
     ·rename_i hne
      first | refine aG.mk (hz) ?_ | refine aD.mk (hz) ?_ | refine aG.a5 (hz) ?_ | refine aD.mk (aX.cD (hz)) ?_
      simp -dsimp -implicitDefEqProofs only [go_sem,↓reduceIte,Tryz.f172,cF,hmn,a4P]
      refine ⟨i + 1,?_⟩
      repeat' (with_reducible refine And.intro ?_ ?_)
      all_goals try (rw [IntWalk.i64_in _ (by omega)];first | rfl | omega)
      all_goals try omega
      all_goals try (repeat' (with_reducible first | exact aA.le_refl _ | refine (bI (by first | assumption | exact And.right (by assumption) | exact b8.2 (by assumption))).2 ?_))
      all_goals try (simp only [aE.aQ];done)
      exact p9 (P:=fun e=>kH p e f.a9 k) jO hall hne
    ·have hi':i = f.aL.length:=by omega
     subst hi'
     rw [List.take_length] at hall ⊢
     simp -dsimp -implicitDefEqProofs only [go_sem,↓reduceIte,Tryz.f172,Nat.lt_irrefl]
     have hss:qR aB.s f.aL = f.aL.length + (f.aL.map aB.s).sum:=fM _ _
     repeat' (with_reducible first | intro _ | refine And.intro ?_ ?_)
     all_goals try (repeat' (with_reducible first | exact aA.le_refl _ | refine (bI (by first | assumption | exact And.right (by assumption) | exact b8.2 (by assumption))).2 ?_))
     ·rename_i q
      exact no fun z=>by have:=z.2.2.2.2.1;omega
     ·rename_i q
      have hfk:vM p k f:=⟨hnm,q1,q3,hnd',by omega,hall⟩
      refine ⟨k + 1,?_⟩
      repeat' (with_reducible refine And.intro ?_ ?_)
      all_goals try (rw [IntWalk.i64_in _ (by omega)];first | rfl | omega)
      all_goals try omega
      all_goals try (repeat' (with_reducible first | exact aA.le_refl _ | refine (bI (by first | assumption | exact And.right (by assumption) | exact b8.2 (by assumption))).2 ?_))
      intro j f' hj ej
      rcases Nat.lt_succ_iff_lt_or_eq.1 hj with h1 | rfl
      ·exact hp j f' h1 ej
      ·rw [eg] at ej;obtain rfl:=Option.some.inj ej;exact hfk
  ·rename_i q
   exact no fun z=>q z.2.1
 ·have hk':k = p.aJ.length:=by omega
  subst hk'
  simp -dsimp -implicitDefEqProofs only [go_sem,↓reduceIte,Tryz.f172,Nat.lt_irrefl]
  exact (decide_eq_true ⟨by omega,fun j f ej=>hp j f (List.getElem?_eq_some_iff.1 ej).1 ej⟩).symm
@[go_sem] def a4Q:List Nat:=[0,1,2,4,5,9]
theorem aVE (p:aE) (f:Int) (hps:p.s≤4194304):dI Tryz.prog 99 [.agg p.c,I f] (I (if p.ok then if 0≤f∧f≤(p.aJ.length:Int) - 1 then 0 else 2 else 1)):=by
 have hv:=aIK p hps
 simp only [aE.aQ] at hv ⊢
 refine dJ 17 a4Q aN9 bC mix Tryz.func99 rfl (by kernel_rfl) (by simp) fun h=>?_
 simp -dsimp -implicitDefEqProofs only [go_sem,↓reduceIte,Tryz.f99]
 first | refine aG.mk (hv) ?_ | refine aD.mk (hv) ?_ | refine aG.a5 (hv) ?_ | refine aD.mk (aX.cD (hv)) ?_
 simp -dsimp -implicitDefEqProofs only [go_sem,↓reduceIte,Tryz.f99]
 repeat' (with_reducible first | intro _ | refine And.intro ?_ ?_)
 ·rename_i hn
  rw [if_neg hn]
 ·rename_i hn _
  rw [if_pos hn]
  all_goals try simp (disch:=omega) only [IntWalk.i64_in]
  first | refine aG.mk (within f 0 (p.aJ.length - 1)) ?_ | refine aD.mk (within f 0 (p.aJ.length - 1)) ?_ | refine aG.a5 (within f 0 (p.aJ.length - 1)) ?_ | refine aD.mk (aX.cD (within f 0 (p.aJ.length - 1))) ?_
  simp -dsimp -implicitDefEqProofs only [go_sem,↓reduceIte,Tryz.f99]
  repeat' (with_reducible first | intro _ | refine And.intro ?_ ?_)
  ·rename_i q
   rw [if_neg q]
  ·rename_i q
   rw [if_pos q]
theorem aLL (l:List aB) (h1:l.length≤1048576) (hc:∀ x∈l,dI Tryz.prog 211 [(.agg (aB.c x))] (.agg (aB.c x))):dI Tryz.prog 185 [(cY 5 aB.c l)] (cY 5 aB.c l):=by
 refine j7 23 uL bM bC mix Tryz.func185 rfl (by kernel_rfl) (by simp) fun h=>?_
 simp -dsimp -implicitDefEqProofs only [go_sem,Tryz.f185,↓reduceIte]
 refine fun _=>⟨by omega,by omega,by omega,by omega,fun n hn=>?_⟩
 refine bQ (keep:=uL) (ib:=bM) (mk:=bC) mix (by kernel_rfl) (fun k:Nat=>[(0,(cY 5 aB.c l)),(3,.os n 5 0 l.length),(4,I k)]) (fun k=>a7 h n (.row 5 (lV aB.c [.int .i64 0,.int .i64 0,.int .i64 0,.int .i64 0,.bO] l k))) (fun k=>k≤l.length) (fun k=>l.length - k) 0 (by simp [bU,bF,aA.le_refl,oT]) ?_
 intro k hk
 rcases Nat.lt_or_ge k l.length with hlt | hge
 ·have ea:l[k]? = some l[k]:=List.getElem?_eq_getElem hlt
  simp -dsimp -implicitDefEqProofs only [go_sem,↓reduceIte,Tryz.f185,ea,lW _ _ _ _ hlt,aB.aQ]
  refine fun _=>⟨fun _=>⟨hlt,?_⟩,fun hn=>absurd hlt hn⟩
  have hx:=hc l[k] (List.getElem_mem hlt)
  simp only [aB.aQ] at hx
  refine aG.mk hx ?_
  simp -dsimp -implicitDefEqProofs only [go_sem,↓reduceIte,Tryz.f185,lW _ _ _ _ hlt]
  refine ⟨hlt,k + 1,by rw [IntWalk.i64_in _ (by omega)];rfl,?_,by omega,by omega⟩
  exact yV hlt (by first | rfl | (simp only [List.map_cons,List.map_nil,aB.aQ]))
 ·have hk':k = l.length:=by omega
  subst hk'
  simp -dsimp -implicitDefEqProofs only [go_sem,↓reduceIte,Tryz.f185,Nat.lt_irrefl]
  rw [p8]
  exact fun _=>oC _ hn (aA.le_refl _) _ (by simp)
theorem aIL (x:aB) (hs:x.s≤1048576) (hk:dI Tryz.prog 185 [(cY 5 aB.c x.aI)] (cY 5 aB.c x.aI)):dI Tryz.prog 211 [.agg x.c] (.agg x.c):=by
 rw [aB.oD] at hs
 simp only [aB.aQ]
 refine j7 21 aOA aAO bC mix Tryz.func211 rfl (by kernel_rfl) (by simp) fun h=>?_
 simp -dsimp -implicitDefEqProofs only [go_sem,Tryz.f211,↓reduceIte]
 intro n2 h2 n3 h3
 have e1:(n2 = n3) = False:=eq_false fun e=>h3.1 e.symm
 have e2:(n3 = n2) = False:=eq_false h3.1
 have hzfKids:(x.aI).length + ((x.aI).map aB.s).sum = (qR aB.s x.aI):=rfl
 refine aG.mk hk ?_
 simp -dsimp -implicitDefEqProofs only [go_sem,↓reduceIte,Tryz.f211,aO,cF,e1,e2]
 exact cG (by simp -dsimp -implicitDefEqProofs only [go_sem,h2,h3,e1,e2,cF])
theorem aQZ (x:aB) (hs:x.s≤1048576):dI Tryz.prog 211 [.agg x.c] (.agg x.c) :=
 aIL x hs (aLL x.aI (by rw [aB.oD] at hs;rw [fM] at hs;omega) fun y hy=>aQZ y (by rw [aB.oD] at hs;have:=kS aB.s hy;rw [fM] at hs;omega))
termination_by SizeOf.sizeOf x
decreasing_by exact aB.qA hy
theorem aZG (x:aS) (hs:x.s≤1048576):dI Tryz.prog 134 [.agg x.c] (.agg x.c):=by
 rw [aS.oD] at hs
 simp only [aS.aQ]
 refine j7 15 aOA aAO bC mix Tryz.func134 rfl (by kernel_rfl) (by simp) fun h=>?_
 simp -dsimp -implicitDefEqProofs only [go_sem,Tryz.f134,↓reduceIte]
 intro n2 h2 n3 h3
 have e1:(n2 = n3) = False:=eq_false fun e=>h3.1 e.symm
 have e2:(n3 = n2) = False:=eq_false h3.1
 have hzfOuts:(x.aL).length + ((x.aL).map aB.s).sum = (qR aB.s x.aL):=rfl
 refine aG.mk (aLL x.aL (by omega) (fun y hy=>aQZ y (by have hq:(aB.s y)≤((x.aL).map aB.s).sum:=kS aB.s hy;omega))) ?_
 simp -dsimp -implicitDefEqProofs only [go_sem,↓reduceIte,Tryz.f134,aO,cF,e1,e2]
 exact cG (by simp -dsimp -implicitDefEqProofs only [go_sem,h2,h3,e1,e2,cF])
theorem aVF (l:List aS) (h1:l.length≤1048576) (hc:∀ x∈l,dI Tryz.prog 134 [(.agg (aS.c x))] (.agg (aS.c x))):dI Tryz.prog 55 [(cY 3 aS.c l)] (cY 3 aS.c l):=by
 refine j7 23 uL bM bC mix Tryz.func55 rfl (by kernel_rfl) (by simp) fun h=>?_
 simp -dsimp -implicitDefEqProofs only [go_sem,Tryz.f55,↓reduceIte]
 refine fun _=>⟨by omega,by omega,by omega,by omega,fun n hn=>?_⟩
 refine bQ (keep:=uL) (ib:=bM) (mk:=bC) mix (by kernel_rfl) (fun k:Nat=>[(0,(cY 3 aS.c l)),(3,.os n 3 0 l.length),(4,I k)]) (fun k=>a7 h n (.row 3 (lV aS.c [.str [],.int .i64 0,.bO] l k))) (fun k=>k≤l.length) (fun k=>l.length - k) 0 (by simp [bU,bF,aA.le_refl,oT]) ?_
 intro k hk
 rcases Nat.lt_or_ge k l.length with hlt | hge
 ·have ea:l[k]? = some l[k]:=List.getElem?_eq_getElem hlt
  simp -dsimp -implicitDefEqProofs only [go_sem,↓reduceIte,Tryz.f55,ea,lW _ _ _ _ hlt,aS.aQ]
  refine fun _=>⟨fun _=>⟨hlt,?_⟩,fun hn=>absurd hlt hn⟩
  have hx:=hc l[k] (List.getElem_mem hlt)
  simp only [aS.aQ] at hx
  refine aG.mk hx ?_
  simp -dsimp -implicitDefEqProofs only [go_sem,↓reduceIte,Tryz.f55,lW _ _ _ _ hlt]
  refine ⟨hlt,k + 1,by rw [IntWalk.i64_in _ (by omega)];rfl,?_,by omega,by omega⟩
  exact yV hlt (by first | rfl | (simp only [List.map_cons,List.map_nil,aS.aQ]))
 ·have hk':k = l.length:=by omega
  subst hk'
  simp -dsimp -implicitDefEqProofs only [go_sem,↓reduceIte,Tryz.f55,Nat.lt_irrefl]
  rw [p8]
  exact fun _=>oC _ hn (aA.le_refl _) _ (by simp)
theorem qC (x:aE) (hs:x.s≤1048576):dI Tryz.prog 9 [.agg x.c] (.agg x.c):=by
 rw [aE.oD] at hs
 simp only [aE.aQ]
 refine j7 9 aOA aAO bC mix Tryz.func9 rfl (by kernel_rfl) (by simp) fun h=>?_
 simp -dsimp -implicitDefEqProofs only [go_sem,Tryz.f9,↓reduceIte]
 intro n2 h2 n3 h3
 have e1:(n2 = n3) = False:=eq_false fun e=>h3.1 e.symm
 have e2:(n3 = n2) = False:=eq_false h3.1
 have hzfFuncs:(x.aJ).length + ((x.aJ).map aS.s).sum = (qR aS.s x.aJ):=rfl
 refine aG.mk (aVF x.aJ (by omega) (fun y hy=>aZG y (by have hq:(aS.s y)≤((x.aJ).map aS.s).sum:=kS aS.s hy;omega))) ?_
 simp -dsimp -implicitDefEqProofs only [go_sem,↓reduceIte,Tryz.f9,aO,cF,e1,e2]
 exact cG (by simp -dsimp -implicitDefEqProofs only [go_sem,h2,h3,e1,e2,cF])
theorem sC (l:List Int) (h1:l.length≤1048576):dI Tryz.prog 10 [(cY 1 (fun n=>[I n]) l)] (cY 1 (fun n=>[I n]) l):=by
 refine j7 22 uL bM bC mix Tryz.func10 rfl (by kernel_rfl) (by simp) fun h=>?_
 simp -dsimp -implicitDefEqProofs only [go_sem,Tryz.f10,↓reduceIte]
 refine fun _=>⟨by omega,by omega,by omega,by omega,fun n hn=>?_⟩
 refine bQ (keep:=uL) (ib:=bM) (mk:=bC) mix (by kernel_rfl) (fun k:Nat=>[(0,(cY 1 (fun n=>[I n]) l)),(3,.os n 1 0 l.length),(4,I k)]) (fun k=>a7 h n (.row 1 (lV (fun n=>[I n]) [.int .i64 0] l k))) (fun k=>k≤l.length) (fun k=>l.length - k) 0 (by simp [bU,bF,aA.le_refl,oT]) ?_
 intro k hk
 rcases Nat.lt_or_ge k l.length with hlt | hge
 ·have ea:l[k]? = some l[k]:=List.getElem?_eq_getElem hlt
  simp -dsimp -implicitDefEqProofs only [go_sem,↓reduceIte,Tryz.f10,ea,lW _ _ _ _ hlt]
  refine fun _=>⟨fun _=>⟨hlt,hlt,k + 1,by rw [IntWalk.i64_in _ (by omega)];rfl,?_,by omega,by omega⟩,fun hn=>absurd hlt hn⟩
  exact yV hlt rfl
 ·have hk':k = l.length:=by omega
  subst hk'
  simp -dsimp -implicitDefEqProofs only [go_sem,↓reduceIte,Tryz.f10,Nat.lt_irrefl]
  rw [p8]
  exact fun _=>oC _ hn (aA.le_refl _) _ (by simp)
theorem qD (l:List (List Int)) (h1:l.length≤1048576) (hc:∀ x∈l,dI Tryz.prog 10 [(cY 1 (fun n=>[I n]) x)] (cY 1 (fun n=>[I n]) x)):dI Tryz.prog 21 [(cY 1 (fun x=>[cY 1 (fun n=>[I n]) x]) l)] (cY 1 (fun x=>[cY 1 (fun n=>[I n]) x]) l):=by
 refine j7 23 uL bM bC mix Tryz.func21 rfl (by kernel_rfl) (by simp) fun h=>?_
 simp -dsimp -implicitDefEqProofs only [go_sem,Tryz.f21,↓reduceIte]
 refine fun _=>⟨by omega,by omega,by omega,by omega,fun n hn=>?_⟩
 refine bQ (keep:=uL) (ib:=bM) (mk:=bC) mix (by kernel_rfl) (fun k:Nat=>[(0,(cY 1 (fun x=>[cY 1 (fun n=>[I n]) x]) l)),(3,.os n 1 0 l.length),(4,I k)]) (fun k=>a7 h n (.row 1 (lV (fun x=>[cY 1 (fun n=>[I n]) x]) [.bO] l k))) (fun k=>k≤l.length) (fun k=>l.length - k) 0 (by simp [bU,bF,aA.le_refl,oT]) ?_
 intro k hk
 rcases Nat.lt_or_ge k l.length with hlt | hge
 ·have ea:l[k]? = some l[k]:=List.getElem?_eq_getElem hlt
  simp -dsimp -implicitDefEqProofs only [go_sem,↓reduceIte,Tryz.f21,ea,lW _ _ _ _ hlt]
  refine fun _=>⟨fun _=>⟨hlt,?_⟩,fun hn=>absurd hlt hn⟩
  have hx:=hc l[k] (List.getElem_mem hlt)
  refine aG.mk hx ?_
  simp -dsimp -implicitDefEqProofs only [go_sem,↓reduceIte,Tryz.f21,lW _ _ _ _ hlt]
  refine ⟨hlt,k + 1,by rw [IntWalk.i64_in _ (by omega)];rfl,?_,by omega,by omega⟩
  exact yV hlt (by first | rfl | (simp only [List.map_cons,List.map_nil]))
 ·have hk':k = l.length:=by omega
  subst hk'
  simp -dsimp -implicitDefEqProofs only [go_sem,↓reduceIte,Tryz.f21,Nat.lt_irrefl]
  rw [p8]
  exact fun _=>oC _ hn (aA.le_refl _) _ (by simp)
end Go.Hl

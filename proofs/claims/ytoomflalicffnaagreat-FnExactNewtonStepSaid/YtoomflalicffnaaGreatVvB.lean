/-
  Contracts of functions and laws of the layer over the walk.
-/
import Derived.Test.YtoomflalicffnaaGreatVvA
import Derived.Test.YtoomflalicffnaaGreatHlD
namespace Go.Hl
open Go.Proofs
set_option linter.unusedVariables false
set_option linter.unusedSimpArgs false
mutual
def aB.o:aB→List OV→Prop
 | .mk aR aW cB bZ aI,e=>∃ y,e = [.v (.int .i64 aR),.v (.int .i64 aW),.v (.int .i64 cB),.v (.int .i64 bZ),y]∧((y = .nil 5∧aI = [])∨∃ n es,y = .sl n 5 es∧aB.oR aI es)
def aB.oR:List aB→List (List OV)→Prop
 | [],[]=>True
 |x :: l,e :: es=>x.o e∧aB.oR l es
 | _,_=>False
end
theorem aB.a2I:∀ (l:List aB) (es:List (List OV)),aB.oR l es = OR aB.o l es
 | [],[]=>rfl
 |x :: l,e :: es=>by rw [aB.oR,OR,aB.a2I l es]
 | [],_ :: _=>rfl
 | _ :: _,[]=>rfl
theorem aB.aLM (x:aB) (e:List OV):x.o e ↔ ∃ y4,e = [.v (.int .i64 x.aR),.v (.int .i64 x.aW),.v (.int .i64 x.cB),.v (.int .i64 x.bZ),y4]∧OS aB.o 5 x.aI y4:=by
 cases x
 simp only [aB.o,aB.a2I,OS]
 rfl
mutual
theorem aB.aEG:∀ {x:aB} {e:List OV},x.o e→e.map OV.lQ = x.c
 | .mk aR aW cB bZ aI,e,h=>by
  rw [aB.aLM] at h
  obtain ⟨y,rfl,h⟩:=h
  have hk:y.lQ = .sl 5 (aI.map aB.c) false:=by
   rcases h with ⟨rfl,h0⟩ | ⟨n,es,rfl,h⟩
   ·have h1:aI = []:=h0
    subst h1;rfl
   ·simp only [OV.lQ]
    rw [aB.aVG h]
    rfl
  rw [aB.aQ]
  simp only [List.map_cons,List.map_nil,OV.lQ,hk]
  rfl
theorem aB.aVG:∀ {l:List aB} {es:List (List OV)},OR aB.o l es→OV.cQ es = l.map aB.c
 | [],[],_=>rfl
 |x :: l,e :: es,h=>by rw [OV.cQ,aB.aVG h.2,OV.s5,aB.aEG h.1];rfl
 | [],_ :: _,h=>h.elim
 | _ :: _,[],h=>h.elim
end
def aS.o (x:aS) (e:List OV):Prop:=∃ y2,e = [.v (.str x.iA),.v (.int .i64 x.a9),y2]∧OS aB.o 5 x.aL y2
theorem aS.aEG {x:aS} {e:List OV} (h:x.o e):e.map OV.lQ = x.c:=by
 obtain ⟨y2,rfl,o2⟩:=h
 have d2:=OS.lQ (c:=aB.c) (fun _ _ q=>aB.aEG q) o2
 rw [aS.aQ]
 simp only [List.map_cons,List.map_nil,OV.lQ,d2]
def aE.o (x:aE) (e:List OV):Prop:=∃ y0,e = [y0]∧OS aS.o 3 x.aJ y0
theorem aE.aEG {x:aE} {e:List OV} (h:x.o e):e.map OV.lQ = x.c:=by
 obtain ⟨y0,rfl,o0⟩:=h
 have d0:=OS.lQ (c:=aS.c) (fun _ _ q=>aS.aEG q) o0
 rw [aE.aQ]
 simp only [List.map_cons,List.map_nil,OV.lQ,d0]
theorem aB.aS3 (x:aB) (e:List OV) (h:x.o e):OV.j4 e≤16 * (1 + x.s):=by
 rw [aB.aLM] at h
 obtain ⟨y4,rfl,o4⟩:=h
 have d4:=OS.cts (s:=aB.s) o4 (fun z hz e q=>aB.aS3 z e q)
 have s0:=aB.oD x
 clear o4
 simp only [OV.j4,OV.aD4]
 refine Nat.le_trans (Nat.add_le_add (Nat.le_refl 1) (Nat.add_le_add (Nat.le_refl 1) (Nat.add_le_add (Nat.le_refl 1) (Nat.add_le_add (Nat.le_refl 1) (Nat.add_le_add d4 (Nat.le_refl 0)))))) ?_
 clear d4
 try generalize (qR aB.s x.aI) = z4 at *
 omega
termination_by SizeOf.sizeOf x
decreasing_by exact aB.qA hz
theorem aS.aS3 (x:aS) (e:List OV) (h:x.o e):OV.j4 e≤16 * (1 + x.s):=by
 obtain ⟨y2,rfl,o2⟩:=h
 have d2:=OS.cts (s:=aB.s) o2 (fun z hz e q=>aB.aS3 z e q)
 have s0:=aS.oD x
 clear o2
 simp only [OV.j4,OV.aD4]
 refine Nat.le_trans (Nat.add_le_add (Nat.le_refl 1) (Nat.add_le_add (Nat.le_refl 1) (Nat.add_le_add d2 (Nat.le_refl 0)))) ?_
 clear d2
 try generalize (qR aB.s x.aL) = z2 at *
 omega
theorem aE.aS3 (x:aE) (e:List OV) (h:x.o e):OV.j4 e≤16 * (1 + x.s):=by
 obtain ⟨y0,rfl,o0⟩:=h
 have d0:=OS.cts (s:=aS.s) o0 (fun z hz e q=>aS.aS3 z e q)
 have s0:=aE.oD x
 clear o0
 simp only [OV.j4,OV.aD4]
 refine Nat.le_trans (Nat.add_le_add d0 (Nat.le_refl 0)) ?_
 clear d0
 try generalize (qR aS.s x.aJ) = z0 at *
 omega
theorem aE.bAN (x:aE) (e:List OV) (h:x.o e):OV.vK e≤16 * (1 + x.s):=by
 have h1:=aE.aS3 x e h
 have h2:∀ e:List OV,OV.vK e≤OV.j4 e:=fun e=>by
  induction e with
  |nil=>simp [OV.vK]
  |cons a e ih=>rw [OV.vK,OV.j4];cases a <;> simp [OV.ctT] <;> omega
 exact Nat.le_trans (h2 e) h1
set_option maxRecDepth 100000
theorem aG3 (l:List aB) (h1:l.length≤1048576) (hc:∀ x∈l,rN Tryz.prog 211 [(.agg (aB.c x))] (QA x.o)):rN Tryz.prog 185 [(cY 5 aB.c l)] (QS (OS aB.o 5 l)):=by
 refine pI 23 uL bM bC mix Tryz.func185 rfl (by kernel_rfl) (by simp) fun h=>?_
 simp -dsimp -implicitDefEqProofs only [go_sem,↓reduceIte,Tryz.f185]
 refine fun _=>⟨by omega,by omega,by omega,by omega,fun n hn=>?_⟩
 refine bQ (keep:=uL) (ib:=bM) (mk:=bC) mix (by kernel_rfl) (fun x:Nat × List (List OV) × aA=>[(0,(cY 5 aB.c l)),(3,.os n 5 0 l.length),(4,I x.1)]) (fun x=>a7 x.2.2 n (.row 5 (OV.cells x.2.1 ++ (List.replicate (l.length - x.1) [.int .i64 0,.int .i64 0,.int .i64 0,.int .i64 0,.bO]).map (List.map .v)))) (fun x=>x.1≤l.length∧OR aB.o (l.take x.1) x.2.1∧g8 h (OV.bG x.2.1) x.2.2∧x.2.2 n = none) (fun x=>l.length - x.1) (0,[],h) (by
  exact ⟨by simp [bU,bF],aA.le_refl _,Nat.zero_le _,trivial,g8.nil h,hn⟩) ?_
 rintro ⟨k,es,g⟩ ⟨hk,hor,hnew,hgn⟩
 have hlen:es.length = k:=by have:=hor.length;simp at this;omega
 rcases Nat.lt_or_ge k l.length with hlt | hge
 ·have ea:l[k]? = some l[k]:=List.getElem?_eq_getElem hlt
  have eg:∀ m,m = l.length - k→(OV.cells es ++ (List.replicate m [.int .i64 0,.int .i64 0,.int .i64 0,.int .i64 0,.bO]).map (List.map Cell.v))[k]? = some ([.int .i64 0,.int .i64 0,.int .i64 0,.int .i64 0,.bO].map .v):=fun m hm=>aD1 hlen (by omega)
  simp -dsimp -implicitDefEqProofs only [go_sem,↓reduceIte,Tryz.f185,ea,aB.aQ]
  refine fun _=>⟨fun _=>⟨hlt,?_⟩,fun hn=>absurd hlt hn⟩
  have hx:=hc l[k] (List.getElem_mem hlt)
  simp only [aB.aQ] at hx
  refine aG.nw1 hx hgn ?_
  rintro r l1 g1 ⟨e0,he0,rfl,rfl⟩ uS w1
  have he1:=he0
  rw [aB.aLM] at he1
  obtain ⟨y_4,rfl,o_4⟩:=he1
  simp -dsimp -implicitDefEqProofs only [go_sem,↓reduceIte,Tryz.f185,eg _ rfl,aO,OV.eE,OV.bT,OV.eV,o_4.flat]
  refine ⟨hlt,(k + 1,es ++ [[.v (.int .i64 l[k].aR),.v (.int .i64 l[k].aW),.v (.int .i64 l[k].cB),.v (.int .i64 l[k].bZ),y_4]],g1),?_⟩
  simp only
  have hf:=aD0 (z:=[.int .i64 0,.int .i64 0,.int .i64 0,.int .i64 0,.bO]) [.v (.int .i64 l[k].aR),.v (.int .i64 l[k].aW),.v (.int .i64 l[k].cB),.v (.int .i64 l[k].bZ),y_4] hlen (m:=l.length - k) (by omega) [Cell.v (.int .i64 l[k].aR),Cell.v (.int .i64 l[k].aW),Cell.v (.int .i64 l[k].cB),Cell.v (.int .i64 l[k].bZ),Cell.v y_4.val] rfl
  rw [hf,show l.length - k - 1 = l.length - (k + 1) by omega]
  refine ⟨by rw [IntWalk.i64_in _ (by omega)];rfl,aA.le_refl _,⟨by omega,?_,?_,w1⟩,by omega⟩
  ·rw [List.take_succ_eq_append_getElem hlt]
   exact OR.append hor ⟨he0,trivial⟩
  ·rw [oG]
   exact hnew.append uS
 ·have hk':k = l.length:=by omega
  subst hk'
  simp -dsimp -implicitDefEqProofs only [go_sem,↓reduceIte,Tryz.f185,Nat.lt_irrefl]
  refine fun _=>⟨_,_,_,aZ _ _,⟨.sl n 5 es,OS.mk (by simpa using hor),by simp [OV.val,hlen,bF],rfl⟩,?_⟩
  rw [OV.cK]
  simpa using hnew.row hgn
theorem aGD (x:aB) (hs:x.s≤1048576) (hk:rN Tryz.prog 185 [(cY 5 aB.c x.aI)] (QS (OS aB.o 5 x.aI))):rN Tryz.prog 211 [.agg x.c] (QA x.o):=by
 rw [aB.oD] at hs
 simp only [aB.aQ]
 refine pI 21 aOA aAO bC mix Tryz.func211 rfl (by kernel_rfl) (by simp) fun h=>?_
 simp -dsimp -implicitDefEqProofs only [go_sem,↓reduceIte,Tryz.f211,aO]
 intro n2 a0 n3 b0
 have e1:(n2 = n3) = False:=eq_false fun e=>b0.1 e.symm
 have e2:(n3 = n2) = False:=eq_false b0.1
 have w0:=g8.nil h
 have hb0:=b0.2
 have hzfKids:(x.aI).length + ((x.aI).map aB.s).sum = (qR aB.s x.aI):=rfl
 refine aG.nw2 hk a0 ⟨b0.1,hb0⟩ ?_
 rintro r l1 g1 ⟨y1,o1,rfl,rfl⟩ w1 a1 jP
 simp -dsimp -implicitDefEqProofs only [go_sem,↓reduceIte,Tryz.f211,aO,cF,e1,e2,OV.eE,OV.bT,OV.eV,o1.flat,o1.one]
 have w1t:=w0.append w1
 refine ⟨_,g1,_,Shift.of (Sub.refl _) ?_,⟨[.v (.int .i64 x.aR),.v (.int .i64 x.aW),.v (.int .i64 x.cB),.v (.int .i64 x.bZ),y1],?_,rfl,rfl⟩,?_⟩
 ·exact nK a1 (nK jP (nK a1 (aA.le_refl _)))
 ·rw [aB.aLM];exact ⟨y1,rfl,o1⟩
 ·simpa only [OV.cO,OV.dV,OV.kE,List.nil_append,List.append_nil,List.append_assoc] using w1t
theorem aLN (x:aB) (hs:x.s≤1048576):rN Tryz.prog 211 [.agg x.c] (QA x.o) :=
 aGD x hs (aG3 x.aI (by rw [aB.oD] at hs;rw [fM] at hs;omega) fun y hy=>aLN y (by rw [aB.oD] at hs;have:=kS aB.s hy;rw [fM] at hs;omega))
termination_by SizeOf.sizeOf x
decreasing_by exact aB.qA hy
theorem aVH (x:aS) (hs:x.s≤1048576):rN Tryz.prog 134 [.agg x.c] (QA x.o):=by
 rw [aS.oD] at hs
 simp only [aS.aQ]
 refine pI 15 aOA aAO bC mix Tryz.func134 rfl (by kernel_rfl) (by simp) fun h=>?_
 simp -dsimp -implicitDefEqProofs only [go_sem,↓reduceIte,Tryz.f134,aO]
 intro n2 a0 n3 b0
 have e1:(n2 = n3) = False:=eq_false fun e=>b0.1 e.symm
 have e2:(n3 = n2) = False:=eq_false b0.1
 have w0:=g8.nil h
 have hb0:=b0.2
 have hzfOuts:(x.aL).length + ((x.aL).map aB.s).sum = (qR aB.s x.aL):=rfl
 refine aG.nw2 (aG3 x.aL (by omega) (fun y hy=>aLN y (by have hq:(aB.s y)≤((x.aL).map aB.s).sum:=kS aB.s hy;omega))) a0 ⟨b0.1,hb0⟩ ?_
 rintro r l1 g1 ⟨y1,o1,rfl,rfl⟩ w1 a1 jP
 simp -dsimp -implicitDefEqProofs only [go_sem,↓reduceIte,Tryz.f134,aO,cF,e1,e2,OV.eE,OV.bT,OV.eV,o1.flat,o1.one]
 have w1t:=w0.append w1
 refine ⟨_,g1,_,Shift.of (Sub.refl _) ?_,⟨[.v (.str x.iA),.v (.int .i64 x.a9),y1],?_,rfl,rfl⟩,?_⟩
 ·exact nK a1 (nK jP (nK a1 (aA.le_refl _)))
 ·exact ⟨y1,rfl,o1⟩
 ·simpa only [OV.cO,OV.dV,OV.kE,List.nil_append,List.append_nil,List.append_assoc] using w1t
theorem aS4 (l:List aS) (h1:l.length≤1048576) (hc:∀ x∈l,rN Tryz.prog 134 [(.agg (aS.c x))] (QA x.o)):rN Tryz.prog 55 [(cY 3 aS.c l)] (QS (OS aS.o 3 l)):=by
 refine pI 23 uL bM bC mix Tryz.func55 rfl (by kernel_rfl) (by simp) fun h=>?_
 simp -dsimp -implicitDefEqProofs only [go_sem,↓reduceIte,Tryz.f55]
 refine fun _=>⟨by omega,by omega,by omega,by omega,fun n hn=>?_⟩
 refine bQ (keep:=uL) (ib:=bM) (mk:=bC) mix (by kernel_rfl) (fun x:Nat × List (List OV) × aA=>[(0,(cY 3 aS.c l)),(3,.os n 3 0 l.length),(4,I x.1)]) (fun x=>a7 x.2.2 n (.row 3 (OV.cells x.2.1 ++ (List.replicate (l.length - x.1) [.str [],.int .i64 0,.bO]).map (List.map .v)))) (fun x=>x.1≤l.length∧OR aS.o (l.take x.1) x.2.1∧g8 h (OV.bG x.2.1) x.2.2∧x.2.2 n = none) (fun x=>l.length - x.1) (0,[],h) (by
  exact ⟨by simp [bU,bF],aA.le_refl _,Nat.zero_le _,trivial,g8.nil h,hn⟩) ?_
 rintro ⟨k,es,g⟩ ⟨hk,hor,hnew,hgn⟩
 have hlen:es.length = k:=by have:=hor.length;simp at this;omega
 rcases Nat.lt_or_ge k l.length with hlt | hge
 ·have ea:l[k]? = some l[k]:=List.getElem?_eq_getElem hlt
  have eg:∀ m,m = l.length - k→(OV.cells es ++ (List.replicate m [.str [],.int .i64 0,.bO]).map (List.map Cell.v))[k]? = some ([.str [],.int .i64 0,.bO].map .v):=fun m hm=>aD1 hlen (by omega)
  simp -dsimp -implicitDefEqProofs only [go_sem,↓reduceIte,Tryz.f55,ea,aS.aQ]
  refine fun _=>⟨fun _=>⟨hlt,?_⟩,fun hn=>absurd hlt hn⟩
  have hx:=hc l[k] (List.getElem_mem hlt)
  simp only [aS.aQ] at hx
  refine aG.nw1 hx hgn ?_
  rintro r l1 g1 ⟨e0,he0,rfl,rfl⟩ uS w1
  have he1:=he0
  obtain ⟨y_2,rfl,o_2⟩:=he1
  simp -dsimp -implicitDefEqProofs only [go_sem,↓reduceIte,Tryz.f55,eg _ rfl,aO,OV.eE,OV.bT,OV.eV,o_2.flat]
  refine ⟨hlt,(k + 1,es ++ [[.v (.str l[k].iA),.v (.int .i64 l[k].a9),y_2]],g1),?_⟩
  simp only
  have hf:=aD0 (z:=[.str [],.int .i64 0,.bO]) [.v (.str l[k].iA),.v (.int .i64 l[k].a9),y_2] hlen (m:=l.length - k) (by omega) [Cell.v (.str l[k].iA),Cell.v (.int .i64 l[k].a9),Cell.v y_2.val] rfl
  rw [hf,show l.length - k - 1 = l.length - (k + 1) by omega]
  refine ⟨by rw [IntWalk.i64_in _ (by omega)];rfl,aA.le_refl _,⟨by omega,?_,?_,w1⟩,by omega⟩
  ·rw [List.take_succ_eq_append_getElem hlt]
   exact OR.append hor ⟨he0,trivial⟩
  ·rw [oG]
   exact hnew.append uS
 ·have hk':k = l.length:=by omega
  subst hk'
  simp -dsimp -implicitDefEqProofs only [go_sem,↓reduceIte,Tryz.f55,Nat.lt_irrefl]
  refine fun _=>⟨_,_,_,aZ _ _,⟨.sl n 3 es,OS.mk (by simpa using hor),by simp [OV.val,hlen,bF],rfl⟩,?_⟩
  rw [OV.cK]
  simpa using hnew.row hgn
theorem aLO (x:aE) (hs:x.s≤1048576):rN Tryz.prog 9 [.agg x.c] (QA x.o):=by
 rw [aE.oD] at hs
 simp only [aE.aQ]
 refine pI 9 aOA aAO bC mix Tryz.func9 rfl (by kernel_rfl) (by simp) fun h=>?_
 simp -dsimp -implicitDefEqProofs only [go_sem,↓reduceIte,Tryz.f9,aO]
 intro n2 a0 n3 b0
 have e1:(n2 = n3) = False:=eq_false fun e=>b0.1 e.symm
 have e2:(n3 = n2) = False:=eq_false b0.1
 have w0:=g8.nil h
 have hb0:=b0.2
 have hzfFuncs:(x.aJ).length + ((x.aJ).map aS.s).sum = (qR aS.s x.aJ):=rfl
 refine aG.nw2 (aS4 x.aJ (by omega) (fun y hy=>aVH y (by have hq:(aS.s y)≤((x.aJ).map aS.s).sum:=kS aS.s hy;omega))) a0 ⟨b0.1,hb0⟩ ?_
 rintro r l1 g1 ⟨y1,o1,rfl,rfl⟩ w1 a1 jP
 simp -dsimp -implicitDefEqProofs only [go_sem,↓reduceIte,Tryz.f9,aO,cF,e1,e2,OV.eE,OV.bT,OV.eV,o1.flat,o1.one]
 have w1t:=w0.append w1
 refine ⟨_,g1,_,Shift.of (Sub.refl _) ?_,⟨[y1],?_,rfl,rfl⟩,?_⟩
 ·exact nK a1 (nK jP (nK a1 (aA.le_refl _)))
 ·exact ⟨y1,rfl,o1⟩
 ·simpa only [OV.cO,OV.dV,OV.kE,List.nil_append,List.append_nil,List.append_assoc] using w1t
theorem aOE (l:List Int) (h1:l.length≤1048576):rN Tryz.prog 10 [(cY 1 (fun n=>[I n]) l)] (QS (OS (oP I) 1 l)):=by
 refine pI 22 uL bM bC mix Tryz.func10 rfl (by kernel_rfl) (by simp) fun h=>?_
 simp -dsimp -implicitDefEqProofs only [go_sem,↓reduceIte,Tryz.f10]
 refine fun _=>⟨by omega,by omega,by omega,by omega,fun n hn=>?_⟩
 refine bQ (keep:=uL) (ib:=bM) (mk:=bC) mix (by kernel_rfl) (fun k:Nat=>[(0,(cY 1 (fun n=>[I n]) l)),(3,.os n 1 0 l.length),(4,I k)]) (fun k=>a7 h n (.row 1 (lV (fun n=>[I n]) [.int .i64 0] l k))) (fun k=>k≤l.length) (fun k=>l.length - k) 0 (by simp [bU,bF,aA.le_refl,oT]) ?_
 intro k hk
 rcases Nat.lt_or_ge k l.length with hlt | hge
 ·have ea:l[k]? = some l[k]:=List.getElem?_eq_getElem hlt
  simp -dsimp -implicitDefEqProofs only [go_sem,↓reduceIte,Tryz.f10,ea,lW _ _ _ _ hlt]
  refine fun _=>⟨fun _=>⟨hlt,hlt,k + 1,by rw [IntWalk.i64_in _ (by omega)];rfl,?_,by omega,by omega⟩,fun hn=>absurd hlt hn⟩
  exact yV hlt rfl
 ·have hk':k = l.length:=by omega
  subst hk'
  simp -dsimp -implicitDefEqProofs only [go_sem,↓reduceIte,Tryz.f10,Nat.lt_irrefl]
  rw [p8]
  refine fun _=>⟨_,_,_,aZ _ _,⟨.sl n 1 (l.map fun x=>[.v (I x)]),OS.mk (xJ l),by simp [OV.val,bF],rfl⟩,?_⟩
  rw [OV.cK,fW,eS]
  exact g8.one hn
theorem aLP (l:List (List Int)) (h1:l.length≤1048576) (hc:∀ x∈l,rN Tryz.prog 10 [(cY 1 (fun n=>[I n]) x)] (QS (OS (oP I) 1 x))):rN Tryz.prog 21 [(cY 1 (fun x=>[cY 1 (fun n=>[I n]) x]) l)] (QS (OS (oS (oP I) 1) 1 l)):=by
 refine pI 23 uL bM bC mix Tryz.func21 rfl (by kernel_rfl) (by simp) fun h=>?_
 simp -dsimp -implicitDefEqProofs only [go_sem,↓reduceIte,Tryz.f21]
 refine fun _=>⟨by omega,by omega,by omega,by omega,fun n hn=>?_⟩
 refine bQ (keep:=uL) (ib:=bM) (mk:=bC) mix (by kernel_rfl) (fun x:Nat × List (List OV) × aA=>[(0,(cY 1 (fun x=>[cY 1 (fun n=>[I n]) x]) l)),(3,.os n 1 0 l.length),(4,I x.1)]) (fun x=>a7 x.2.2 n (.row 1 (OV.cells x.2.1 ++ (List.replicate (l.length - x.1) [.bO]).map (List.map .v)))) (fun x=>x.1≤l.length∧OR (oS (oP I) 1) (l.take x.1) x.2.1∧g8 h (OV.bG x.2.1) x.2.2∧x.2.2 n = none) (fun x=>l.length - x.1) (0,[],h) (by
  exact ⟨by simp [bU,bF],aA.le_refl _,Nat.zero_le _,trivial,g8.nil h,hn⟩) ?_
 rintro ⟨k,es,g⟩ ⟨hk,hor,hnew,hgn⟩
 have hlen:es.length = k:=by have:=hor.length;simp at this;omega
 rcases Nat.lt_or_ge k l.length with hlt | hge
 ·have ea:l[k]? = some l[k]:=List.getElem?_eq_getElem hlt
  have eg:∀ m,m = l.length - k→(OV.cells es ++ (List.replicate m [.bO]).map (List.map Cell.v))[k]? = some ([.bO].map .v):=fun m hm=>aD1 hlen (by omega)
  simp -dsimp -implicitDefEqProofs only [go_sem,↓reduceIte,Tryz.f21,ea]
  refine fun _=>⟨fun _=>⟨hlt,?_⟩,fun hn=>absurd hlt hn⟩
  have hx:=hc l[k] (List.getElem_mem hlt)
  refine aG.nw1 hx hgn ?_
  rintro r l1 g1 ⟨y0,o0,rfl,rfl⟩ uS w1
  have he0:(oS (oP I) 1) l[k] [y0]:=⟨y0,rfl,o0⟩
  simp -dsimp -implicitDefEqProofs only [go_sem,↓reduceIte,Tryz.f21,eg _ rfl,aO,o0.flat,o0.one]
  refine ⟨hlt,(k + 1,es ++ [[y0]],g1),?_⟩
  simp only
  have hf:=aD0 (z:=[.bO]) [y0] hlen (m:=l.length - k) (by omega) [Cell.v y0.val] rfl
  rw [hf,show l.length - k - 1 = l.length - (k + 1) by omega]
  refine ⟨by rw [IntWalk.i64_in _ (by omega)];rfl,aA.le_refl _,⟨by omega,?_,?_,w1⟩,by omega⟩
  ·rw [List.take_succ_eq_append_getElem hlt]
   exact OR.append hor ⟨he0,trivial⟩
  ·rw [oG]
   have:=hnew.append uS
   simpa only [OV.cO,OV.dV,List.append_nil] using this
 ·have hk':k = l.length:=by omega
  subst hk'
  simp -dsimp -implicitDefEqProofs only [go_sem,↓reduceIte,Tryz.f21,Nat.lt_irrefl]
  refine fun _=>⟨_,_,_,aZ _ _,⟨.sl n 1 es,OS.mk (by simpa using hor),by simp [OV.val,hlen,bF],rfl⟩,?_⟩
  rw [OV.cK]
  simpa using hnew.row hgn
theorem aIM (l:List Int) (hl:l.length≤1048576):rN Tryz.prog 128 [cY 1 (fun n=>[I n]) l] (QS (OS (oP I) 1 l)):=by
 refine pI 6 aAN aD7 bC mix Tryz.func128 rfl (by kernel_rfl) (by simp) fun h=>?_
 simp -dsimp -implicitDefEqProofs only [go_sem,↓reduceIte,Tryz.f128]
 repeat' (with_reducible first | intro _ | refine And.intro ?_ ?_)
 all_goals try (first | exact aQD (by assumption) | exact aQE (by assumption) | exact s7 (by assumption) | omega)
theorem a2K (n:Int):n.tmod 1000003 = n % 1000003∨n.tmod 1000003 = n % 1000003 - 1000003:=by
 by_cases h:0≤n
 ·exact .inl (Int.tmod_eq_emod_of_nonneg h)
 ·have h1:n.tmod 1000003 = -((-n) % 1000003):=by
   have h2:n = -(-n):=by omega
   rw [h2,Int.neg_tmod,Int.tmod_eq_emod_of_nonneg (by omega),Int.neg_neg]
  rw [h1];omega
theorem gE (n:Int):dI Tryz.prog 181 [I n] (I (n % 1000003)):=by
 refine dJ 7 aAN bM bC mix Tryz.func181 rfl (by kernel_rfl) (by simp) fun h=>?_
 simp -dsimp -implicitDefEqProofs only [go_sem,↓reduceIte,Tryz.f181]
 rcases a2K n with h | h
 all_goals
  rw [h,IntWalk.i64_in _ (by omega),Int.tmod_eq_emod_of_nonneg (by omega)]
  omega
theorem b6 (n:Int):dI Tryz.prog 122 [I n] (I (n % 1000003)):=by
 refine dJ 11 a2C bM bC mix Tryz.func122 rfl (by kernel_rfl) (by simp) fun h=>?_
 simp -dsimp -implicitDefEqProofs only [go_sem,↓reduceIte,Tryz.f122]
 rcases a2K n with h | h
 all_goals
  rw [h]
  refine ⟨fun q=>?_,fun q=>?_⟩
  all_goals first | omega | (rw [IntWalk.i64_in _ (by omega)];omega)
theorem aIN (a b:Int):dI Tryz.prog 180 [I a,I b] (I ((a + b) % 1000003)):=by
 refine dJ 11 aBZ bM bC mix Tryz.func180 rfl (by kernel_rfl) (by simp) fun h=>?_
 simp -dsimp -implicitDefEqProofs only [go_sem,↓reduceIte,Tryz.f180]
 first | refine aG.mk (gE a) ?_ | refine aD.mk (gE a) ?_ | refine aG.a5 (gE a) ?_ | refine aD.mk (aX.cD (gE a)) ?_
 simp -dsimp -implicitDefEqProofs only [go_sem,↓reduceIte,Tryz.f180]
 first | refine aG.mk (gE b) ?_ | refine aD.mk (gE b) ?_ | refine aG.a5 (gE b) ?_ | refine aD.mk (aX.cD (gE b)) ?_
 simp -dsimp -implicitDefEqProofs only [go_sem,↓reduceIte,Tryz.f180]
 rw [IntWalk.i64_in _ (by omega),Int.tmod_eq_emod_of_nonneg (by omega)]
 omega
theorem eW (a b:Int):dI Tryz.prog 105 [I a,I b] (I ((a + b) % 1000003)):=by
 refine dJ 11 aBZ bM bC mix Tryz.func105 rfl (by kernel_rfl) (by simp) fun h=>?_
 simp -dsimp -implicitDefEqProofs only [go_sem,↓reduceIte,Tryz.f105]
 first | refine aG.mk (b6 a) ?_ | refine aD.mk (b6 a) ?_ | refine aG.a5 (b6 a) ?_ | refine aD.mk (aX.cD (b6 a)) ?_
 simp -dsimp -implicitDefEqProofs only [go_sem,↓reduceIte,Tryz.f105]
 first | refine aG.mk (b6 b) ?_ | refine aD.mk (b6 b) ?_ | refine aG.a5 (b6 b) ?_ | refine aD.mk (aX.cD (b6 b)) ?_
 simp -dsimp -implicitDefEqProofs only [go_sem,↓reduceIte,Tryz.f105]
 rw [IntWalk.i64_in _ (by omega),Int.tmod_eq_emod_of_nonneg (by omega)]
 omega
def j8 (a b:List Int):List Int:=List.zipWith (fun x y=>(x + y) % 1000003) a b
theorem aLQ {a b:List Int} (h:b.length = a.length):(j8 a b).length = a.length:=by simp [j8,h]
@[go_sem] def bAP:Marks:=fun id=>match id with | 5=>([13],(.op 0 (.op 1 (.op 2 (.op 3 (.op 4 (.op 5 (.op 6 (.op 7 (.op 8 (.op 9 (.op 10 (.op 11 (.op 12 (.op 13 .nil)))))))))))))),[]) | _=>([],.nil,[])
theorem added (a b:List Int) (hab:b.length = a.length) (hl:a.length≤1048576) (ha:∀ x∈a,0≤x∧x < 1000003) (hb:∀ x∈b,0≤x∧x < 1000003):rN Tryz.prog 60 [cY 1 (fun n=>[I n]) a,cY 1 (fun n=>[I n]) b] (QS (OS (oP I) 1 (j8 a b))):=by
 refine pI 30 aQJ bM bAP mix Tryz.func60 rfl (by kernel_rfl) (by simp) fun h=>?_
 simp -dsimp -implicitDefEqProofs only [go_sem,↓reduceIte,Tryz.f60]
 intro _
 refine ⟨Nat.zero_lt_one,Nat.le_refl _,by omega,by omega,fun n hn _=>?_⟩
 have hc:=aLQ hab
 rw [s9]
 refine wA (keep:=aQJ) (ib:=bM) (mk:=bAP) mix (by kernel_rfl) (fun k:Nat=>[(0,cY 1 (fun n=>[I n]) a),(1,cY 1 (fun n=>[I n]) b),(5,.os n 1 0 a.length),(11,I a.length),(12,I k)]) n (fun k=>.row 1 (((xN (j8 a b) k).map fun n=>[I n]).map (List.map .v))) (fun k=>k≤a.length) (fun k=>a.length - k) 0 ⟨by simp [bU,bF],by rw [aH,yU,hc],Nat.zero_le _⟩ ?_
 intro k hk
 rcases Nat.lt_or_ge k a.length with hlt | hge
 ·have ea:a[k]? = some a[k]:=List.getElem?_eq_getElem hlt
  have eb:b[k]? = some b[k]:=List.getElem?_eq_getElem (by omega)
  have eu:=aCD (c:=j8 a b) (k:=k) (by omega)
  have el:=aCC (j8 a b) (k:=k) (by omega)
  simp -dsimp -implicitDefEqProofs only [go_sem,↓reduceIte,Tryz.f60,aO,hlt,ea,eb,eu,el,hc]
  have h1:=ha _ (List.getElem_mem hlt)
  have h2:=hb b[k] (List.getElem_mem (by omega))
  refine ⟨by omega,k + 1,by rw [IntWalk.i64_in _ (by omega)];rfl,?_,by omega,by omega⟩
  have hv:(j8 a b)[k]'(by omega) = (a[k] + b[k]) % 1000003:=by simp [j8]
  rw [IntWalk.i64_in _ (by omega),Int.tmod_eq_emod_of_nonneg (by omega),← aCE (by omega),hv,← nL I]
  exact aA.le_refl _
 ·have hk':k = a.length:=by omega
  subst hk'
  simp -dsimp -implicitDefEqProofs only [go_sem,↓reduceIte,Tryz.f60,aO,Nat.lt_irrefl]
  have hu:xN (j8 a b) a.length = j8 a b:=by rw [← hc];exact aCB _
  rw [hu,show a.length = (j8 a b).length from hc.symm]
  exact s7 hn
def bD (n:Nat) (s:List Int):Prop:=s.length = n∧hH s
def gS (a:List Int) (n:Int):List Int:=a.map fun x=>x * n % 1000003
def jQ (a b:List Int):List Int:=j8 a (gS b 1000002)
def wR (a b:List Int) (k:Nat):Nat→Int
 |0=>0
 |i + 1=>(wR a b k i + a.getD i 0 * b.getD (k - i) 0) % 1000003
def mulL (a b:List Int):List Int:=(List.range a.length).map fun k=>wR a b k (k + 1)
def pwN (b:Int) (n:Nat):Int:=b ^ n % 1000003
def gG (x:Int):Int:=pwN (x % 1000003) 1000001
def dvS (o b:List Int) (k:Nat) (r:Int):Nat→Int
 |0=>r
 |i + 1=>(dvS o b k r i - o.getD i 0 * b.getD (k - i) 0) % 1000003
def iW (a b:List Int):Nat→List Int
 |0=>[]
 |k + 1=>iW a b k ++ [dvS (iW a b k) b k (a.getD k 0) k * gG (b.getD 0 0) % 1000003]
def gH (a b:List Int):List Int:=iW a b a.length
def bJ (n:Int) (sz:Nat):List Int:=(List.replicate sz 0).set 0 n
def dE:aB:=.mk 0 0 0 0 []
def aB.mC (e:aB) (i:Nat):aB:=e.aI.getD i dE
def aE.outs (p:aE) (f:Int):List aB:=((p.aJ[f.toNat]?).map (·.aL)).getD []
def aE.out (p:aE) (f i:Int):aB:=(p.outs f).getD i.toNat dE
abbrev Out (α:Type):=Except Int (α × Nat)
def Out.andThen {α β:Type} (x:Out α) (f:α→Nat→Out β):Out β:=match x with
 | .ok (a,t)=>f a t
 | .error c=>.error c
def lP (ev:Nat→aB→Out (List Int)):List aB→Nat→Out (List (List Int))
 | [],t=>.ok ([],t)
 |e :: l,t=>(ev t e).andThen fun v t=>(lP ev l t).andThen fun vs t=>.ok (v :: vs,t)
def qE (f:List (List Int)→Nat→Out (List (List Int))):Nat→List (List Int)→Nat→Out (List (List Int))
 |0,vs,t=>.ok (vs,t)
 |n + 1,vs,t=>(f vs t).andThen fun vs t=>qE f n vs t
def opE (k:Int) (vs:List (List Int)) (t:Nat):Out (List Int) :=
 if k = 3 then .ok (j8 (vs.getD 0 []) (vs.getD 1 []),t)
 else if k = 4 then .ok (jQ (vs.getD 0 []) (vs.getD 1 []),t)
 else if k = 5 then .ok (mulL (vs.getD 0 []) (vs.getD 1 []),t)
 else if k = 7 then .ok (gS (vs.getD 0 []) 1000002,t)
 else if (vs.getD 1 []).getD 0 0 = 0 then .error 6
 else .ok (gH (vs.getD 0 []) (vs.getD 1 []),t)
def jD (p:aE) (sz:Nat):Nat→Nat→aB→List (List Int)→Out (List Int)
 |0,_,_,_=>.error 7
 |n + 1,t,e,env =>
  if t = 3000 then .error 7
  else if e.aR = 1 then .ok (bJ e.aW sz,t + 1)
  else if e.aR = 2 then .ok (env.getD e.aW.toNat [],t + 1)
  else if e.aR = 8 then (jD p sz n (t + 1) (e.mC 0) env).andThen fun c t=>if c.getD 0 0 = 0 then jD p sz n t (e.mC 1) env else jD p sz n t (e.mC 2) env
  else if e.aR = 9 then (jD p sz n (t + 1) (e.mC 0) env).andThen fun v t=>jD p sz n t (e.mC 1) (env ++ [v])
  else (lP (fun t e=>jD p sz n t e env) e.aI (t + 1)).andThen fun vs t =>
   if e.aR = 10 then jD p sz n t (p.out e.aW e.cB) vs
   else if e.aR = 11 then (qE (fun vs t=>lP (fun t e=>jD p sz n t e vs) (p.outs e.aW) t) e.bZ.toNat vs t).andThen fun vs t=>.ok (vs.getD e.cB.toNat [],t)
   else opE e.aR vs t
def j9 {α:Type} (X:Out α) (v:α) (t:Nat) (c:Int):Prop:=match X with
 | .ok (w,u)=>c = 0∧v = w∧t = u
 | .error d=>c = d∧d≠0
def oE {α:Type} (c:Int) (X:Out α):Out α:=if c = 0 then X else .error c
theorem eK {α:Type} (X:Out α):oE 0 X = X:=if_pos rfl
theorem kA {α:Type} {c:Int} (X:Out α) (h:¬ c = 0):oE c X = .error c:=if_neg h
theorem gT {α:Type} {c:Int} (v:α) (t:Nat) (h:¬ c = 0):j9 (.error c:Out α) v t c:=⟨rfl,h⟩
theorem pK {α:Type} (v:α) (t:Nat):j9 (.ok (v,t):Out α) v t 0:=⟨rfl,rfl,rfl⟩
theorem gX {α:Type} (v:α) (t:Nat) (c:Int):j9 (oE c (.ok (v,t))) v t c:=by
 by_cases e:c = 0
 ·subst e;rw [eK];exact pK v t
 ·rw [kA _ e];exact gT v t e
theorem j9.then {α β:Type} {X:Out α} {F:α→Nat→Out β} {v:α} {t:Nat} {c:Int} {v2:β} {t2:Nat} {c2:Int} (h:j9 X v t c) (h2:j9 (oE c (F v t)) v2 t2 c2):j9 (X.andThen F) v2 t2 c2:=by
 cases X with
 |ok p =>
  obtain ⟨w,u⟩:=p
  obtain ⟨rfl,rfl,rfl⟩:=h
  rw [eK] at h2
  exact h2
 |error d =>
  obtain ⟨rfl,h⟩:=h
  rw [kA _ h] at h2
  exact h2
theorem j9.err {α:Type} {X:Out α} {v:α} {t:Nat} {c:Int} (h:j9 X v t c) (hc:¬ c = 0):X = .error c:=by
 cases X with
 |ok p=>exact absurd h.1 hc
 |error d=>rw [h.1]
theorem j9.eY {α β:Type} {c0:Int} {X:Out α} {F:α→Nat→Out β} {v:α} {t:Nat} {c:Int} {v2:β} {t2:Nat} {c2:Int} (h:j9 (oE c0 X) v t c) (h2:j9 (oE c (F v t)) v2 t2 c2):j9 (oE c0 (X.andThen F)) v2 t2 c2:=by
 by_cases e:c0 = 0
 ·subst e
  rw [eK] at h ⊢
  exact h.then h2
 ·rw [kA _ e] at h ⊢
  obtain ⟨rfl,h⟩:=h
  rw [kA _ h] at h2
  exact h2
theorem j9.bAQ {α:Type} {c0:Int} {X:Out α} {v:α} {t:Nat} {c:Int} (h:j9 (oE c0 X) v t c) (hc:c = 0):c0 = 0:=by
 by_cases e:c0 = 0
 ·exact e
 ·rw [kA _ e] at h
  exact h.1.symm.trans hc
theorem Out.jY {α β γ:Type} (x:Out α) (f:α→Nat→Out β) (g:β→Nat→Out γ):(x.andThen f).andThen g = x.andThen fun a t=>(f a t).andThen g:=by
 cases x <;> rfl
theorem Out.andThen_ok {α β:Type} (a:α) (t:Nat) (f:α→Nat→Out β):Out.andThen (.ok (a,t)) f = f a t:=rfl
theorem wC (ev:Nat→aB→Out (List Int)) (e:aB):∀ (l:List aB) (t:Nat),lP ev (l ++ [e]) t = (lP ev l t).andThen fun vs t=>(ev t e).andThen fun v t=>.ok (vs ++ [v],t)
 | [],t=>rfl
 |x :: l,t=>by
  simp only [List.cons_append,lP,wC ev e l,Out.jY,Out.andThen_ok]
theorem aEH (f:List (List Int)→Nat→Out (List (List Int))):∀ (n:Nat) (vs:List (List Int)) (t:Nat),qE f (n + 1) vs t = (qE f n vs t).andThen f
 |0,vs,t=>by
  show (f vs t).andThen (fun vs t=>.ok (vs,t)) = f vs t
  cases f vs t with
  |ok p=>rfl
  |error c=>rfl
 |n + 1,vs,t=>by
  show (f vs t).andThen (fun vs t=>qE f (n + 1) vs t) = ((f vs t).andThen fun vs t=>qE f n vs t).andThen f
  rw [Out.jY]
  congr 1
  funext a t
  exact aEH f n a t
theorem c7 (n:Int):fP (n % 1000003):=by unfold fP;omega
theorem bD.len {n:Nat} {s:List Int} (h:bD n s):s.length = n:=h.1
theorem m4 {n:Nat} {a b:List Int} (ha:bD n a) (hb:bD n b):bD n (j8 a b):=by
 refine ⟨by simp [j8,ha.1,hb.1],fun x hx=>?_⟩
 obtain ⟨i,hi,rfl⟩:=List.mem_iff_getElem.1 hx
 simp only [j8,List.getElem_zipWith]
 exact c7 _
theorem fO {n:Nat} {a:List Int} (k:Int) (ha:bD n a):bD n (gS a k):=by
 refine ⟨by simp [gS,ha.1],fun x hx=>?_⟩
 obtain ⟨y,_,rfl⟩:=List.mem_map.1 hx
 exact c7 _
theorem lB {n:Nat} {a b:List Int} (ha:bD n a) (hb:bD n b):bD n (jQ a b):=m4 ha (fO _ hb)
theorem aVI (a b:List Int) (k:Nat):∀ i,fP (wR a b k i)
 |0=>by unfold wR fP;omega
 |i + 1=>c7 _
theorem cE {n:Nat} {a:List Int} (b:List Int) (ha:bD n a):bD n (mulL a b):=by
 refine ⟨by simp [mulL,ha.1],fun x hx=>?_⟩
 obtain ⟨k,_,rfl⟩:=List.mem_map.1 hx
 exact aVI _ _ _ _
theorem mG (a b:List Int):∀ k,(iW a b k).length = k
 |0=>rfl
 |k + 1=>by rw [iW,List.length_append,mG a b k];rfl
theorem qF (a b:List Int):∀ k,hH (iW a b k)
 |0=>fun x hx=>by cases hx
 |k + 1=>fun x hx=>by
  rw [iW,List.mem_append,List.mem_singleton] at hx
  rcases hx with hx | rfl
  ·exact qF a b k x hx
  ·exact c7 _
theorem lC {n:Nat} {a:List Int} (b:List Int) (ha:bD n a):bD n (gH a b):=⟨by rw [gH,mG,ha.1],qF _ _ _⟩
theorem gN {n:Int} {sz:Nat} (h:fP n):bD sz (bJ n sz):=by
 refine ⟨by simp [bJ],fun x hx=>?_⟩
 rw [bJ] at hx
 rcases List.mem_or_eq_of_mem_set hx with hx | rfl
 ·have:=(List.mem_replicate.1 hx).2
  subst this;unfold fP;omega
 ·exact h
theorem hH.get {l:List Int} (h:hH l) (i:Nat):fP (l.getD i 0):=by
 rw [List.getD_eq_getElem?_getD]
 rcases Nat.lt_or_ge i l.length with hi | hi
 ·rw [List.getElem?_eq_getElem hi];exact h _ (List.getElem_mem hi)
 ·rw [List.getElem?_eq_none hi];unfold fP;simp
def hR (s s':List Int):Prop:=(s = []∧s' = [])∨∃ x a b,s = x :: a∧s' = x :: b
theorem a4S:hR [] []:=.inl ⟨rfl,rfl⟩
theorem hR.hd {s s':List Int} (h:hR s s'):s.getD 0 0 = s'.getD 0 0:=by
 rcases h with ⟨rfl,rfl⟩ | ⟨x,a,b,rfl,rfl⟩ <;> rfl
theorem aVJ {a a' b b':List Int} (ha:hR a a') (hb:hR b b'):hR (j8 a b) (j8 a' b'):=by
 rcases ha with ⟨rfl,rfl⟩ | ⟨x,a,a',rfl,rfl⟩
 ·exact .inl ⟨rfl,rfl⟩
 ·rcases hb with ⟨rfl,rfl⟩ | ⟨y,b,b',rfl,rfl⟩
  ·exact .inl ⟨rfl,rfl⟩
  ·exact .inr ⟨_,_,_,rfl,rfl⟩
theorem aVK {a a':List Int} (n:Int) (ha:hR a a'):hR (gS a n) (gS a' n):=by
 rcases ha with ⟨rfl,rfl⟩ | ⟨x,a,a',rfl,rfl⟩
 ·exact .inl ⟨rfl,rfl⟩
 ·exact .inr ⟨_,_,_,rfl,rfl⟩
theorem a4T {a a' b b':List Int} (ha:hR a a') (hb:hR b b'):hR (jQ a b) (jQ a' b'):=aVJ ha (aVK _ hb)
theorem aAQ (x:Int) (a b:List Int):∃ t,mulL (x :: a) b = (x * b.getD 0 0) % 1000003 :: t:=by
 refine ⟨((List.range a.length).map Nat.succ).map fun k=>wR (x :: a) b k (k + 1),?_⟩
 rw [mulL,List.length_cons,List.range_succ_eq_map,List.map_cons]
 congr 1
 simp [wR]
theorem a4U {a a' b b':List Int} (ha:hR a a') (hb:hR b b'):hR (mulL a b) (mulL a' b'):=by
 rcases ha with ⟨rfl,rfl⟩ | ⟨x,a,a',rfl,rfl⟩
 ·exact .inl ⟨rfl,rfl⟩
 ·obtain ⟨t,h⟩:=aAQ x a b
  obtain ⟨t',h'⟩:=aAQ x a' b'
  rw [h,h',hb.hd]
  exact .inr ⟨_,_,_,rfl,rfl⟩
theorem wD (x:Int) (a b:List Int):∀ k,∃ t,iW (x :: a) b (k + 1) = x * gG (b.getD 0 0) % 1000003 :: t
 |0=>⟨[],rfl⟩
 |k + 1=>by
  obtain ⟨t,h⟩:=wD x a b k
  rw [iW,h]
  exact ⟨_,rfl⟩
theorem a4V {a a' b b':List Int} (ha:hR a a') (hb:hR b b'):hR (gH a b) (gH a' b'):=by
 rcases ha with ⟨rfl,rfl⟩ | ⟨x,a,a',rfl,rfl⟩
 ·exact .inl ⟨rfl,rfl⟩
 ·obtain ⟨t,h⟩:=wD x a b a.length
  obtain ⟨t',h'⟩:=wD x a' b' a'.length
  rw [gH,gH,List.length_cons,List.length_cons,h,h',hb.hd]
  exact .inr ⟨_,_,_,rfl,rfl⟩
theorem aVL (n:Int) (sz sz':Nat):hR (bJ n (sz + 1)) (bJ n (sz' + 1)):=by
 rw [bJ,bJ,List.replicate_succ,List.replicate_succ]
 exact .inr ⟨_,_,_,rfl,rfl⟩
def eR:List (List Int)→List (List Int)→Prop
 | [],[]=>True
 |s :: l,s' :: l'=>hR s s'∧eR l l'
 | _,_=>False
theorem eR.get:∀ {l l':List (List Int)},eR l l'→∀ i,hR (l.getD i []) (l'.getD i [])
 | [],[],_,i=>by simp [a4S]
 |s :: l,s' :: l',h,0=>h.1
 |s :: l,s' :: l',h,i + 1=>by simpa using eR.get h.2 i
 | [],_ :: _,h,_=>h.elim
 | _ :: _,[],h,_=>h.elim
theorem eR.len:∀ {l l':List (List Int)},eR l l'→l.length = l'.length
 | [],[],_=>rfl
 |s :: l,s' :: l',h=>by simp [eR.len h.2]
 | [],_ :: _,h=>h.elim
 | _ :: _,[],h=>h.elim
theorem eR.snoc {s s':List Int} (h:hR s s'):∀ {l l':List (List Int)},eR l l'→eR (l ++ [s]) (l' ++ [s'])
 | [],[],_=>⟨h,trivial⟩
 |x :: l,x' :: l',k=>⟨k.1,eR.snoc h k.2⟩
 | [],_ :: _,k=>k.elim
 | _ :: _,[],k=>k.elim
def oR {α:Type} (R:α→α→Prop) (X Y:Out α):Prop:=match X,Y with
 | .ok (v,t),.ok (v',t')=>R v v'∧t = t'
 | .error c,.error c'=>c = c'
 | _,_=>False
theorem oR.bind {α β:Type} {R:α→α→Prop} {S:β→β→Prop} {X Y:Out α} {F G:α→Nat→Out β} (h:oR R X Y) (hf:∀ v v' t,R v v'→oR S (F v t) (G v' t)):oR S (X.andThen F) (Y.andThen G):=by
 cases X with
 |ok p =>
  cases Y with
  |ok q =>
   obtain ⟨v,t⟩:=p
   obtain ⟨v',t'⟩:=q
   obtain ⟨h1,rfl⟩:=h
   exact hf _ _ _ h1
  |error c=>exact h.elim
 |error c =>
  cases Y with
  |ok q=>exact h.elim
  |error d=>exact h
theorem oR.pure {α:Type} {R:α→α→Prop} {v v':α} {t:Nat} (h:R v v'):oR R (.ok (v,t)) (.ok (v',t)):=⟨h,rfl⟩
theorem wE {ev ev':Nat→aB→Out (List Int)} (h:∀ t e,oR hR (ev t e) (ev' t e)):∀ (l:List aB) (t:Nat),oR eR (lP ev l t) (lP ev' l t)
 | [],t=>⟨trivial,rfl⟩
 |e :: l,t=>(h t e).bind fun v v' t hv=>(wE h l t).bind fun vs vs' t hvs=>oR.pure ⟨hv,hvs⟩
theorem aEI {f g:List (List Int)→Nat→Out (List (List Int))} (h:∀ vs vs' t,eR vs vs'→oR eR (f vs t) (g vs' t)):∀ (n:Nat) (vs vs':List (List Int)) (t:Nat),eR vs vs'→oR eR (qE f n vs t) (qE g n vs' t)
 |0,vs,vs',t,hv=>⟨hv,rfl⟩
 |n + 1,vs,vs',t,hv=>(h vs vs' t hv).bind fun a a' t ha=>aEI h n a a' t ha
theorem aVM (k:Int) {vs vs':List (List Int)} (t:Nat) (h:eR vs vs'):oR hR (opE k vs t) (opE k vs' t):=by
 have h0:=h.get 0
 have h1:=h.get 1
 unfold opE
 split
 ·exact oR.pure (aVJ h0 h1)
 split
 ·exact oR.pure (a4T h0 h1)
 split
 ·exact oR.pure (a4U h0 h1)
 split
 ·exact oR.pure (aVK _ h0)
 rw [h1.hd]
 split
 ·exact rfl
 ·exact oR.pure (a4V h0 h1)
theorem aLS (p:aE) (sz sz':Nat):∀ (n t:Nat) (e:aB) (env env':List (List Int)),eR env env'→oR hR (jD p (sz + 1) n t e env) (jD p (sz' + 1) n t e env')
 |0,t,e,env,env',h=>rfl
 |n + 1,t,e,env,env',h=>by
  have ih:=aLS p sz sz' n
  rw [jD,jD]
  split
  ·exact rfl
  split
  ·exact oR.pure (aVL _ _ _)
  split
  ·exact oR.pure (h.get _)
  split
  ·refine (ih _ _ _ _ h).bind fun c c' t hc=>?_
   rw [hc.hd]
   split
   ·exact ih _ _ _ _ h
   ·exact ih _ _ _ _ h
  split
  ·exact (ih _ _ _ _ h).bind fun v v' t hv=>ih _ _ _ _ (eR.snoc hv h)
  refine (wE (fun t e=>ih t e _ _ h) _ _).bind fun vs vs' t hv=>?_
  split
  ·exact ih _ _ _ _ hv
  split
  ·refine (aEI (f:=fun vs t=>lP (fun t e=>jD p (sz + 1) n t e vs) (p.outs e.aW) t) (g:=fun vs t=>lP (fun t e=>jD p (sz' + 1) n t e vs) (p.outs e.aW) t) (fun a a' u ha=>wE (fun u x=>ih u x a a' ha) (p.outs e.aW) u) e.bZ.toNat vs vs' t hv).bind fun a a' u ha=>?_
   exact oR.pure (ha.get _)
  ·exact aVM _ _ hv
def evF (p:aE) (sz:Nat) (f:Int) (args:List (List Int)):Out (List (List Int)):=lP (fun t e=>jD p sz 3001 t e args) (p.outs f) 0
theorem aVN (p:aE) (sz sz':Nat) (f:Int) (args args':List (List Int)) (h:eR args args'):oR eR (evF p (sz + 1) f args) (evF p (sz' + 1) f args') :=
 wE (fun t e=>aLS p sz sz' _ t e _ _ h) _ _
theorem aVO (b:Int):∀ n:Nat,(b % 1000003) ^ n % 1000003 = b ^ n % 1000003
 |0=>by rw [Int.pow_zero,Int.pow_zero]
 |n + 1=>by
  rw [Int.pow_succ,Int.pow_succ,Int.mul_emod,aVO b n,Int.emod_emod_of_dvd _ (Int.dvd_refl _),← Int.mul_emod]
theorem aQ0 (x b:Int) (n:Nat):x * b ^ n % 1000003 = (if n % 2 = 1 then x * b % 1000003 else x) * (b * b % 1000003) ^ (n / 2) % 1000003:=by
 have h2:b ^ n = (b * b) ^ (n / 2) * b ^ (n % 2):=by
  rw [show b * b = b ^ 2 by rw [Int.pow_succ,Int.pow_succ,Int.pow_zero,Int.one_mul],← Int.pow_mul,← Int.pow_add]
  congr 1;omega
 have h3:∀ y:Int,y * (b * b % 1000003) ^ (n / 2) % 1000003 = y * (b * b) ^ (n / 2) % 1000003:=fun y=>by
  rw [Int.mul_emod,aVO,← Int.mul_emod]
 rw [h3,h2]
 split
 ·rename_i h
  rw [h,Int.pow_succ,Int.pow_zero,Int.one_mul,Int.mul_emod (x * b % 1000003),Int.emod_emod_of_dvd _ (Int.dvd_refl _),← Int.mul_emod]
  congr 1
  rw [Int.mul_comm ((b * b) ^ (n / 2)) b,Int.mul_assoc]
 ·rename_i h
  have:n % 2 = 0:=by omega
  rw [this,Int.pow_zero,Int.mul_one]
theorem aQ1 (x b:Int) (hx:0≤x∧x < 1000003):x * b ^ 0 % 1000003 = x:=by
 rw [Int.pow_zero,Int.mul_one];omega
theorem aVP {x b m T:Int} (hm:0≤m) (h:m % 2 = 1) (hp:x * b ^ m.toNat % 1000003 = T):(x * b % 1000003) * (b * b % 1000003) ^ (m / 2).toNat % 1000003 = T:=by
 rw [← hp,aQ0 x b m.toNat,if_pos (by omega),show (m / 2).toNat = m.toNat / 2 by omega]
theorem aQ2 {x b m T:Int} (hm:0≤m) (h:¬ m % 2 = 1) (hp:x * b ^ m.toNat % 1000003 = T):x * (b * b % 1000003) ^ (m / 2).toNat % 1000003 = T:=by
 rw [← hp,aQ0 x b m.toNat,if_neg (by omega),show (m / 2).toNat = m.toNat / 2 by omega]
theorem aLT (y:Int):0≤y % 1000003∧y % 1000003 < 1000003:=by omega
theorem b9 {l:List Int} {i:Nat} (h:i < l.length):l[i]? = some (l.getD i 0):=by
 rw [List.getD_eq_getElem?_getD,List.getElem?_eq_getElem h];rfl
theorem num_inv (x:Int):fP (gG x):=c7 _
theorem tH (o b:List Int) (k:Nat) {r:Int} (hr:fP r):∀ i,fP (dvS o b k r i)
 |0=>hr
 |i + 1=>c7 _
theorem wF (a b:List Int) {k:Nat}:∀ n,k≤n→(iW a b n).take k = iW a b k
 |0,h=>by
  have:k = 0:=by omega
  subst this;rfl
 |n + 1,h=>by
  rcases Nat.lt_or_ge k (n + 1) with h1 | h1
  ·rw [iW,List.take_append_of_le_length (by rw [mG];omega),wF a b n (by omega)]
  ·have:k = n + 1:=by omega
   subst this
   rw [List.take_of_length_le (by rw [mG];omega)]
theorem oW (a b:List Int):(gH a b).length = a.length:=mG _ _ _
theorem aZH (a b:List Int) {k:Nat} (hk:k≤a.length):xN (gH a b) k = iW a b k ++ List.replicate (a.length - k) 0:=by
 rw [xN,oW,gH,wF a b _ hk]
theorem aBT {a b:List Int} {k i:Nat} (hk:k≤a.length) (hi:i < k):(xN (gH a b) k)[i]? = some ((iW a b k).getD i 0):=by
 rw [aZH a b hk,List.getElem?_append_left (by rw [mG];exact hi)]
 exact b9 (by rw [mG];exact hi)
theorem y5 {a b:List Int} {k:Nat} (hk:k < a.length):(gH a b)[k]'(by rw [oW];exact hk) = dvS (iW a b k) b k (a.getD k 0) k * gG (b.getD 0 0) % 1000003:=by
 have h:=aBT (a:=a) (b:=b) (k:=k + 1) (i:=k) (by omega) (by omega)
 have h2:(iW a b (k + 1)).getD k 0 = dvS (iW a b k) b k (a.getD k 0) k * gG (b.getD 0 0) % 1000003:=by
  rw [iW,List.getD_eq_getElem?_getD,List.getElem?_append_right (by rw [mG];omega),mG,Nat.sub_self];rfl
 rw [h2,xN,List.getElem?_append_left (by rw [List.length_take,oW];omega),List.getElem?_take_of_lt (by omega),List.getElem?_eq_getElem (by rw [oW];exact hk)] at h
 exact Option.some.inj h
theorem num_mul {x y:Int} (hx:fP x) (hy:fP y):0≤x * y∧x * y≤1000004000004:=by
 refine ⟨Int.mul_nonneg hx.1 hy.1,?_⟩
 have:=Int.mul_le_mul hx.2 hy.2 hy.1 (by omega)
 omega
theorem oX (a:List Int) (n:Int):(gS a n).length = a.length:=by simp [gS]
theorem aLU (a b:List Int):(mulL a b).length = a.length:=by simp [mulL]
theorem rE {l:List Int} (h:hH l):∀ x∈l,0≤x∧x < 1000003:=fun x hx=>by have:=h x hx;unfold fP at this;omega
theorem aOF {n:Int} (h0:0≤n) (h1:n≤9223372036854775807):(IntKind.i64.wrap n).tmod 1000003 = n % 1000003:=by
 rw [IntWalk.i64_in _ (by omega),Int.tmod_eq_emod_of_nonneg h0]
theorem aVQ {c:List Int} {k:Nat} (hk:k < c.length):(xN c k).set k 0 = xN c k:=by
 have h:=aCD hk
 apply List.ext_getElem?
 intro i
 rw [List.getElem?_set]
 split
 ·subst_vars
  split
  ·exact h.symm
  ·rename_i h2
   rw [List.getElem?_eq_none (by omega)]
 ·rfl
theorem aVR {p:aE} {sz n st:Nat} {e:aB} {env:List (List Int)} (h3:¬ st = 3000) (hk:e.aR = 1):jD p sz (n + 1) st e env = .ok (bJ e.aW sz,st + 1):=by rw [jD,if_neg h3,if_pos hk]
theorem aVS {p:aE} {sz n st:Nat} {e:aB} {env:List (List Int)} (h3:¬ st = 3000) (hk:e.aR = 2):jD p sz (n + 1) st e env = .ok (env.getD e.aW.toNat [],st + 1):=by rw [jD,if_neg h3,if_neg (by omega),if_pos hk]
theorem aQ3 {p:aE} {sz n st:Nat} {e:aB} {env:List (List Int)} (h3:¬ st = 3000) (hk:e.aR = 8):jD p sz (n + 1) st e env = (jD p sz n (st + 1) (e.mC 0) env).andThen fun c t=>if c.getD 0 0 = 0 then jD p sz n t (e.mC 1) env else jD p sz n t (e.mC 2) env:=by rw [jD,if_neg h3,if_neg (by omega),if_neg (by omega),if_pos hk]
theorem aVT {p:aE} {sz n st:Nat} {e:aB} {env:List (List Int)} (h3:¬ st = 3000) (hk:e.aR = 9):jD p sz (n + 1) st e env = (jD p sz n (st + 1) (e.mC 0) env).andThen fun v t=>jD p sz n t (e.mC 1) (env ++ [v]):=by rw [jD,if_neg h3,if_neg (by omega),if_neg (by omega),if_neg (by omega),if_pos hk]
theorem aOG {p:aE} {sz n st:Nat} {e:aB} {env:List (List Int)} (h3:¬ st = 3000) (hk:e.aR = 10):jD p sz (n + 1) st e env = (lP (fun t e=>jD p sz n t e env) e.aI (st + 1)).andThen fun vs t=>jD p sz n t (p.out e.aW e.cB) vs:=by
 rw [jD,if_neg h3,if_neg (by omega),if_neg (by omega),if_neg (by omega),if_neg (by omega)];simp only [if_pos hk]
theorem aOH {p:aE} {sz n st:Nat} {e:aB} {env:List (List Int)} (h3:¬ st = 3000) (hk:e.aR = 11):jD p sz (n + 1) st e env = (lP (fun t e=>jD p sz n t e env) e.aI (st + 1)).andThen fun vs t=>(qE (fun vs t=>lP (fun t e=>jD p sz n t e vs) (p.outs e.aW) t) e.bZ.toNat vs t).andThen fun vs t=>.ok (vs.getD e.cB.toNat [],t):=by
 have h:¬ e.aR = 10:=by omega
 rw [jD,if_neg h3,if_neg (by omega),if_neg (by omega),if_neg (by omega),if_neg (by omega)];simp only [if_neg h,if_pos hk]
theorem aIO {p:aE} {sz n st:Nat} {e:aB} {env:List (List Int)} (h3:¬ st = 3000) (hk:e.aR = 3∨e.aR = 4∨e.aR = 5∨e.aR = 6∨e.aR = 7):jD p sz (n + 1) st e env = (lP (fun t e=>jD p sz n t e env) e.aI (st + 1)).andThen fun vs t=>opE e.aR vs t:=by
 have h:¬ e.aR = 10:=by omega
 have h2:¬ e.aR = 11:=by omega
 rw [jD,if_neg h3,if_neg (by omega),if_neg (by omega),if_neg (by omega),if_neg (by omega)];simp only [if_neg h,if_neg h2]
theorem aB.gR {e:aB} {i:Nat} (h:i < e.aI.length):e.aI[i]? = some (e.mC i):=by
 rw [aB.mC,List.getD_eq_getElem?_getD,List.getElem?_eq_getElem h];rfl
theorem aB.qG {e:aB} {i:Nat} (h:i < e.aI.length):e.mC i = e.aI[i]:=by
 have:=aB.gR h
 rw [List.getElem?_eq_getElem h] at this
 exact (Option.some.inj this).symm
theorem aB.fD {p:aE} {funcs vars:Int} {e:aB} {i:Nat} (hok:e.ok p funcs vars) (h:i < e.aI.length):(e.mC i).ok p funcs (kG e.aR i vars):=by
 rw [aB.qG h];exact ((aB.cZ _ _ _ _).1 hok).2 i h
theorem aB.ld5 (x:aB):(if 5≤x.c.length then some (aC.agg (List.take 5 x.c)) else none) = some (.agg x.c):=by
 rw [if_pos (by rw [aB.aQP];exact Nat.le_refl _),List.take_of_length_le (by rw [aB.aQP];exact Nat.le_refl _)]
theorem iC {k:Int} {i:Nat} {v:Int} (h:¬ (k = 9∧i = 1)):kG k i v = v:=if_neg h
theorem wG {sz:Nat} {env:List (List Int)} (h:∀ s∈env,bD sz s) {i:Nat} (hi:i < env.length):bD sz (env.getD i []):=by
 rw [List.getD_eq_getElem?_getD,List.getElem?_eq_getElem hi];exact h _ (List.getElem_mem hi)
theorem lN {env:List (List Int)} {i:Nat} (hi:i < env.length):env[i]? = some (env.getD i []):=by
 rw [List.getD_eq_getElem?_getD,List.getElem?_eq_getElem hi];rfl
theorem dC {p:aE} {funcs vars:Int} {e:aB} (hok:e.ok p funcs vars) (hk:¬ (e.aR = 10∨e.aR = 11)):fG e.aR = e.aI.length:=((eO hk).1 ((aB.cZ _ _ _ _).1 hok).1).1
theorem eQ {p:aE} {funcs vars:Int} {e:aB} (hok:e.ok p funcs vars) (hk:¬ e.aR = 9):∀ x∈e.aI,x.ok p funcs vars:=fun x hx=>by
 obtain ⟨i,hi,rfl⟩:=List.mem_iff_getElem.1 hx
 have:=((aB.cZ _ _ _ _).1 hok).2 i hi
 rwa [iC (fun q=>hk q.1)] at this
structure bAS (p:aE) (e:aB) (f:aS):Prop where
 get:p.aJ[e.aW.toNat]? = some f
 lo:0≤e.aW
 hi:e.aW < p.aJ.length
 pk:0≤e.cB
 pk2:e.cB.toNat < f.aL.length
 kids:(e.aI.length:Int) = f.a9
 params:0≤f.a9∧f.a9≤12
 outs:1≤f.aL.length∧f.aL.length≤12
 oks:∀ x∈f.aL,x.ok p e.aW f.a9
 eq:p.outs e.aW = f.aL
 out:f.aL[e.cB.toNat]? = some (p.out e.aW e.cB)
 loop:e.aR = 11→0≤e.bZ∧e.bZ≤8∧(f.aL.length:Int) = f.a9
theorem nM {p:aE} (hp:p.ok) {e:aB} {funcs vars:Int} (hok:e.ok p funcs vars) (hf:funcs≤p.aJ.length) (hk:e.aR = 10∨e.aR = 11):∃ f,bAS p e f:=by
 have h1:=((aB.cZ _ _ _ _).1 hok).1
 have h2:=h1
 unfold mR at h1
 rw [if_pos hk] at h1
 have hlt:e.aW.toNat < p.aJ.length:=by omega
 have ef:p.aJ[e.aW.toNat]? = some p.aJ[e.aW.toNat]:=List.getElem?_eq_getElem hlt
 rw [oV hk ef] at h2
 obtain ⟨n1,n2,n3,n4,n5,n6,n7⟩:=h2
 have hF:=hp.2 _ _ ef
 have heq:p.outs e.aW = p.aJ[e.aW.toNat].aL:=by rw [aE.outs,ef];rfl
 refine ⟨_,⟨ef,n1,by omega,n3,by omega,n5,hF.2.1,by have:=hF.2.2.1;omega,fun x hx=>?_,heq,?_,n7⟩⟩
 ·have:=(hF.2.2.2.2.2 x hx).2.2.2.2
  rwa [show ((e.aW.toNat:Nat):Int) = e.aW by omega] at this
 ·rw [aE.out,heq,List.getD_eq_getElem?_getD,List.getElem?_eq_getElem (by omega)];rfl
def aAR {α:Type} (X:Out α):Prop:=∀ c,X = .error c→c = 6∨c = 7
theorem aAR.ok {α:Type} {v:α} {t:Nat}:aAR (.ok (v,t):Out α):=fun c h=>by cases h
theorem aAR.then {α β:Type} {X:Out α} {F:α→Nat→Out β} (h:aAR X) (hf:∀ v t,aAR (F v t)):aAR (X.andThen F):=fun c hc=>by
 cases X with
 |ok p=>exact hf p.1 p.2 c hc
 |error d=>exact h c (by cases hc;rfl)
theorem y6 {ev:Nat→aB→Out (List Int)} (h:∀ t e,aAR (ev t e)):∀ (l:List aB) (t:Nat),aAR (lP ev l t)
 | [],t=>.ok
 |e :: l,t=>(h t e).then fun v t=>(y6 h l t).then fun vs t=>.ok
theorem aEJ {f:List (List Int)→Nat→Out (List (List Int))} (h:∀ vs t,aAR (f vs t)):∀ (n:Nat) (vs:List (List Int)) (t:Nat),aAR (qE f n vs t)
 |0,vs,t=>.ok
 |n + 1,vs,t=>(h vs t).then fun a t=>aEJ h n a t
theorem aZI (k:Int) (vs:List (List Int)) (t:Nat):aAR (opE k vs t):=by
 unfold opE
 repeat' split
 all_goals first | exact .ok | (intro c h;cases h;exact .inl rfl)
theorem aQ4 (p:aE) (sz:Nat):∀ (n t:Nat) (e:aB) (env:List (List Int)),aAR (jD p sz n t e env)
 |0,t,e,env=>fun c h=>by rw [jD] at h;cases h;exact .inr rfl
 |n + 1,t,e,env=>by
  have ih:=aQ4 p sz n
  rw [jD]
  split
  ·intro c h;cases h;exact .inr rfl
  split
  ·exact .ok
  split
  ·exact .ok
  split
  ·refine (ih _ _ _).then fun v t=>?_
   split
   ·exact ih _ _ _
   ·exact ih _ _ _
  split
  ·exact (ih _ _ _).then fun v t=>ih _ _ _
  refine (y6 (fun t e=>ih t e env) _ _).then fun vs t=>?_
  split
  ·exact ih _ _ _
  split
  ·exact (aEJ (fun vs t=>y6 (fun t e=>ih t e vs) _ t) _ _ _).then fun vs t=>.ok
  ·exact aZI _ _ _
theorem aCJ (p:aE) (sz:Nat) (f:Int) (args:List (List Int)):aAR (evF p sz f args):=y6 (fun t e=>aQ4 p sz 3001 t e args) _ _
def okP {α:Type} (P:α→Prop) (X:Out α):Prop:=∀ v u,X = .ok (v,u)→P v
theorem okP.then {α β:Type} {P:α→Prop} {Q:β→Prop} {X:Out α} {F:α→Nat→Out β} (h:okP P X) (hf:∀ v t,P v→okP Q (F v t)):okP Q (X.andThen F):=fun w u hw=>by
 cases X with
 |ok p=>obtain ⟨v,t⟩:=p;exact hf v t (h v t rfl) w u hw
 |error c=>cases hw
theorem okP.err {α:Type} {P:α→Prop} {c:Int}:okP P (.error c:Out α):=fun w u e=>by cases e
def bAT (sz n:Nat) (l:List (List Int)):Prop:=l.length = n∧∀ s∈l,bD sz s
theorem bAT.get {sz n i:Nat} {l:List (List Int)} (h:bAT sz n l) (hi:i < n):bD sz (l.getD i []):=by
 rw [List.getD_eq_getElem?_getD,List.getElem?_eq_getElem (by rw [h.1];exact hi)];exact h.2 _ (List.getElem_mem _)
theorem pW {p:aE} {e:aB} {vars funcs:Int} (h:mR p e vars funcs):e.aR = 1∨e.aR = 2∨e.aR = 3∨e.aR = 4∨e.aR = 5∨e.aR = 6∨e.aR = 7∨e.aR = 8∨e.aR = 9∨e.aR = 10∨e.aR = 11:=by
 by_cases hk:e.aR = 10∨e.aR = 11
 ·omega
 ·have h1:=((eO hk).1 h).1
  unfold fG at h1
  repeat' (split at h1)
  all_goals omega
theorem wH {p:aE} (hp:p.ok) {f:Int} (hf:0≤f∧f < p.aJ.length):∃ F,p.aJ[f.toNat]? = some F∧(1≤F.aL.length∧F.aL.length≤12)∧(0≤F.a9∧F.a9≤12)∧p.outs f = F.aL∧∀ x∈F.aL,x.ok p f F.a9:=by
 have hlt:f.toNat < p.aJ.length:=by omega
 have ef:p.aJ[f.toNat]? = some p.aJ[f.toNat]:=List.getElem?_eq_getElem hlt
 have hF:=hp.2 _ _ ef
 refine ⟨_,ef,by have:=hF.2.2.1;omega,hF.2.1,by rw [aE.outs,ef];rfl,fun x hx=>?_⟩
 have:=(hF.2.2.2.2.2 x hx).2.2.2.2
 rwa [show ((f.toNat:Nat):Int) = f by omega] at this
theorem aZJ (a:List Int) (m:Int) (hm:fP m) (hl:a.length≤1048576) (ha:hH a):rN Tryz.prog 109 [cY 1 (fun n=>[I n]) a,I m] (QS (OS (oP I) 1 (gS a m))):=by
 refine pI 27 aQJ bM bC mix Tryz.func109 rfl (by kernel_rfl) (by simp) fun h=>?_
 simp -dsimp -implicitDefEqProofs only [go_sem,↓reduceIte,Tryz.f109]
 intro _
 refine ⟨Nat.zero_lt_one,Nat.le_refl _,by omega,by omega,fun n hn _=>?_⟩
 have hc:=oX a m
 rw [s9]
 refine wA (keep:=aQJ) (ib:=bM) (mk:=bC) mix (by kernel_rfl) (fun k:Nat=>[(0,cY 1 (fun n=>[I n]) a),(1,I m),(5,.os n 1 0 a.length),(11,I a.length),(12,I k)]) n (fun k=>.row 1 (((xN (gS a m) k).map fun n=>[I n]).map (List.map .v))) (fun k=>k≤a.length) (fun k=>a.length - k) 0 ⟨by simp [bU,bF],by rw [aH,yU,hc],Nat.zero_le _⟩ ?_
 intro k hk
 rcases Nat.lt_or_ge k a.length with hlt | hge
 ·have ea:a[k]? = some a[k]:=List.getElem?_eq_getElem hlt
  have eu:=aCD (c:=gS a m) (k:=k) (by omega)
  have el:=aCC (gS a m) (k:=k) (by omega)
  simp -dsimp -implicitDefEqProofs only [go_sem,↓reduceIte,Tryz.f109,aO,hlt,ea,eu,el,hc]
  have h1:=num_mul (ha _ (List.getElem_mem hlt)) hm
  refine ⟨k + 1,by rw [IntWalk.i64_in _ (by omega)];rfl,?_,by omega,by omega⟩
  have hv:(gS a m)[k]'(by omega) = a[k] * m % 1000003:=by simp [gS]
  rw [aOF h1.1 (by omega),← aCE (by omega),hv,← nL I]
  exact aA.le_refl _
 ·have hk':k = a.length:=by omega
  subst hk'
  simp -dsimp -implicitDefEqProofs only [go_sem,↓reduceIte,Tryz.f109,aO,Nat.lt_irrefl]
  have hu:xN (gS a m) a.length = gS a m:=by rw [← hc];exact aCB _
  rw [hu,show a.length = (gS a m).length from hc.symm]
  exact s7 hn
theorem vN {P:Program} {f:FuncId} {args:List aC} {l:List Int} (a:rN P f args (QS (OS (oP I) 1 l))):dI P f args (cY 1 (fun n=>[I n]) l):=QS.cD a (fun y hy=>OS.lQ (c:=fun n=>[I n]) (fun _ _ q=>xI q) hy)
theorem scaled (a:List Int) (m:Int) (hm:fP m) (hl:a.length≤1048576) (ha:hH a):dI Tryz.prog 109 [cY 1 (fun n=>[I n]) a,I m] (cY 1 (fun n=>[I n]) (gS a m)):=vN (aZJ a m hm hl ha)
theorem aLW (a b:List Int) (hab:b.length = a.length) (hl:a.length≤1048576) (ha:hH a) (hb:hH b):rN Tryz.prog 111 [cY 1 (fun n=>[I n]) a,cY 1 (fun n=>[I n]) b] (QS (OS (oP I) 1 (jQ a b))):=by
 refine pI 9 aBZ bM bC mix Tryz.func111 rfl (by kernel_rfl) (by simp) fun h=>?_
 simp -dsimp -implicitDefEqProofs only [go_sem,↓reduceIte,Tryz.f111]
 first | refine aG.mk (scaled b 1000002 (by unfold fP;omega) (by omega) hb) ?_ | refine aD.mk (scaled b 1000002 (by unfold fP;omega) (by omega) hb) ?_ | refine aG.a5 (scaled b 1000002 (by unfold fP;omega) (by omega) hb) ?_ | refine aD.mk (aX.cD (scaled b 1000002 (by unfold fP;omega) (by omega) hb)) ?_
 simp -dsimp -implicitDefEqProofs only [go_sem,↓reduceIte,Tryz.f111]
 refine aG.wn0 (added a (gS b 1000002) (by rw [oX];exact hab) hl (rE ha) (rE (fO _ ⟨rfl,hb⟩).2)) ?_
 rintro r l g ⟨y,oy,rfl,rfl⟩ wn
 simp -dsimp -implicitDefEqProofs only [go_sem,↓reduceIte,Tryz.f111,oy.flat,oy.one]
 exact ⟨_,g,_,aZ _ _,⟨y,oy,rfl,rfl⟩,wn⟩
theorem reduced (a b:List Int) (hab:b.length = a.length) (hl:a.length≤1048576) (ha:hH a) (hb:hH b):dI Tryz.prog 111 [cY 1 (fun n=>[I n]) a,cY 1 (fun n=>[I n]) b] (cY 1 (fun n=>[I n]) (jQ a b)):=vN (aLW a b hab hl ha hb)
theorem minus (a b:Int):dI Tryz.prog 120 [I a,I b] (I ((a - b) % 1000003)):=by
 refine dJ 10 aBZ bM bC mix Tryz.func120 rfl (by kernel_rfl) (by simp) fun h=>?_
 simp -dsimp -implicitDefEqProofs only [go_sem,↓reduceIte,Tryz.f120]
 first | refine aG.mk (gE b) ?_ | refine aD.mk (gE b) ?_ | refine aG.a5 (gE b) ?_ | refine aD.mk (aX.cD (gE b)) ?_
 simp -dsimp -implicitDefEqProofs only [go_sem,↓reduceIte,Tryz.f120]
 rw [IntWalk.i64_in _ (by omega)]
 first | refine aG.mk (aIN a (1000003 - b % 1000003)) ?_ | refine aD.mk (aIN a (1000003 - b % 1000003)) ?_ | refine aG.a5 (aIN a (1000003 - b % 1000003)) ?_ | refine aD.mk (aX.cD (aIN a (1000003 - b % 1000003))) ?_
 simp -dsimp -implicitDefEqProofs only [go_sem,↓reduceIte,Tryz.f120]
 omega
@[go_sem] def aOI:List Nat:=[0,1,4,5,6,7,12,13,14,18]
@[go_sem] def a4W:Marks:=fun id=>match id with | 8=>([5,20],(.op 0 (.op 1 (.op 2 (.op 3 (.op 4 (.op 6 (.op 7 (.op 8 (.op 9 (.op 10 (.op 11 (.op 12 (.op 13 (.op 14 (.op 15 (.op 16 (.op 5 (.op 17 (.op 18 (.op 19 (.op 20 .nil))))))))))))))))))))),[]) | _=>([],.nil,[])
theorem aVV (a b:List Int) (hab:b.length = a.length) (hl:a.length≤1048576) (ha:hH a) (hb:hH b):rN Tryz.prog 61 [cY 1 (fun n=>[I n]) a,cY 1 (fun n=>[I n]) b] (QS (OS (oP I) 1 (mulL a b))):=by
 refine pI 43 aOI bM a4W mix Tryz.func61 rfl (by kernel_rfl) (by simp) fun h=>?_
 simp -dsimp -implicitDefEqProofs only [go_sem,↓reduceIte,Tryz.f61]
 intro _
 refine ⟨Nat.zero_lt_one,Nat.le_refl _,by omega,by omega,fun n hn _=>?_⟩
 have hc:=aLU a b
 rw [s9]
 refine wA (keep:=aOI) (ib:=bM) (mk:=a4W) mix (by kernel_rfl) (fun k:Nat=>[(0,cY 1 (fun n=>[I n]) a),(1,cY 1 (fun n=>[I n]) b),(5,.os n 1 0 a.length),(12,I a.length),(13,I k)]) n (fun k=>.row 1 (((xN (mulL a b) k).map fun n=>[I n]).map (List.map .v))) (fun k=>k≤a.length) (fun k=>a.length - k) 0 ⟨by simp [bU,bF],by rw [aH,yU,hc],Nat.zero_le _⟩ ?_
 intro k hk
 rcases Nat.lt_or_ge k a.length with hlt | hge
 ·simp -dsimp -implicitDefEqProofs only [go_sem,↓reduceIte,Tryz.f61,aO,hlt]
  refine wA (keep:=aOI) (ib:=bM) (mk:=a4W) mix (by kernel_rfl) (fun i:Nat=>[(0,cY 1 (fun n=>[I n]) a),(1,cY 1 (fun n=>[I n]) b),(5,.os n 1 0 a.length),(6,I k),(7,I i),(12,I a.length),(13,I k)]) n (fun i=>.row 1 ((((xN (mulL a b) k).set k (wR a b k i)).map fun n=>[I n]).map (List.map .v))) (fun i=>i≤k + 1) (fun i=>k + 1 - i) 0 ⟨by simp [bU,bF],by rw [aH,wR,aVQ (by omega)],Nat.zero_le _⟩ ?_
  intro i hi
  have el:((xN (mulL a b) k).set k (wR a b k i)).length = a.length:=by rw [List.length_set,aCC _ (by omega),hc]
  have eu:((xN (mulL a b) k).set k (wR a b k i))[k]? = some (wR a b k i):=by rw [List.getElem?_set_self (by rw [List.length_set] at el;omega)]
  rcases Nat.lt_or_ge i (k + 1) with jO | aAP
  ·have ea:=b9 (l:=a) (i:=i) (by omega)
   have eb:=b9 (l:=b) (i:=k - i) (by omega)
   have ew:IntKind.i64.wrap ((k:Int) - (i:Int)) = ((k - i:Nat):Int):=by rw [IntWalk.i64_in _ (by omega)];omega
   simp -dsimp -implicitDefEqProofs only [go_sem,↓reduceIte,Tryz.f61,aO,hlt,ea,eb,eu,el,hc,ew]
   refine ⟨fun _=>⟨by omega,by omega,i + 1,by rw [IntWalk.i64_in _ (by omega)];rfl,?_,by omega,by omega⟩,fun q=>absurd (by omega) q⟩
   have h1:=num_mul (ha.get i) (hb.get (k - i))
   have h2:=aVI a b k i
   unfold fP at h2
   rw [IntWalk.i64_in (a.getD i 0 * b.getD (k - i) 0) (by omega),aOF (by omega) (by omega),show (xN (mulL a b) k).set k (wR a b k (i + 1)) = ((xN (mulL a b) k).set k (wR a b k i)).set k ((wR a b k i + a.getD i 0 * b.getD (k - i) 0) % 1000003) by rw [List.set_set,wR],← nL I]
   exact aA.le_refl _
  ·have hi':i = k + 1:=by omega
   subst hi'
   simp -dsimp -implicitDefEqProofs only [go_sem,↓reduceIte,Tryz.f61,aO,hlt]
   refine ⟨fun q=>absurd q (by omega),fun _=>⟨k + 1,by rw [IntWalk.i64_in _ (by omega)];rfl,?_,by omega,by omega⟩⟩
   have hv:(mulL a b)[k]'(by omega) = wR a b k (k + 1):=by simp [mulL]
   rw [← hv,aCE (by omega)]
   exact aA.le_refl _
 ·have hk':k = a.length:=by omega
  subst hk'
  simp -dsimp -implicitDefEqProofs only [go_sem,↓reduceIte,Tryz.f61,aO,Nat.lt_irrefl]
  have hu:xN (mulL a b) a.length = mulL a b:=by rw [← hc];exact aCB _
  rw [hu,show a.length = (mulL a b).length from hc.symm]
  exact s7 hn
theorem product (a b:List Int) (hab:b.length = a.length) (hl:a.length≤1048576) (ha:hH a) (hb:hH b):dI Tryz.prog 61 [cY 1 (fun n=>[I n]) a,cY 1 (fun n=>[I n]) b] (cY 1 (fun n=>[I n]) (mulL a b)):=vN (aVV a b hab hl ha hb)
@[go_sem] def aQ5:List Nat:=[0,1,4,5,6,8,12,17]
theorem Power (a n:Int) (hn:0≤n) (hn2:n≤4294967296):dI Tryz.prog 179 [I a,I n] (I (pwN (a % 1000003) n.toNat)):=by
 refine dJ 27 aQ5 bM bC mix Tryz.func179 rfl (by kernel_rfl) (by simp) fun h=>?_
 simp -dsimp -implicitDefEqProofs only [go_sem,↓reduceIte,Tryz.f179]
 refine ⟨fun q=>absurd q (by omega),fun _=>?_⟩
 first | refine aG.mk (gE a) ?_ | refine aD.mk (gE a) ?_ | refine aG.a5 (gE a) ?_ | refine aD.mk (aX.cD (gE a)) ?_
 simp -dsimp -implicitDefEqProofs only [go_sem,↓reduceIte,Tryz.f179]
 generalize hT:pwN (a % 1000003) n.toNat = T
 refine jM (keep:=aQ5) (ib:=bM) (mk:=bC) mix (by kernel_rfl) (fun x:Int × Int × Int=>[(1,I x.2.2),(5,I x.1),(6,I x.2.1)]) (fun x=>(0≤x.1∧x.1 < 1000003)∧(0≤x.2.1∧x.2.1 < 1000003)∧(0≤x.2.2∧x.2.2≤4294967296)∧x.1 * x.2.1 ^ x.2.2.toNat % 1000003 = T) (fun x=>x.2.2.toNat) (1,a % 1000003,n) ⟨by simp [bU,bF],⟨by simp,by simp⟩,aLT _,⟨hn,hn2⟩,by rw [Int.one_mul];exact hT⟩ ?_
 rintro ⟨x,b,m⟩ ⟨hx,hb,hm,hp⟩
 simp only at hx hb hm hp ⊢
 simp -dsimp -implicitDefEqProofs only [go_sem,↓reduceIte,Tryz.f179]
 have h1:=num_mul (x:=x) (y:=b) (by unfold fP;omega) (by unfold fP;omega)
 have h2:=num_mul (x:=b) (y:=b) (by unfold fP;omega) (by unfold fP;omega)
 rw [Int.tmod_eq_emod_of_nonneg hm.1,Int.tdiv_eq_ediv_of_nonneg hm.1,IntWalk.i64_in (m / 2) (by omega),aOF h1.1 (by omega),aOF h2.1 (by omega)]
 refine ⟨fun hg=>⟨fun ho=>⟨(x * b % 1000003,b * b % 1000003,m / 2),⟨rfl,rfl,rfl⟩,⟨aLT _,aLT _,(show 0≤m / 2∧m / 2≤4294967296 by omega),aVP hm.1 ho hp⟩,by simp only;omega⟩,fun ho=>⟨(x,b * b % 1000003,m / 2),⟨rfl,rfl,rfl⟩,⟨hx,aLT _,(show 0≤m / 2∧m / 2≤4294967296 by omega),aQ2 hm.1 ho hp⟩,by simp only;omega⟩⟩,fun hg=>?_⟩
 have:m.toNat = 0:=by omega
 rw [this,aQ1 x b hx] at hp
 exact hp
theorem rF (a:Int):dI Tryz.prog 119 [I a] (I (gG a)):=by
 refine dJ 5 aAN bM bC mix Tryz.func119 rfl (by kernel_rfl) (by simp) fun h=>?_
 simp -dsimp -implicitDefEqProofs only [go_sem,↓reduceIte,Tryz.f119]
 first | refine aG.mk (Power a 1000001 (by decide) (by decide)) ?_ | refine aD.mk (Power a 1000001 (by decide) (by decide)) ?_ | refine aG.a5 (Power a 1000001 (by decide) (by decide)) ?_ | refine aD.mk (aX.cD (Power a 1000001 (by decide) (by decide))) ?_
 simp -dsimp -implicitDefEqProofs only [go_sem,↓reduceIte,Tryz.f119]
 rfl
@[go_sem] def aIP:List Nat:=[0,1,4,5,6,7,8,9,18,19,20,28]
@[go_sem] def aVW:Marks:=fun id=>match id with | 1=>([2],(.op 0 (.op 1 (.op 3 (.op 4 (.op 5 (.op 6 (.op 2 (.op 7 (.op 8 .nil))))))))),[]) | 9=>([4],(.op 0 (.op 1 (.op 2 (.op 3 (.op 5 (.op 6 (.op 7 (.op 8 (.op 9 (.op 10 (.op 4 (.op 11 (.op 12 (.op 13 .nil)))))))))))))),[]) | _=>([],.nil,[])
theorem aS6 (a b:List Int) (hab:b.length = a.length) (hl:a.length≤1048576) (h0:0 < a.length) (ha:hH a) (hb:hH b):rN Tryz.prog 171 [cY 1 (fun n=>[I n]) a,cY 1 (fun n=>[I n]) b] (QS (OS (oP I) 1 (gH a b))):=by
 have e0:b[Int.toNat 0]? = some (b.getD 0 0):=b9 (l:=b) (i:=0) (by omega)
 refine pI 53 aIP bM aVW mix Tryz.func171 rfl (by kernel_rfl) (by simp) fun h=>?_
 simp -dsimp -implicitDefEqProofs only [go_sem,↓reduceIte,Tryz.f171,e0]
 refine ⟨by omega,?_⟩
 first | refine aG.mk (rF (b.getD 0 0)) ?_ | refine aD.mk (rF (b.getD 0 0)) ?_ | refine aG.a5 (rF (b.getD 0 0)) ?_ | refine aD.mk (aX.cD (rF (b.getD 0 0))) ?_
 simp -dsimp -implicitDefEqProofs only [go_sem,↓reduceIte,Tryz.f171]
 refine ⟨Nat.zero_lt_one,Nat.le_refl _,by omega,by omega,fun n hn _=>?_⟩
 have hc:=oW a b
 rw [s9]
 refine wA (keep:=aIP) (ib:=bM) (mk:=aVW) mix (by kernel_rfl) (fun k:Nat=>[(0,cY 1 (fun n=>[I n]) a),(1,cY 1 (fun n=>[I n]) b),(5,.os n 1 0 a.length),(6,I (gG (b.getD 0 0))),(18,I a.length),(19,I k)]) n (fun k=>.row 1 (((xN (gH a b) k).map fun n=>[I n]).map (List.map .v))) (fun k=>k≤a.length) (fun k=>a.length - k) 0 ⟨by simp [bU,bF],by rw [aH,yU,hc],Nat.zero_le _⟩ ?_
 intro k hk
 rcases Nat.lt_or_ge k a.length with hlt | hge
 ·have ek:=b9 hlt
  simp -dsimp -implicitDefEqProofs only [go_sem,↓reduceIte,Tryz.f171,aO,hlt,ek]
  refine jM (keep:=aIP) (ib:=bM) (mk:=aVW) mix (by kernel_rfl) (fun i:Nat=>[(0,cY 1 (fun n=>[I n]) a),(1,cY 1 (fun n=>[I n]) b),(5,.os n 1 0 a.length),(6,I (gG (b.getD 0 0))),(7,I k),(8,I (dvS (iW a b k) b k (a.getD k 0) i)),(9,I i),(18,I a.length),(19,I k)]) (fun i=>i≤k) (fun i=>k - i) 0 ⟨by simp [bU,bF,dvS],Nat.zero_le _⟩ ?_
  intro i hi
  have el:=aCC (gH a b) (k:=k) (by omega)
  have eu:=aCD (c:=gH a b) (k:=k) (by omega)
  rcases Nat.lt_or_ge i k with jO | aAP
  ·have ei:=aBT (a:=a) (b:=b) (i:=i) hk jO
   have eb:=b9 (l:=b) (i:=k - i) (by omega)
   have ew:IntKind.i64.wrap ((k:Int) - (i:Int)) = ((k - i:Nat):Int):=by rw [IntWalk.i64_in _ (by omega)];omega
   simp -dsimp -implicitDefEqProofs only [go_sem,↓reduceIte,Tryz.f171,aO,jO,ei,eb,el,hc,ew]
   have h1:=num_mul ((qF a b k).get i) (hb.get (k - i))
   refine ⟨by omega,by omega,?_⟩
   rw [IntWalk.i64_in _ (by omega)]
   first | refine aG.mk (minus (dvS (iW a b k) b k (a.getD k 0) i) ((iW a b k).getD i 0 * b.getD (k - i) 0)) ?_ | refine aD.mk (minus (dvS (iW a b k) b k (a.getD k 0) i) ((iW a b k).getD i 0 * b.getD (k - i) 0)) ?_ | refine aG.a5 (minus (dvS (iW a b k) b k (a.getD k 0) i) ((iW a b k).getD i 0 * b.getD (k - i) 0)) ?_ | refine aD.mk (aX.cD (minus (dvS (iW a b k) b k (a.getD k 0) i) ((iW a b k).getD i 0 * b.getD (k - i) 0))) ?_
   simp -dsimp -implicitDefEqProofs only [go_sem,↓reduceIte,Tryz.f171,aO,jO,ei,eb,el,hc,ew]
   exact ⟨i + 1,⟨rfl,by rw [IntWalk.i64_in _ (by omega)];rfl⟩,by omega,by omega⟩
  ·have hi':i = k:=by omega
   subst hi'
   simp -dsimp -implicitDefEqProofs only [go_sem,↓reduceIte,Tryz.f171,aO,Nat.lt_irrefl,hlt,eu,el,hc]
   have h1:=num_mul (tH (iW a b i) b i (ha.get i) i) (num_inv (b.getD 0 0))
   refine ⟨i + 1,by rw [IntWalk.i64_in _ (by omega)];rfl,?_,by omega,by omega⟩
   rw [aOF h1.1 (by omega),← y5 hlt,← aCE (by omega),← nL I]
   exact aA.le_refl _
 ·have hk':k = a.length:=by omega
  subst hk'
  simp -dsimp -implicitDefEqProofs only [go_sem,↓reduceIte,Tryz.f171,aO,Nat.lt_irrefl]
  have hu:xN (gH a b) a.length = gH a b:=by rw [← hc];exact aCB _
  rw [hu,show a.length = (gH a b).length from hc.symm]
  exact s7 hn
theorem quotient (a b:List Int) (hab:b.length = a.length) (hl:a.length≤1048576) (h0:0 < a.length) (ha:hH a) (hb:hH b):dI Tryz.prog 171 [cY 1 (fun n=>[I n]) a,cY 1 (fun n=>[I n]) b] (cY 1 (fun n=>[I n]) (gH a b)):=vN (aS6 a b hab hl h0 ha hb)
theorem fS {h h':aA} {n:Nat} (l:List Int) (h0:h n = none) (hl:(a7 h n (.row 1 ((l.map fun n=>[I n]).map (List.map .v)))).le h') {len:Nat} (e:len = l.length):Shift (.os n 1 0 len) h' (cY 1 (fun n=>[I n]) l) h :=
 oC (l.map fun n=>[I n]) h0 hl len (by rw [List.length_map];exact e)
theorem oF (n:Int) (sz:Nat):(bJ n sz).length = sz:=by simp [bJ]
theorem aCK {sz:Nat} {x:List aC} (h:0 < sz):(List.replicate sz x)[Int.toNat 0]? = some x:=by
 show (List.replicate sz x)[0]? = some x
 rw [List.getElem?_replicate,if_pos h]
theorem aEK (n:Int) (sz:Nat):((List.replicate sz [aC.int .i64 0]).map (List.map Cell.v)).set 0 [Cell.v (I n)] = ((bJ n sz).map fun n=>[I n]).map (List.map .v):=by
 rw [s9,bJ,nL I]
abbrev bB (l:List (List Int)):aC:=cY 1 (fun s=>[ints s]) l
theorem a4X (m:Nat) (es:List (List aC)) (x:aB):iF m es x.c = x.c:=by rw [aB.aQ];rfl
theorem aVX (m sz k:Nat) (x:aB):dG m sz k x.c = true:=by rw [aB.aQ];rfl
theorem aAJ.aU7 {P:Program} {N:Nat} {c:Code} {Q:Exit→bE→aA→Prop} {τ:bE} {h:aA} {t:Tag (c,Q)} (n:Nat) {es:List (List aC)} (hh:h n = none) (hb:τ.all (fun p=>dF n 1 es.length p.2) = true)
  (x:aAJ P N c Q (τ.map fun p=>(p.1,p.2.cR n es)) (a7 h n .gone) ()):aAJ P N c Q τ (a7 h n (.row 1 (es.map (List.map .v)))) t:=by
 have y:=mM.nV (c:=c) (Q:=Q) (τ:=τ) (N:=N) (P:=P) (h:=a7 h n (.row 1 (es.map (List.map .v)))) n (sz:=1) (es:=es.map (List.map .v)) (aH _ _ _) (by simpa using hb)
 rw [aO,kN] at y
 exact y x
theorem aG.aEL {P:Program} {f:FuncId} {h:aA} {K:aC→aA→Prop} {t:Tag K} {nb m k len:Nat} {x:aC} {es:List (List aC)} (hx:x.cR m es = x) (zX:dF m 1 es.length x = true) (hne:¬ nb = m) (hl:len = es.length) (hm:h m = none) (a:fE P f [.op nb k 0 0,x,.sl 1 es false] (a7 h m .gone) K) :
  aG P f [.op nb k 0 0,x,.os m 1 0 len] (a7 h m (.row 1 (es.map (List.map .v)))) K t:=by
 subst hl
 refine aG.aU7 m (aH _ _ _) (by simp [dG,dF,zX,hne]) ?_
 rw [aO,kN]
 have h1:iF m es [.op nb k 0 0,x,.os m 1 0 es.length] = [.op nb k 0 0,x,.sl 1 es false]:=by
  simp only [iF,aC.cR,hx,if_neg hne,if_true,List.drop_zero,List.take_length]
 rw [h1]
 exact a
theorem aG.aZK {P:Program} {f:FuncId} {h:aA} {K:aC→aA→Prop} {t:Tag K} {nb m k len:Nat} {e:aB} {es:List (List aC)} (hne:¬ nb = m) (hl:len = es.length) (hm:h m = none) (a:fE P f [.op nb k 0 0,.agg e.c,.sl 1 es false] (a7 h m .gone) K) :
  aG P f [.op nb k 0 0,.agg e.c,.os m 1 0 len] (a7 h m (.row 1 (es.map (List.map .v)))) K t:=by
 subst hl
 refine aG.aU7 m (aH _ _ _) (by simp [dG,dF,aVX,hne]) ?_
 rw [aO,kN]
 have h1:iF m es [.op nb k 0 0,.agg e.c,.os m 1 0 es.length] = [.op nb k 0 0,.agg e.c,.sl 1 es false]:=by
  simp only [iF,aC.cR,a4X,if_neg hne,if_true,List.drop_zero,List.take_length]
 rw [h1]
 exact a
theorem tI {sz:Nat} {env:List (List Int)} {s:List Int} (he:∀ x∈env,bD sz x) (hs:bD sz s):∀ x∈env ++ [s],bD sz x:=fun x hx=>by
 rcases List.mem_append.1 hx with hx | hx
 ·exact he x hx
 ·rw [List.mem_singleton.1 hx];exact hs
theorem nN:fP 0:=by unfold fP;simp
theorem aV (a b:Int) (ha:fP a) (hb:fP b):dI Tryz.prog 45 [I a,I b] (I (a * b % 1000003)):=by
 refine dJ 11 aBZ bM bC mix Tryz.func45 rfl (by kernel_rfl) (by simp) fun h=>?_
 simp -dsimp -implicitDefEqProofs only [go_sem,↓reduceIte,Tryz.f45]
 first | refine aG.mk (b6 a) ?_ | refine aD.mk (b6 a) ?_ | refine aG.a5 (b6 a) ?_ | refine aD.mk (aX.cD (b6 a)) ?_
 simp -dsimp -implicitDefEqProofs only [go_sem,↓reduceIte,Tryz.f45]
 first | refine aG.mk (b6 b) ?_ | refine aD.mk (b6 b) ?_ | refine aG.a5 (b6 b) ?_ | refine aD.mk (aX.cD (b6 b)) ?_
 simp -dsimp -implicitDefEqProofs only [go_sem,↓reduceIte,Tryz.f45]
 have h1:=num_mul ha hb
 have h2:=ha
 have h3:=hb
 unfold fP at h2 h3
 rw [Int.emod_eq_of_lt h2.1 (by omega),Int.emod_eq_of_lt h3.1 (by omega),aOF h1.1 (by omega)]
@[go_sem] def aQ6:List Nat:=[0,1,4,5,6,8,12,15]
theorem wI (a n:Int) (hn:0≤n) (hn2:n≤4294967296):dI Tryz.prog 133 [I a,I n] (I (pwN (a % 1000003) n.toNat)):=by
 refine dJ 25 aQ6 bM bC mix Tryz.func133 rfl (by kernel_rfl) (by simp) fun h=>?_
 simp -dsimp -implicitDefEqProofs only [go_sem,↓reduceIte,Tryz.f133]
 refine ⟨fun q=>absurd q (by omega),fun _=>?_⟩
 first | refine aG.mk (b6 a) ?_ | refine aD.mk (b6 a) ?_ | refine aG.a5 (b6 a) ?_ | refine aD.mk (aX.cD (b6 a)) ?_
 simp -dsimp -implicitDefEqProofs only [go_sem,↓reduceIte,Tryz.f133]
 generalize hT:pwN (a % 1000003) n.toNat = T
 refine jM (keep:=aQ6) (ib:=bM) (mk:=bC) mix (by kernel_rfl) (fun x:Int × Int × Int=>[(1,I x.2.2),(5,I x.1),(6,I x.2.1)]) (fun x=>(0≤x.1∧x.1 < 1000003)∧(0≤x.2.1∧x.2.1 < 1000003)∧(0≤x.2.2∧x.2.2≤4294967296)∧x.1 * x.2.1 ^ x.2.2.toNat % 1000003 = T) (fun x=>x.2.2.toNat) (1,a % 1000003,n) ⟨by simp [bU,bF],⟨by simp,by simp⟩,aLT _,⟨hn,hn2⟩,by rw [Int.one_mul];exact hT⟩ ?_
 rintro ⟨x,b,m⟩ ⟨hx,hb,hm,hp⟩
 simp only at hx hb hm hp ⊢
 have nx:fP x:=by unfold fP;omega
 have nb:fP b:=by unfold fP;omega
 simp -dsimp -implicitDefEqProofs only [go_sem,↓reduceIte,Tryz.f133]
 rw [Int.tmod_eq_emod_of_nonneg hm.1]
 refine ⟨fun hg=>⟨fun ho=>?_,fun ho=>?_⟩,fun hg=>?_⟩
 ·first | refine aG.mk (aV x b nx nb) ?_ | refine aD.mk (aV x b nx nb) ?_ | refine aG.a5 (aV x b nx nb) ?_ | refine aD.mk (aX.cD (aV x b nx nb)) ?_
  simp -dsimp -implicitDefEqProofs only [go_sem,↓reduceIte,Tryz.f133]
  first | refine aG.mk (aV b b nb nb) ?_ | refine aD.mk (aV b b nb nb) ?_ | refine aG.a5 (aV b b nb nb) ?_ | refine aD.mk (aX.cD (aV b b nb nb)) ?_
  simp -dsimp -implicitDefEqProofs only [go_sem,↓reduceIte,Tryz.f133]
  rw [Int.tdiv_eq_ediv_of_nonneg hm.1,IntWalk.i64_in (m / 2) (by omega)]
  exact ⟨(x * b % 1000003,b * b % 1000003,m / 2),⟨rfl,rfl,rfl⟩,⟨aLT _,aLT _,(show 0≤m / 2∧m / 2≤4294967296 by omega),aVP hm.1 ho hp⟩,by simp only;omega⟩
 ·first | refine aG.mk (aV b b nb nb) ?_ | refine aD.mk (aV b b nb nb) ?_ | refine aG.a5 (aV b b nb nb) ?_ | refine aD.mk (aX.cD (aV b b nb nb)) ?_
  simp -dsimp -implicitDefEqProofs only [go_sem,↓reduceIte,Tryz.f133]
  rw [Int.tdiv_eq_ediv_of_nonneg hm.1,IntWalk.i64_in (m / 2) (by omega)]
  exact ⟨(x,b * b % 1000003,m / 2),⟨rfl,rfl,rfl⟩,⟨hx,aLT _,(show 0≤m / 2∧m / 2≤4294967296 by omega),aQ2 hm.1 ho hp⟩,by simp only;omega⟩
 ·have:m.toNat = 0:=by omega
  rw [this,aQ1 x b hx] at hp
  exact hp
theorem mD (a:Int):dI Tryz.prog 54 [I a] (I (gG a)):=by
 refine dJ 5 aAN bM bC mix Tryz.func54 rfl (by kernel_rfl) (by simp) fun h=>?_
 simp -dsimp -implicitDefEqProofs only [go_sem,↓reduceIte,Tryz.f54]
 first | refine aG.mk (wI a 1000001 (by decide) (by decide)) ?_ | refine aD.mk (wI a 1000001 (by decide) (by decide)) ?_ | refine aG.a5 (wI a 1000001 (by decide) (by decide)) ?_ | refine aD.mk (aX.cD (wI a 1000001 (by decide) (by decide))) ?_
 simp -dsimp -implicitDefEqProofs only [go_sem,↓reduceIte,Tryz.f54]
 rfl
theorem kI (a b:Int) (ha:fP a) (hb:fP b):dI Tryz.prog 107 [I a,I b] (I ((a - b) % 1000003)):=by
 unfold fP at ha hb
 refine dJ 9 aBZ bM bC mix Tryz.func107 rfl (by kernel_rfl) (by simp) fun h=>?_
 simp -dsimp -implicitDefEqProofs only [go_sem,↓reduceIte,Tryz.f107]
 rw [IntWalk.i64_in _ (by omega)]
 first | refine aG.mk (b6 (a - b)) ?_ | refine aD.mk (b6 (a - b)) ?_ | refine aG.a5 (b6 (a - b)) ?_ | refine aD.mk (aX.cD (b6 (a - b))) ?_
 simp -dsimp -implicitDefEqProofs only [go_sem,↓reduceIte,Tryz.f107]
theorem dR (n:Int) (sz:Nat) (hs:sz≤1048576):dI Tryz.prog 51 [I n,I sz] (ints (bJ n sz)):=by
 rcases Nat.eq_zero_or_pos sz with rfl | hp
 ·refine j7 14 tA bM bC mix Tryz.func51 rfl (by kernel_rfl) (by simp) fun h=>?_
  simp -dsimp -implicitDefEqProofs only [go_sem,↓reduceIte,Tryz.f51]
  refine ⟨Nat.zero_lt_one,by omega,by omega,fun m hm=>⟨fun q=>absurd q (by omega),fun _=>?_⟩⟩
  exact fS [] hm (aA.le_refl _) rfl
 ·have e2:=aCK (x:=[aC.int .i64 0]) hp
  refine j7 14 tA bM bC mix Tryz.func51 rfl (by kernel_rfl) (by simp) fun h=>?_
  simp -dsimp -implicitDefEqProofs only [go_sem,↓reduceIte,Tryz.f51,Int.toNat_natCast,e2]
  refine ⟨Nat.zero_lt_one,Nat.le_refl _,by omega,by omega,fun m hm=>⟨fun _=>⟨by omega,?_⟩,fun q=>absurd q (by omega)⟩⟩
  rw [aO,show Int.toNat 0 = 0 from rfl,aEK]
  exact fS _ hm (aA.le_refl _) (oF n sz).symm
@[go_sem] def aQ7:List Nat:=[7,21]
theorem kJ (a:List Int) (m:Int) (hm:fP m) (hl:a.length≤1048576) (ha:hH a):dI Tryz.prog 131 [ints a,I m] (ints (gS a m)):=by
 have hc:=oX a m
 refine j7 24 aBM aQ7 bC mix Tryz.func131 rfl (by kernel_rfl) (by simp) fun h=>?_
 simp -dsimp -implicitDefEqProofs only [go_sem,↓reduceIte,Tryz.f131]
 refine ⟨Nat.zero_lt_one,?_⟩
 refine bQ (keep:=aBM) (ib:=aQ7) (mk:=bC) mix (by kernel_rfl) (fun x:Nat × Option Nat=>[(0,ints a),(1,I m),(5,eU 1 ((gS a m).take x.1).length x.2),(6,I x.1)]) (fun x=>gB h (.row 1 ((((gS a m).take x.1).map fun n=>[I n]).map (List.map .v))) x.2) (fun x=>x.1≤a.length∧eF h ((gS a m).take x.1) x.2) (fun x=>a.length - x.1) (0,none) ⟨by simp [bU,bF,eU],by simp only [aP];exact aA.le_refl _,Nat.zero_le _,by simp [eF]⟩ ?_
 rintro ⟨k,o⟩ ⟨hk,hos⟩
 simp only at hk hos ⊢
 rcases Nat.lt_or_ge k a.length with hlt | hge
 ·have ea:a[k]? = some a[k]:=List.getElem?_eq_getElem hlt
  have hy:(gS a m).take (k + 1) = (gS a m).take k ++ [(gS a m)[k]'(by omega)]:=List.take_succ_eq_append_getElem (by omega)
  have hv:(gS a m)[k]'(by omega) = a[k] * m % 1000003:=by simp [gS]
  have hlk:((gS a m).take k).length = k:=by rw [List.length_take];omega
  rw [hv] at hy
  cases o with
  |none =>
   rw [a6] at hos
   rw [hos] at hy ⊢
   simp -dsimp -implicitDefEqProofs only [go_sem,↓reduceIte,Tryz.f131,a8,aP,hlt,ea]
   intro _
   first | refine aG.mk (aV a[k] m (ha _ (List.getElem_mem hlt)) hm) ?_ | refine aD.mk (aV a[k] m (ha _ (List.getElem_mem hlt)) hm) ?_ | refine aG.a5 (aV a[k] m (ha _ (List.getElem_mem hlt)) hm) ?_ | refine aD.mk (aX.cD (aV a[k] m (ha _ (List.getElem_mem hlt)) hm)) ?_
   simp -dsimp -implicitDefEqProofs only [go_sem,↓reduceIte,Tryz.f131]
   repeat' (with_reducible first | intro _ | refine And.intro ?_ ?_)
   all_goals try (first | omega | decide)
   rename_i b hb
   refine ⟨(k + 1,some b),?_⟩
   simp only [hy]
   refine ⟨⟨rfl,?_⟩,aA.le_refl _,⟨by omega,hb⟩,by omega⟩
   rw [IntWalk.i64_in _ (by omega)];rfl
  |some n =>
   rw [aU] at hos
   simp -dsimp -implicitDefEqProofs only [go_sem,↓reduceIte,Tryz.f131,aT,aK,hlt,ea]
   intro _
   first | refine aG.mk (aV a[k] m (ha _ (List.getElem_mem hlt)) hm) ?_ | refine aD.mk (aV a[k] m (ha _ (List.getElem_mem hlt)) hm) ?_ | refine aG.a5 (aV a[k] m (ha _ (List.getElem_mem hlt)) hm) ?_ | refine aD.mk (aX.cD (aV a[k] m (ha _ (List.getElem_mem hlt)) hm)) ?_
   simp -dsimp -implicitDefEqProofs only [go_sem,↓reduceIte,Tryz.f131]
   repeat' (with_reducible first | intro _ | refine And.intro ?_ ?_)
   all_goals try (first | omega | decide | exact Nat.le_refl _)
   rename_i b hb
   refine ⟨(k + 1,some b),?_⟩
   simp only [hy,aK,aT,aU]
   refine ⟨⟨by rw [List.length_append];rfl,?_⟩,?_,⟨by omega,hb.2⟩,by omega⟩
   ·rw [IntWalk.i64_in _ (by omega)];rfl
   ·rw [← dQ];exact iX hos
 ·have hk':k = a.length:=by omega
  subst hk'
  rw [List.take_of_length_le (by omega)] at hos ⊢
  cases o with
  |none =>
   rw [a6] at hos
   simp -dsimp -implicitDefEqProofs only [go_sem,↓reduceIte,Tryz.f131,a8,aP,Nat.lt_irrefl,Int.lt_irrefl]
   intro _
   rw [hos]
   exact Shift.of (Sub.loose _ _ _) (aA.le_refl _)
  |some n =>
   rw [aU] at hos
   simp -dsimp -implicitDefEqProofs only [go_sem,↓reduceIte,Tryz.f131,aT,aK,Nat.lt_irrefl,Int.lt_irrefl]
   intro _
   exact fS _ hos (aA.le_refl _) rfl
@[go_sem] def a2L:List Nat:=[7,24]
@[go_sem] def a2M:Marks:=fun id=>match id with | 5=>([11],(.op 0 (.op 1 (.op 2 (.op 3 (.op 4 (.op 5 (.op 6 (.op 7 (.op 8 (.op 9 (.op 10 (.op 11 (.op 12 .nil))))))))))))),[]) | _=>([],.nil,[])
theorem lX (a b:List Int) (hab:b.length = a.length) (hl:a.length≤1048576) (ha:hH a) (hb:hH b):dI Tryz.prog 129 [ints a,ints b] (ints (j8 a b)):=by
 have hc:=aLQ hab
 refine j7 27 aBM a2L a2M mix Tryz.func129 rfl (by kernel_rfl) (by simp) fun h=>?_
 simp -dsimp -implicitDefEqProofs only [go_sem,↓reduceIte,Tryz.f129]
 refine ⟨Nat.zero_lt_one,?_⟩
 refine bQ (keep:=aBM) (ib:=a2L) (mk:=a2M) mix (by kernel_rfl) (fun x:Nat × Option Nat=>[(0,ints a),(1,ints b),(5,eU 1 ((j8 a b).take x.1).length x.2),(6,I x.1)]) (fun x=>gB h (.row 1 ((((j8 a b).take x.1).map fun n=>[I n]).map (List.map .v))) x.2) (fun x=>x.1≤a.length∧eF h ((j8 a b).take x.1) x.2) (fun x=>a.length - x.1) (0,none) ⟨by simp [bU,bF,eU],by simp only [aP];exact aA.le_refl _,Nat.zero_le _,by simp [eF]⟩ ?_
 rintro ⟨k,o⟩ ⟨hk,hos⟩
 simp only at hk hos ⊢
 rcases Nat.lt_or_ge k a.length with hlt | hge
 ·have ea:a[k]? = some a[k]:=List.getElem?_eq_getElem hlt
  have eb:b[k]? = some (b[k]'(by omega)):=List.getElem?_eq_getElem (by omega)
  have hy:(j8 a b).take (k + 1) = (j8 a b).take k ++ [(j8 a b)[k]'(by omega)]:=List.take_succ_eq_append_getElem (by omega)
  have hv:(j8 a b)[k]'(by omega) = (a[k] + b[k]'(by omega)) % 1000003:=by simp [j8]
  have hlk:((j8 a b).take k).length = k:=by rw [List.length_take];omega
  rw [hv] at hy
  cases o with
  |none =>
   rw [a6] at hos
   rw [hos] at hy ⊢
   simp -dsimp -implicitDefEqProofs only [go_sem,↓reduceIte,Tryz.f129,a8,aP,hlt,ea,eb]
   intro _
   refine ⟨by omega,?_⟩
   first | refine aG.mk (eW a[k] (b[k]'(by omega))) ?_ | refine aD.mk (eW a[k] (b[k]'(by omega))) ?_ | refine aG.a5 (eW a[k] (b[k]'(by omega))) ?_ | refine aD.mk (aX.cD (eW a[k] (b[k]'(by omega)))) ?_
   simp -dsimp -implicitDefEqProofs only [go_sem,↓reduceIte,Tryz.f129]
   repeat' (with_reducible first | intro _ | refine And.intro ?_ ?_)
   all_goals try (first | omega | decide)
   rename_i b hb
   refine ⟨(k + 1,some b),?_⟩
   simp only [hy]
   refine ⟨⟨rfl,?_⟩,aA.le_refl _,⟨by omega,hb⟩,by omega⟩
   rw [IntWalk.i64_in _ (by omega)];rfl
  |some n =>
   rw [aU] at hos
   simp -dsimp -implicitDefEqProofs only [go_sem,↓reduceIte,Tryz.f129,aT,aK,hlt,ea,eb]
   intro _
   refine ⟨by omega,?_⟩
   first | refine aG.mk (eW a[k] (b[k]'(by omega))) ?_ | refine aD.mk (eW a[k] (b[k]'(by omega))) ?_ | refine aG.a5 (eW a[k] (b[k]'(by omega))) ?_ | refine aD.mk (aX.cD (eW a[k] (b[k]'(by omega)))) ?_
   simp -dsimp -implicitDefEqProofs only [go_sem,↓reduceIte,Tryz.f129]
   repeat' (with_reducible first | intro _ | refine And.intro ?_ ?_)
   all_goals try (first | omega | decide | exact Nat.le_refl _)
   rename_i b hb
   refine ⟨(k + 1,some b),?_⟩
   simp only [hy,aK,aT,aU]
   refine ⟨⟨by rw [List.length_append];rfl,?_⟩,?_,⟨by omega,hb.2⟩,by omega⟩
   ·rw [IntWalk.i64_in _ (by omega)];rfl
   ·rw [← dQ];exact iX hos
 ·have hk':k = a.length:=by omega
  subst hk'
  rw [List.take_of_length_le (by omega)] at hos ⊢
  cases o with
  |none =>
   rw [a6] at hos
   simp -dsimp -implicitDefEqProofs only [go_sem,↓reduceIte,Tryz.f129,a8,aP,Nat.lt_irrefl,Int.lt_irrefl]
   intro _
   rw [hos]
   exact Shift.of (Sub.loose _ _ _) (aA.le_refl _)
  |some n =>
   rw [aU] at hos
   simp -dsimp -implicitDefEqProofs only [go_sem,↓reduceIte,Tryz.f129,aT,aK,Nat.lt_irrefl,Int.lt_irrefl]
   intro _
   exact fS _ hos (aA.le_refl _) rfl
theorem nO (a b:List Int) (hab:b.length = a.length) (hl:a.length≤1048576) (ha:hH a) (hb:hH b):dI Tryz.prog 75 [ints a,ints b] (ints (jQ a b)):=by
 refine dJ 9 aBZ bM bC mix Tryz.func75 rfl (by kernel_rfl) (by simp) fun h=>?_
 simp -dsimp -implicitDefEqProofs only [go_sem,↓reduceIte,Tryz.f75]
 first | refine aG.mk (kJ b 1000002 (by unfold fP;omega) (by omega) hb) ?_ | refine aD.mk (kJ b 1000002 (by unfold fP;omega) (by omega) hb) ?_ | refine aG.a5 (kJ b 1000002 (by unfold fP;omega) (by omega) hb) ?_ | refine aD.mk (aX.cD (kJ b 1000002 (by unfold fP;omega) (by omega) hb)) ?_
 simp -dsimp -implicitDefEqProofs only [go_sem,↓reduceIte,Tryz.f75]
 first | refine aG.mk (lX a (gS b 1000002) (by rw [oX];exact hab) hl ha (fO _ ⟨rfl,hb⟩).2) ?_ | refine aD.mk (lX a (gS b 1000002) (by rw [oX];exact hab) hl ha (fO _ ⟨rfl,hb⟩).2) ?_ | refine aG.a5 (lX a (gS b 1000002) (by rw [oX];exact hab) hl ha (fO _ ⟨rfl,hb⟩).2) ?_ | refine aD.mk (aX.cD (lX a (gS b 1000002) (by rw [oX];exact hab) hl ha (fO _ ⟨rfl,hb⟩).2)) ?_
 simp -dsimp -implicitDefEqProofs only [go_sem,↓reduceIte,Tryz.f75]
 rfl
@[go_sem] def aCL:List Nat:=[0,1,4,5,6,7,8,13,18]
@[go_sem] def aQ8:List Nat:=[9,36]
@[go_sem] def aQ9:Marks:=fun id=>match id with | 9=>([],(.op 0 (.op 1 (.op 2 (.op 3 (.op 4 (.op 5 (.op 6 (.op 7 (.op 8 (.op 9 (.op 10 (.op 11 (.op 12 (.op 13 .nil)))))))))))))),[]) | _=>([],.nil,[])
theorem lY (a b:List Int) (hab:b.length = a.length) (hl:a.length≤1048576) (ha:hH a) (hb:hH b):dI Tryz.prog 130 [ints a,ints b] (ints (mulL a b)):=by
 have hc:=aLU a b
 refine j7 39 aCL aQ8 aQ9 mix Tryz.func130 rfl (by kernel_rfl) (by simp) fun h=>?_
 simp -dsimp -implicitDefEqProofs only [go_sem,↓reduceIte,Tryz.f130]
 refine ⟨Nat.zero_lt_one,?_⟩
 refine bQ (keep:=aCL) (ib:=aQ8) (mk:=aQ9) mix (by kernel_rfl) (fun x:Nat × Option Nat=>[(0,ints a),(1,ints b),(5,eU 1 ((mulL a b).take x.1).length x.2),(6,I x.1)]) (fun x=>gB h (.row 1 ((((mulL a b).take x.1).map fun n=>[I n]).map (List.map .v))) x.2) (fun x=>x.1≤a.length∧eF h ((mulL a b).take x.1) x.2) (fun x=>a.length - x.1) (0,none) ⟨by simp [bU,bF,eU],by simp only [aP];exact aA.le_refl _,Nat.zero_le _,by simp [eF]⟩ ?_
 rintro ⟨k,o⟩ ⟨hk,hos⟩
 simp only at hk hos ⊢
 rcases Nat.lt_or_ge k a.length with hlt | hge
 ·have hy:(mulL a b).take (k + 1) = (mulL a b).take k ++ [(mulL a b)[k]'(by omega)]:=List.take_succ_eq_append_getElem (by omega)
  have hv:(mulL a b)[k]'(by omega) = wR a b k (k + 1):=by simp [mulL]
  have hlk:((mulL a b).take k).length = k:=by rw [List.length_take];omega
  rw [hv] at hy
  cases o with
  |none =>
   rw [a6] at hos
   rw [hos] at hy ⊢
   simp -dsimp -implicitDefEqProofs only [go_sem,↓reduceIte,Tryz.f130,a8,aP,hlt]
   intro _
   refine jM (keep:=aCL) (ib:=aQ8) (mk:=aQ9) mix (by kernel_rfl) (fun i:Nat=>[(0,ints a),(1,ints b),(5,.sl 1 [] true),(6,I k),(7,I (wR a b k i)),(8,I i)]) (fun i=>i≤k + 1) (fun i=>k + 1 - i) 0 ⟨by simp [bU,bF,wR],Nat.zero_le _⟩ ?_
   intro i hi
   rcases Nat.lt_or_ge i (k + 1) with jO | aAP
   ·have ea:=b9 (l:=a) (i:=i) (by omega)
    have eb:=b9 (l:=b) (i:=k - i) (by omega)
    have ew:IntKind.i64.wrap ((k:Int) - (i:Int)) = ((k - i:Nat):Int):=by rw [IntWalk.i64_in _ (by omega)];omega
    simp -dsimp -implicitDefEqProofs only [go_sem,↓reduceIte,Tryz.f130,ea,eb,ew]
    refine ⟨fun _=>⟨by omega,by omega,?_⟩,fun q=>absurd (by omega) q⟩
    first | refine aG.mk (aV (a.getD i 0) (b.getD (k - i) 0) (ha.get i) (hb.get (k - i))) ?_ | refine aD.mk (aV (a.getD i 0) (b.getD (k - i) 0) (ha.get i) (hb.get (k - i))) ?_ | refine aG.a5 (aV (a.getD i 0) (b.getD (k - i) 0) (ha.get i) (hb.get (k - i))) ?_ | refine aD.mk (aX.cD (aV (a.getD i 0) (b.getD (k - i) 0) (ha.get i) (hb.get (k - i)))) ?_
    simp -dsimp -implicitDefEqProofs only [go_sem,↓reduceIte,Tryz.f130]
    first | refine aG.mk (eW (wR a b k i) (a.getD i 0 * b.getD (k - i) 0 % 1000003)) ?_ | refine aD.mk (eW (wR a b k i) (a.getD i 0 * b.getD (k - i) 0 % 1000003)) ?_ | refine aG.a5 (eW (wR a b k i) (a.getD i 0 * b.getD (k - i) 0 % 1000003)) ?_ | refine aD.mk (aX.cD (eW (wR a b k i) (a.getD i 0 * b.getD (k - i) 0 % 1000003))) ?_
    simp -dsimp -implicitDefEqProofs only [go_sem,↓reduceIte,Tryz.f130]
    refine ⟨i + 1,⟨?_,by rw [IntWalk.i64_in _ (by omega)];rfl⟩,by omega,by omega⟩
    rw [wR]
    omega
   ·have hi':i = k + 1:=by omega
    subst hi'
    simp -dsimp -implicitDefEqProofs only [go_sem,↓reduceIte,Tryz.f130,hlt]
    refine ⟨fun q=>absurd q (by omega),fun _=>?_⟩
    repeat' (with_reducible first | intro _ | refine And.intro ?_ ?_)
    all_goals try (first | omega | decide)
    rename_i b hb
    refine ⟨(k + 1,some b),?_⟩
    simp only [hy]
    refine ⟨⟨rfl,?_⟩,aA.le_refl _,⟨by omega,hb⟩,by omega⟩
    rw [IntWalk.i64_in _ (by omega)];rfl
  |some n =>
   rw [aU] at hos
   simp -dsimp -implicitDefEqProofs only [go_sem,↓reduceIte,Tryz.f130,aT,aK,hlt]
   intro _
   refine jM (keep:=aCL) (ib:=aQ8) (mk:=aQ9) mix (by kernel_rfl) (fun i:Nat=>[(0,ints a),(1,ints b),(5,.os n 1 0 ((mulL a b).take k).length),(6,I k),(7,I (wR a b k i)),(8,I i)]) (fun i=>i≤k + 1) (fun i=>k + 1 - i) 0 ⟨by simp [bU,bF,wR],Nat.zero_le _⟩ ?_
   intro i hi
   rcases Nat.lt_or_ge i (k + 1) with jO | aAP
   ·have ea:=b9 (l:=a) (i:=i) (by omega)
    have eb:=b9 (l:=b) (i:=k - i) (by omega)
    have ew:IntKind.i64.wrap ((k:Int) - (i:Int)) = ((k - i:Nat):Int):=by rw [IntWalk.i64_in _ (by omega)];omega
    simp -dsimp -implicitDefEqProofs only [go_sem,↓reduceIte,Tryz.f130,ea,eb,ew]
    refine ⟨fun _=>⟨by omega,by omega,?_⟩,fun q=>absurd (by omega) q⟩
    first | refine aG.mk (aV (a.getD i 0) (b.getD (k - i) 0) (ha.get i) (hb.get (k - i))) ?_ | refine aD.mk (aV (a.getD i 0) (b.getD (k - i) 0) (ha.get i) (hb.get (k - i))) ?_ | refine aG.a5 (aV (a.getD i 0) (b.getD (k - i) 0) (ha.get i) (hb.get (k - i))) ?_ | refine aD.mk (aX.cD (aV (a.getD i 0) (b.getD (k - i) 0) (ha.get i) (hb.get (k - i)))) ?_
    simp -dsimp -implicitDefEqProofs only [go_sem,↓reduceIte,Tryz.f130]
    first | refine aG.mk (eW (wR a b k i) (a.getD i 0 * b.getD (k - i) 0 % 1000003)) ?_ | refine aD.mk (eW (wR a b k i) (a.getD i 0 * b.getD (k - i) 0 % 1000003)) ?_ | refine aG.a5 (eW (wR a b k i) (a.getD i 0 * b.getD (k - i) 0 % 1000003)) ?_ | refine aD.mk (aX.cD (eW (wR a b k i) (a.getD i 0 * b.getD (k - i) 0 % 1000003))) ?_
    simp -dsimp -implicitDefEqProofs only [go_sem,↓reduceIte,Tryz.f130]
    refine ⟨i + 1,⟨?_,by rw [IntWalk.i64_in _ (by omega)];rfl⟩,by omega,by omega⟩
    rw [wR]
    omega
   ·have hi':i = k + 1:=by omega
    subst hi'
    simp -dsimp -implicitDefEqProofs only [go_sem,↓reduceIte,Tryz.f130,hlt]
    refine ⟨fun q=>absurd q (by omega),fun _=>?_⟩
    repeat' (with_reducible first | intro _ | refine And.intro ?_ ?_)
    all_goals try (first | omega | decide | exact Nat.le_refl _)
    rename_i b hb
    refine ⟨(k + 1,some b),?_⟩
    simp only [hy,aK,aT,aU]
    refine ⟨⟨by rw [List.length_append];rfl,?_⟩,?_,⟨by omega,hb.2⟩,by omega⟩
    ·rw [IntWalk.i64_in _ (by omega)];rfl
    ·rw [← dQ];exact iX hos
 ·have hk':k = a.length:=by omega
  subst hk'
  rw [List.take_of_length_le (by omega)] at hos ⊢
  cases o with
  |none =>
   rw [a6] at hos
   simp -dsimp -implicitDefEqProofs only [go_sem,↓reduceIte,Tryz.f130,a8,aP,Nat.lt_irrefl,Int.lt_irrefl]
   intro _
   rw [hos]
   exact Shift.of (Sub.loose _ _ _) (aA.le_refl _)
  |some n =>
   rw [aU] at hos
   simp -dsimp -implicitDefEqProofs only [go_sem,↓reduceIte,Tryz.f130,aT,aK,Nat.lt_irrefl,Int.lt_irrefl]
   intro _
   exact fS _ hos (aA.le_refl _) rfl
@[go_sem] def aCM:List Nat:=[0,1,4,5,6,7,8,9,18,27]
@[go_sem] def aRA:List Nat:=[10,47]
@[go_sem] def aRB:Marks:=fun id=>match id with | 10=>([4],(.op 0 (.op 1 (.op 2 (.op 3 (.op 5 (.op 6 (.op 7 (.op 8 (.op 9 (.op 10 (.op 4 (.op 11 (.op 12 (.op 13 .nil)))))))))))))),[]) | _=>([],.nil,[])
theorem aAS (a b:List Int) (hab:b.length = a.length) (hl:a.length≤1048576) (h0:0 < a.length) (ha:hH a) (hb:hH b):dI Tryz.prog 132 [ints a,ints b] (ints (gH a b)):=by
 have hc:=oW a b
 have e0:b[Int.toNat 0]? = some (b.getD 0 0):=b9 (l:=b) (i:=0) (by omega)
 refine j7 50 aCM aRA aRB mix Tryz.func132 rfl (by kernel_rfl) (by simp) fun h=>?_
 simp -dsimp -implicitDefEqProofs only [go_sem,↓reduceIte,Tryz.f132,e0]
 refine ⟨Nat.zero_lt_one,by omega,?_⟩
 first | refine aG.mk (mD (b.getD 0 0)) ?_ | refine aD.mk (mD (b.getD 0 0)) ?_ | refine aG.a5 (mD (b.getD 0 0)) ?_ | refine aD.mk (aX.cD (mD (b.getD 0 0))) ?_
 simp -dsimp -implicitDefEqProofs only [go_sem,↓reduceIte,Tryz.f132]
 refine bQ (keep:=aCM) (ib:=aRA) (mk:=aRB) mix (by kernel_rfl) (fun x:Nat × Option Nat=>[(0,ints a),(1,ints b),(6,I (gG (b.getD 0 0))),(5,eU 1 ((gH a b).take x.1).length x.2),(7,I x.1)]) (fun x=>gB h (.row 1 ((((gH a b).take x.1).map fun n=>[I n]).map (List.map .v))) x.2) (fun x=>x.1≤a.length∧eF h ((gH a b).take x.1) x.2) (fun x=>a.length - x.1) (0,none) ⟨by simp [bU,bF,eU],by simp only [aP];exact aA.le_refl _,Nat.zero_le _,by simp [eF]⟩ ?_
 rintro ⟨k,o⟩ ⟨hk,hos⟩
 simp only at hk hos ⊢
 rcases Nat.lt_or_ge k a.length with hlt | hge
 ·have hy:(gH a b).take (k + 1) = (gH a b).take k ++ [(gH a b)[k]'(by omega)]:=List.take_succ_eq_append_getElem (by omega)
  have hv:=y5 (a:=a) (b:=b) hlt
  have hlk:((gH a b).take k).length = k:=by rw [List.length_take];omega
  have ek:=b9 hlt
  rw [hv] at hy
  cases o with
  |none =>
   rw [a6] at hos
   rw [hos] at hy ⊢
   have hk0:k = 0:=by rw [hos] at hlk;exact hlk.symm
   subst hk0
   simp -dsimp -implicitDefEqProofs only [go_sem,↓reduceIte,Tryz.f132,a8,aP,hlt,ek]
   intro _
   refine jM (keep:=aCM) (ib:=aRA) (mk:=aRB) mix (by kernel_rfl) (fun _:Unit=>[(0,ints a),(1,ints b),(5,.sl 1 [] true),(6,I (gG (b.getD 0 0))),(7,I (0:Nat)),(8,I (a.getD 0 0)),(9,I (0:Nat))]) (fun _=>True) (fun _=>0) () ⟨by simp [bU,bF],trivial⟩ ?_
   intro _ _
   simp -dsimp -implicitDefEqProofs only [go_sem,↓reduceIte,Tryz.f132,Nat.lt_irrefl,Int.lt_irrefl]
   try (refine ⟨fun q=>absurd q (by omega),fun _=>?_⟩)
   first | refine aG.mk (aV (a.getD 0 0) (gG (b.getD 0 0)) (ha.get 0) (num_inv _)) ?_ | refine aD.mk (aV (a.getD 0 0) (gG (b.getD 0 0)) (ha.get 0) (num_inv _)) ?_ | refine aG.a5 (aV (a.getD 0 0) (gG (b.getD 0 0)) (ha.get 0) (num_inv _)) ?_ | refine aD.mk (aX.cD (aV (a.getD 0 0) (gG (b.getD 0 0)) (ha.get 0) (num_inv _))) ?_
   simp -dsimp -implicitDefEqProofs only [go_sem,↓reduceIte,Tryz.f132]
   repeat' (with_reducible first | intro _ | refine And.intro ?_ ?_)
   all_goals try (first | omega | decide)
   rename_i b hb
   refine ⟨(0 + 1,some b),?_⟩
   simp only [hy]
   refine ⟨⟨rfl,?_⟩,aA.le_refl _,⟨by omega,hb⟩,by omega⟩
   rw [IntWalk.i64_in _ (by omega)];rfl
  |some n =>
   rw [aU] at hos
   simp -dsimp -implicitDefEqProofs only [go_sem,↓reduceIte,Tryz.f132,aT,aK,hlt,ek]
   intro _
   have htk:(gH a b).take k = iW a b k:=wF a b _ hk
   refine jM (keep:=aCM) (ib:=aRA) (mk:=aRB) mix (by kernel_rfl) (fun i:Nat=>[(0,ints a),(1,ints b),(5,.os n 1 0 ((gH a b).take k).length),(6,I (gG (b.getD 0 0))),(7,I k),(8,I (dvS (iW a b k) b k (a.getD k 0) i)),(9,I i)]) (fun i=>i≤k) (fun i=>k - i) 0 ⟨by simp [bU,bF,dvS],Nat.zero_le _⟩ ?_
   intro i hi
   rcases Nat.lt_or_ge i k with jO | aAP
   ·have ei:((gH a b).take k)[i]? = some ((iW a b k).getD i 0):=by rw [htk];exact b9 (by rw [mG];exact jO)
    have eb:=b9 (l:=b) (i:=k - i) (by omega)
    have ew:IntKind.i64.wrap ((k:Int) - (i:Int)) = ((k - i:Nat):Int):=by rw [IntWalk.i64_in _ (by omega)];omega
    simp -dsimp -implicitDefEqProofs only [go_sem,↓reduceIte,Tryz.f132,jO,ei,eb,ew]
    refine ⟨by omega,by omega,?_⟩
    first | refine aG.mk (aV ((iW a b k).getD i 0) (b.getD (k - i) 0) ((qF a b k).get i) (hb.get (k - i))) ?_ | refine aD.mk (aV ((iW a b k).getD i 0) (b.getD (k - i) 0) ((qF a b k).get i) (hb.get (k - i))) ?_ | refine aG.a5 (aV ((iW a b k).getD i 0) (b.getD (k - i) 0) ((qF a b k).get i) (hb.get (k - i))) ?_ | refine aD.mk (aX.cD (aV ((iW a b k).getD i 0) (b.getD (k - i) 0) ((qF a b k).get i) (hb.get (k - i)))) ?_
    simp -dsimp -implicitDefEqProofs only [go_sem,↓reduceIte,Tryz.f132]
    first | refine aG.mk (kI (dvS (iW a b k) b k (a.getD k 0) i) ((iW a b k).getD i 0 * b.getD (k - i) 0 % 1000003) (tH _ _ _ (ha.get k) i) (c7 _)) ?_ | refine aD.mk (kI (dvS (iW a b k) b k (a.getD k 0) i) ((iW a b k).getD i 0 * b.getD (k - i) 0 % 1000003) (tH _ _ _ (ha.get k) i) (c7 _)) ?_ | refine aG.a5 (kI (dvS (iW a b k) b k (a.getD k 0) i) ((iW a b k).getD i 0 * b.getD (k - i) 0 % 1000003) (tH _ _ _ (ha.get k) i) (c7 _)) ?_ | refine aD.mk (aX.cD (kI (dvS (iW a b k) b k (a.getD k 0) i) ((iW a b k).getD i 0 * b.getD (k - i) 0 % 1000003) (tH _ _ _ (ha.get k) i) (c7 _))) ?_
    simp -dsimp -implicitDefEqProofs only [go_sem,↓reduceIte,Tryz.f132]
    refine ⟨i + 1,⟨?_,by rw [IntWalk.i64_in _ (by omega)];rfl⟩,by omega,by omega⟩
    rw [dvS]
    omega
   ·have hi':i = k:=by omega
    subst hi'
    simp -dsimp -implicitDefEqProofs only [go_sem,↓reduceIte,Tryz.f132,Nat.lt_irrefl,Int.lt_irrefl]
    first | refine aG.mk (aV (dvS (iW a b i) b i (a.getD i 0) i) (gG (b.getD 0 0)) (tH _ _ _ (ha.get i) i) (num_inv _)) ?_ | refine aD.mk (aV (dvS (iW a b i) b i (a.getD i 0) i) (gG (b.getD 0 0)) (tH _ _ _ (ha.get i) i) (num_inv _)) ?_ | refine aG.a5 (aV (dvS (iW a b i) b i (a.getD i 0) i) (gG (b.getD 0 0)) (tH _ _ _ (ha.get i) i) (num_inv _)) ?_ | refine aD.mk (aX.cD (aV (dvS (iW a b i) b i (a.getD i 0) i) (gG (b.getD 0 0)) (tH _ _ _ (ha.get i) i) (num_inv _))) ?_
    simp -dsimp -implicitDefEqProofs only [go_sem,↓reduceIte,Tryz.f132]
    repeat' (with_reducible first | intro _ | refine And.intro ?_ ?_)
    all_goals try (first | omega | decide | exact Nat.le_refl _)
    rename_i b hb
    refine ⟨(i + 1,some b),?_⟩
    simp only [hy,aK,aT,aU]
    refine ⟨⟨by rw [List.length_append];rfl,?_⟩,?_,⟨by omega,hb.2⟩,by omega⟩
    ·rw [IntWalk.i64_in _ (by omega)];rfl
    ·rw [← dQ];exact iX hos
 ·have hk':k = a.length:=by omega
  subst hk'
  rw [List.take_of_length_le (by omega)] at hos ⊢
  cases o with
  |none =>
   rw [a6] at hos
   simp -dsimp -implicitDefEqProofs only [go_sem,↓reduceIte,Tryz.f132,a8,aP,Nat.lt_irrefl,Int.lt_irrefl]
   intro _
   rw [hos]
   exact Shift.of (Sub.loose _ _ _) (aA.le_refl _)
  |some n =>
   rw [aU] at hos
   simp -dsimp -implicitDefEqProofs only [go_sem,↓reduceIte,Tryz.f132,aT,aK,Nat.lt_irrefl,Int.lt_irrefl]
   intro _
   exact fS _ hos (aA.le_refl _) rfl
theorem m5 {h h':aA} {n:Nat} (l:List (List Int)) (h0:h n = none) (hl:(a7 h n (.row 1 ((l.map fun s=>[ints s]).map (List.map .v)))).le h') {len:Nat} (e:len = l.length):Shift (.os n 1 0 len) h' (cY 1 (fun s=>[ints s]) l) h :=
 oC (l.map fun s=>[ints s]) h0 hl len (by rw [List.length_map];exact e)
@[go_sem] def a2N:List Nat:=[7,19,23]
theorem aIQ (env:List (List Int)) (s:List Int) (hl:env.length≤1048576):dI Tryz.prog 214 [cY 1 (fun s=>[ints s]) env,ints s] (cY 1 (fun s=>[ints s]) (env ++ [s])):=by
 refine j7 25 aBM a2N bC mix Tryz.func214 rfl (by kernel_rfl) (by simp) fun h=>?_
 simp -dsimp -implicitDefEqProofs only [go_sem,↓reduceIte,Tryz.f214]
 refine ⟨Nat.zero_lt_one,?_⟩
 refine bQ (keep:=aBM) (ib:=a2N) (mk:=bC) mix (by kernel_rfl) (fun x:Nat × Option Nat=>[(0,cY 1 (fun s=>[ints s]) env),(1,ints s),(5,eU 1 (env.take x.1).length x.2),(6,I x.1)]) (fun x=>gB h (.row 1 (((env.take x.1).map fun s=>[ints s]).map (List.map .v))) x.2) (fun x=>x.1≤env.length∧eF h (env.take x.1) x.2) (fun x=>env.length - x.1) (0,none) ⟨by simp [bU,bF,eU],by simp only [aP];exact aA.le_refl _,Nat.zero_le _,by simp [eF]⟩ ?_
 rintro ⟨k,o⟩ ⟨hk,hos⟩
 simp only at hk hos ⊢
 rcases Nat.lt_or_ge k env.length with hlt | hge
 ·have ea:env[k]? = some env[k]:=List.getElem?_eq_getElem hlt
  have hy:env.take (k + 1) = env.take k ++ [env[k]]:=List.take_succ_eq_append_getElem hlt
  have hlk:(env.take k).length = k:=by rw [List.length_take];omega
  cases o with
  |none =>
   rw [a6] at hos
   rw [hos] at hy ⊢
   simp -dsimp -implicitDefEqProofs only [go_sem,↓reduceIte,Tryz.f214,a8,aP,hlt,ea]
   intro _
   repeat' (with_reducible first | intro _ | refine And.intro ?_ ?_)
   all_goals try (first | omega | decide)
   rename_i b hb
   refine ⟨(k + 1,some b),?_⟩
   simp only [hy]
   refine ⟨⟨rfl,?_⟩,aA.le_refl _,⟨by omega,hb⟩,by omega⟩
   rw [IntWalk.i64_in _ (by omega)];rfl
  |some n =>
   rw [aU] at hos
   simp -dsimp -implicitDefEqProofs only [go_sem,↓reduceIte,Tryz.f214,aT,aK,hlt,ea]
   intro _
   repeat' (with_reducible first | intro _ | refine And.intro ?_ ?_)
   all_goals try (first | omega | decide | exact Nat.le_refl _)
   rename_i b hb
   refine ⟨(k + 1,some b),?_⟩
   simp only [hy,aK,aT,aU]
   refine ⟨⟨by rw [List.length_append];rfl,?_⟩,?_,⟨by omega,hb.2⟩,by omega⟩
   ·rw [IntWalk.i64_in _ (by omega)];rfl
   ·rw [← dQ];exact iX hos
 ·have hk':k = env.length:=by omega
  subst hk'
  rw [List.take_length] at hos ⊢
  cases o with
  |none =>
   rw [a6] at hos
   simp -dsimp -implicitDefEqProofs only [go_sem,↓reduceIte,Tryz.f214,a8,aP,Nat.lt_irrefl,Int.lt_irrefl]
   subst hos
   exact fun _=>⟨Nat.zero_lt_one,Nat.zero_lt_one,Nat.zero_lt_one,fun n hn=>m5 [s] hn (aA.le_refl _) rfl⟩
  |some n =>
   rw [aU] at hos
   simp -dsimp -implicitDefEqProofs only [go_sem,↓reduceIte,Tryz.f214,aT,aK,Nat.lt_irrefl,Int.lt_irrefl]
   exact fun _=>⟨Nat.zero_lt_one,Nat.zero_lt_one,Nat.zero_lt_one,Nat.le_refl _,by omega,by omega,fun m hm=>m5 (env ++ [s]) hm.2 (by rw [← dQ];exact iX hos) (by rw [List.length_append];rfl)⟩
def dK (p:aE) (sz st:Nat) (c:Int):bH:=.row 4 [[.v (.ip 1 [p.c] 0 0),.v (I sz),.v (I st),.v (I c)]]
def RnQ (h:aA) (nb:Nat) (p:aE) (sz st:Nat) (c:Int) (X:Out (List Int)):aC→aA→Prop:=fun r h'=>∃ s t c',r = ints s∧h' = a7 h nb (dK p sz t c')∧bD sz s∧st≤t∧t≤3000∧j9 (oE c X) s t c'
def bFA (h:aA) (nb:Nat) (p:aE) (sz st:Nat) (c:Int) (n:Nat) (X:Out (List (List Int))):aC→aA→Prop:=fun r h'=>∃ l t c',r = bB l∧h' = a7 h nb (dK p sz t c')∧l.length = n∧(∀ s∈l,bD sz s)∧st≤t∧t≤3000∧j9 (oE c X) l t c'
@[go_sem] def aZL:List Nat:=[0,1,4,9]
theorem aRC (h:aA) (nb:Nat) (p:aE) (sz st:Nat) (c d:Int) (hb:h nb = some (dK p sz st c)) (hsz:sz≤1048576):fE Tryz.prog 213 [.op nb 4 0 0,I d] h fun r h'=>r = ints (bJ 0 sz)∧h' = a7 h nb (dK p sz st (if c = 0 then d else c)):=by
 have hb':=hb
 unfold dK at hb'
 refine yP 19 aZL bM bC mix Tryz.func213 rfl (by kernel_rfl) (by simp) ?_
 simp -dsimp -implicitDefEqProofs only [go_sem,↓reduceIte,Tryz.f213,hb']
 refine ⟨fun hc=>?_,fun hc=>?_⟩
 ·try simp -dsimp -implicitDefEqProofs only [go_sem,↓reduceIte,Tryz.f213]
  first | refine aG.mk (dR 0 sz hsz) ?_ | refine aD.mk (dR 0 sz hsz) ?_ | refine aG.a5 (dR 0 sz hsz) ?_ | refine aD.mk (aX.cD (dR 0 sz hsz)) ?_
  simp -dsimp -implicitDefEqProofs only [go_sem,↓reduceIte,Tryz.f213]
  exact ⟨_,by rw [if_pos hc];exact aA.le_refl _,rfl⟩
 ·try simp -dsimp -implicitDefEqProofs only [go_sem,↓reduceIte,Tryz.f213,hb']
  first | refine aG.mk (dR 0 sz hsz) ?_ | refine aD.mk (dR 0 sz hsz) ?_ | refine aG.a5 (dR 0 sz hsz) ?_ | refine aD.mk (aX.cD (dR 0 sz hsz)) ?_
  simp -dsimp -implicitDefEqProofs only [go_sem,↓reduceIte,Tryz.f213]
  refine ⟨_,?_,rfl⟩
  rw [if_neg hc,sB hb]
  exact aA.le_refl _
@[go_sem] def mL:List Nat:=[0,1,2,6,7,8,9,14,25,38,39,50,59,70,82,99,119,142,151,160,169]
@[go_sem] def uH:Marks:=fun id=>match id with | 8=>([7,8],(.op 0 (.op 1 (.op 2 (.op 3 (.op 4 (.op 5 (.op 6 (.op 7 (.op 8 (.op 9 .nil)))))))))),[]) | 19=>([8,9],(.op 0 (.op 1 (.op 2 (.op 3 (.op 4 (.op 5 (.op 6 (.op 7 (.op 8 (.op 9 (.op 10 .nil))))))))))),[]) | _=>([],.nil,[])
def oY (p:aE) (sz n:Nat):Prop:=∀ (h:aA) (nb st:Nat) (c:Int) (e:aB) (env:List (List Int)) (funcs:Int),h nb = some (dK p sz st c)→st≤3000→3001≤n + st→e.ok p funcs env.length→0≤funcs→funcs≤p.aJ.length→(∀ s∈env,bD sz s)→env.length≤412 + st →
 fE Tryz.prog 191 [.op nb 4 0 0,.ip 5 [e.c] 0 0,bB env] h (RnQ h nb p sz st c (jD p sz n st e env))
theorem a4Y {l:List aB} {k:Nat} {x:aB} (h:l[k]? = some x) (i:Nat) (hi:i = k):Sub (.ip 5 (l.map aB.c) i 0) (.ip 5 [x.c] 0 0):=by
 subst hi
 exact Sub.ip (by rw [List.getElem?_map,h];rfl) (by simp)
theorem oY.at {p:aE} {sz n:Nat} (hv:oY p sz n) {l:List aB} {i:Nat} {e:aB} (hi:l[i]? = some e) (h:aA) (nb st:Nat) (c:Int) (env:List (List Int)) (funcs:Int) (hb:h nb = some (dK p sz st c)) (hst:st≤3000) (hn:3001≤n + st) (hok:e.ok p funcs env.length) (eM:0≤funcs) (hf:funcs≤p.aJ.length) (henv:∀ s∈env,bD sz s) (hel:env.length≤412 + st) :
  fE Tryz.prog 191 [.op nb 4 0 0,.ip 5 (l.map aB.c) i 0,bB env] h (RnQ h nb p sz st c (jD p sz n st e env)) :=
 fE.sub (.cons (.refl _) (.cons (a4Y hi _ rfl) (.cons (.refl _) .nil))) (hv h nb st c e env funcs hb hst hn hok eM hf henv hel)
theorem aRD {p:aE} {sz n:Nat} (hv:oY p sz n) (h:aA) (nb st:Nat) (c:Int) (f:aS) (env:List (List Int)) (funcs:Int) (hb:h nb = some (dK p sz st c)) (hst:st≤3000) (hn:3001≤n + st)
  (hl:f.aL.length≤1048576) (hok:∀ e∈f.aL,e.ok p funcs env.length) (eM:0≤funcs) (hf:funcs≤p.aJ.length) (henv:∀ s∈env,bD sz s) (hel:env.length≤412 + st) :
  fE Tryz.prog 146 [.op nb 4 0 0,.ip 3 [f.c] 0 0,bB env] h (bFA h nb p sz st c f.aL.length (lP (fun t e=>jD p sz n t e env) f.aL st)):=by
 rw [aS.aQ]
 refine iY 32 aQK aQL bC mix Tryz.func146 rfl (by kernel_rfl) (by simp) ?_
 simp -dsimp -implicitDefEqProofs only [go_sem,↓reduceIte,Tryz.f146]
 refine ⟨Nat.zero_lt_one,?_⟩
 refine bQ (keep:=aQK) (ib:=aQL) (mk:=bC) mix (by kernel_rfl) (fun x:Nat × List (List Int) × Nat × Int × Option Nat=>[(0,.op nb 4 0 0),(1,.ip 3 [[.str f.iA,I f.a9,cY 5 aB.c f.aL]] 0 0),(2,bB env),(7,eU 1 x.2.1.length x.2.2.2.2),(8,I x.1)]) (fun x=>gB (a7 h nb (dK p sz x.2.2.1 x.2.2.2.1)) (.row 1 ((x.2.1.map fun s=>[ints s]).map (List.map .v))) x.2.2.2.2) (fun x=>x.1≤f.aL.length∧x.2.1.length = x.1∧(∀ s∈x.2.1,bD sz s)∧st≤x.2.2.1∧x.2.2.1≤3000∧j9 (oE c (lP (fun t e=>jD p sz n t e env) (f.aL.take x.1) st)) x.2.1 x.2.2.1 x.2.2.2.1∧eF h x.2.1 x.2.2.2.2) (fun x=>f.aL.length - x.1) (0,[],st,c,none) ⟨by simp [bU,bF,eU],by simp only [aP];rw [sB hb];exact aA.le_refl _,Nat.zero_le _,rfl,by simp,Nat.le_refl _,hst,gX _ _ _,rfl⟩ ?_
 rintro ⟨k,vs,t,c',o⟩ ⟨hk,hvl,hvs,ht0,ht,ho,hos⟩
 simp only at hk hvl hvs ht0 ht ho hos ⊢
 rcases Nat.lt_or_ge k f.aL.length with hlt | hge
 ·have ek:f.aL[k]? = some f.aL[k]:=List.getElem?_eq_getElem hlt
  have hnext:∀ (s:List Int) (t2:Nat) (c2:Int),j9 (oE c' (jD p sz n t f.aL[k] env)) s t2 c2→j9 (oE c (lP (fun t e=>jD p sz n t e env) (f.aL.take (k + 1)) st)) (vs ++ [s]) t2 c2:=fun s t2 c2 h3=>by
   rw [List.take_succ_eq_append_getElem hlt,wC]
   exact ho.eY (h3.eY (gX _ _ _))
  have hall:∀ s,bD sz s→∀ x∈vs ++ [s],bD sz x:=fun s hs=>tI hvs hs
  cases o with
  |none =>
   rw [a6] at hos
   subst hos
   simp -dsimp -implicitDefEqProofs only [go_sem,↓reduceIte,Tryz.f146,a8,aP,hlt,ek]
   intro _
   refine aG.gQ (hv.at ek (a7 h nb (dK p sz t c')) nb t c' env funcs (aH _ _ _) ht (by omega) (hok _ (List.getElem_mem _)) eM hf henv (by omega)) ?_
   rintro r h' ⟨s,t2,c2,rfl,rfl,hs,h1,h2,h3⟩
   simp -dsimp -implicitDefEqProofs only [go_sem,↓reduceIte,Tryz.f146]
   refine ⟨Nat.zero_lt_one,Nat.zero_lt_one,Nat.zero_lt_one,?_⟩
   intro b bA
   have bV:¬ b = nb:=by first | exact bA.1 | exact bA | exact bA.2.1 | exact bA.2 | exact bA.2.2.1 | exact bA.2.2 | exact bA.2.2.2.1 | exact bA.2.2.2 | exact bA.2.2.2.2.1 | exact bA.2.2.2.2 | exact bA.2.2.2.2.2.1 | exact bA.2.2.2.2.2 | exact bA.2.2.2.2.2.2.1 | exact bA.2.2.2.2.2.2 | exact bA.2.2.2.2.2.2.2.1 | exact bA.2.2.2.2.2.2.2 | exact bA.2.2.2.2.2.2.2.2.1 | exact bA.2.2.2.2.2.2.2.2 | exact bA.2.2.2.2.2.2.2.2.2.1 | exact bA.2.2.2.2.2.2.2.2.2 | exact bA.2.2.2.2.2.2.2.2.2.2.1 | exact bA.2.2.2.2.2.2.2.2.2.2 | exact bA.2.2.2.2.2.2.2.2.2.2.2.1 | exact bA.2.2.2.2.2.2.2.2.2.2.2 | exact bA.2.2.2.2.2.2.2.2.2.2.2.2.1 | exact bA.2.2.2.2.2.2.2.2.2.2.2.2 | exact bA.2.2.2.2.2.2.2.2.2.2.2.2.2.1 | exact bA.2.2.2.2.2.2.2.2.2.2.2.2.2
   have cT:(b = nb) = False:=eq_false bV
   have cU:(nb = b) = False:=eq_false (Ne.symm bV)
   have dS:¬ nb = b:=Ne.symm bV
   have z_b:h b = none:=by first | exact bA.1 | exact bA | exact bA.2.1 | exact bA.2 | exact bA.2.2.1 | exact bA.2.2 | exact bA.2.2.2.1 | exact bA.2.2.2 | exact bA.2.2.2.2.1 | exact bA.2.2.2.2 | exact bA.2.2.2.2.2.1 | exact bA.2.2.2.2.2 | exact bA.2.2.2.2.2.2.1 | exact bA.2.2.2.2.2.2 | exact bA.2.2.2.2.2.2.2.1 | exact bA.2.2.2.2.2.2.2 | exact bA.2.2.2.2.2.2.2.2.1 | exact bA.2.2.2.2.2.2.2.2 | exact bA.2.2.2.2.2.2.2.2.2.1 | exact bA.2.2.2.2.2.2.2.2.2 | exact bA.2.2.2.2.2.2.2.2.2.2.1 | exact bA.2.2.2.2.2.2.2.2.2.2 | exact bA.2.2.2.2.2.2.2.2.2.2.2.1 | exact bA.2.2.2.2.2.2.2.2.2.2.2 | exact bA.2.2.2.2.2.2.2.2.2.2.2.2.1 | exact bA.2.2.2.2.2.2.2.2.2.2.2.2 | exact bA.2.2.2.2.2.2.2.2.2.2.2.2.2.1 | exact bA.2.2.2.2.2.2.2.2.2.2.2.2.2
   refine ⟨(k + 1,[s],t2,c2,some b),⟨rfl,by rw [IntWalk.i64_in _ (by omega)];rfl⟩,(lL (by repeat' (first | exact jN _ _ | refine lM (by simp only [dX,↓reduceIte,eq_self,if_true,cU,cT,List.map_cons,List.map_nil]) ?_ | refine iG (by first | exact .inr (by assumption) | exact .inl (by simp)) ?_))),⟨by omega,by simp only [List.length_nil] at hvl;subst hvl;rfl,fun x hx=>hall s hs x hx,Nat.le_trans ht0 h1,h2,hnext s t2 c2 h3,z_b⟩,by simp only;omega⟩
  |some m =>
   rw [aU] at hos
   have eI:¬ m = nb:=fun e=>by rw [e,hb] at hos;cases hos
   have dM:¬ nb = m:=Ne.symm eI
   have dY:(m = nb) = False:=eq_false eI
   have dZ:(nb = m) = False:=eq_false dM
   simp -dsimp -implicitDefEqProofs only [go_sem,↓reduceIte,Tryz.f146,aT,aK,hlt,ek]
   intro _
   refine aG.gQ (hv.at ek (a7 (a7 h nb (dK p sz t c')) m (.row 1 ((vs.map fun s=>[ints s]).map (List.map .v)))) nb t c' env funcs (by rw [aF _ _ _ _ dM,aH]) ht (by omega) (hok _ (List.getElem_mem _)) eM hf henv (by omega)) ?_
   rintro r h' ⟨s,t2,c2,rfl,rfl,hs,h1,h2,h3⟩
   simp -dsimp -implicitDefEqProofs only [go_sem,↓reduceIte,Tryz.f146,aF,dY,dZ]
   refine ⟨Nat.zero_lt_one,Nat.zero_lt_one,Nat.zero_lt_one,Nat.le_refl _,by omega,by omega,?_⟩
   intro b bA
   have bV:¬ b = nb:=by first | exact bA.1 | exact bA | exact bA.2.1 | exact bA.2 | exact bA.2.2.1 | exact bA.2.2 | exact bA.2.2.2.1 | exact bA.2.2.2 | exact bA.2.2.2.2.1 | exact bA.2.2.2.2 | exact bA.2.2.2.2.2.1 | exact bA.2.2.2.2.2 | exact bA.2.2.2.2.2.2.1 | exact bA.2.2.2.2.2.2 | exact bA.2.2.2.2.2.2.2.1 | exact bA.2.2.2.2.2.2.2 | exact bA.2.2.2.2.2.2.2.2.1 | exact bA.2.2.2.2.2.2.2.2 | exact bA.2.2.2.2.2.2.2.2.2.1 | exact bA.2.2.2.2.2.2.2.2.2 | exact bA.2.2.2.2.2.2.2.2.2.2.1 | exact bA.2.2.2.2.2.2.2.2.2.2 | exact bA.2.2.2.2.2.2.2.2.2.2.2.1 | exact bA.2.2.2.2.2.2.2.2.2.2.2 | exact bA.2.2.2.2.2.2.2.2.2.2.2.2.1 | exact bA.2.2.2.2.2.2.2.2.2.2.2.2 | exact bA.2.2.2.2.2.2.2.2.2.2.2.2.2.1 | exact bA.2.2.2.2.2.2.2.2.2.2.2.2.2
   have cT:(b = nb) = False:=eq_false bV
   have cU:(nb = b) = False:=eq_false (Ne.symm bV)
   have dS:¬ nb = b:=Ne.symm bV
   have gU:¬ b = m:=by first | exact bA.1 | exact bA | exact bA.2.1 | exact bA.2 | exact bA.2.2.1 | exact bA.2.2 | exact bA.2.2.2.1 | exact bA.2.2.2 | exact bA.2.2.2.2.1 | exact bA.2.2.2.2 | exact bA.2.2.2.2.2.1 | exact bA.2.2.2.2.2 | exact bA.2.2.2.2.2.2.1 | exact bA.2.2.2.2.2.2 | exact bA.2.2.2.2.2.2.2.1 | exact bA.2.2.2.2.2.2.2 | exact bA.2.2.2.2.2.2.2.2.1 | exact bA.2.2.2.2.2.2.2.2 | exact bA.2.2.2.2.2.2.2.2.2.1 | exact bA.2.2.2.2.2.2.2.2.2 | exact bA.2.2.2.2.2.2.2.2.2.2.1 | exact bA.2.2.2.2.2.2.2.2.2.2 | exact bA.2.2.2.2.2.2.2.2.2.2.2.1 | exact bA.2.2.2.2.2.2.2.2.2.2.2 | exact bA.2.2.2.2.2.2.2.2.2.2.2.2.1 | exact bA.2.2.2.2.2.2.2.2.2.2.2.2 | exact bA.2.2.2.2.2.2.2.2.2.2.2.2.2.1 | exact bA.2.2.2.2.2.2.2.2.2.2.2.2.2
   have k5:(b = m) = False:=eq_false gU
   have k6:(m = b) = False:=eq_false (Ne.symm gU)
   have j5:¬ m = b:=Ne.symm gU
   have z_b:h b = none:=by first | exact bA.1 | exact bA | exact bA.2.1 | exact bA.2 | exact bA.2.2.1 | exact bA.2.2 | exact bA.2.2.2.1 | exact bA.2.2.2 | exact bA.2.2.2.2.1 | exact bA.2.2.2.2 | exact bA.2.2.2.2.2.1 | exact bA.2.2.2.2.2 | exact bA.2.2.2.2.2.2.1 | exact bA.2.2.2.2.2.2 | exact bA.2.2.2.2.2.2.2.1 | exact bA.2.2.2.2.2.2.2 | exact bA.2.2.2.2.2.2.2.2.1 | exact bA.2.2.2.2.2.2.2.2 | exact bA.2.2.2.2.2.2.2.2.2.1 | exact bA.2.2.2.2.2.2.2.2.2 | exact bA.2.2.2.2.2.2.2.2.2.2.1 | exact bA.2.2.2.2.2.2.2.2.2.2 | exact bA.2.2.2.2.2.2.2.2.2.2.2.1 | exact bA.2.2.2.2.2.2.2.2.2.2.2 | exact bA.2.2.2.2.2.2.2.2.2.2.2.2.1 | exact bA.2.2.2.2.2.2.2.2.2.2.2.2 | exact bA.2.2.2.2.2.2.2.2.2.2.2.2.2.1 | exact bA.2.2.2.2.2.2.2.2.2.2.2.2.2
   refine ⟨(k + 1,vs ++ [s],t2,c2,some b),⟨by rw [aT,List.length_append];rfl,by rw [IntWalk.i64_in _ (by omega)];rfl⟩,?_,⟨by omega,by rw [List.length_append,hvl];rfl,hall s hs,Nat.le_trans ht0 h1,h2,hnext s t2 c2 h3,z_b⟩,by simp only;omega⟩
   simp only [aK]
   rw [← dQ ints]
   exact (lL (by repeat' (first | exact jN _ _ | refine lM (by simp only [dX,↓reduceIte,eq_self,if_true,cU,dZ,cT,k5,dY,k6]) ?_ | refine iG (by first | exact .inr (by assumption) | exact .inl (by simp)) ?_)))
 ·have hk':k = f.aL.length:=by omega
  subst hk'
  rw [List.take_length] at ho
  cases o with
  |none =>
   rw [a6] at hos
   subst hos
   simp -dsimp -implicitDefEqProofs only [go_sem,↓reduceIte,Tryz.f146,a8,aP,Nat.lt_irrefl,Int.lt_irrefl]
   intro _
   exact ⟨bB [],_,Shift.of (Sub.loose _ _ _) (aA.le_refl _),[],t,c',rfl,rfl,hvl,hvs,ht0,ht,ho⟩
  |some m =>
   rw [aU] at hos
   simp -dsimp -implicitDefEqProofs only [go_sem,↓reduceIte,Tryz.f146,aT,aK,Nat.lt_irrefl,Int.lt_irrefl]
   intro _
   have hmn:¬ m = nb:=fun e=>by rw [e,hb] at hos;cases hos
   exact ⟨bB vs,_,oC (vs.map fun s=>[ints s]) (h:=a7 h nb (dK p sz t c')) (by rw [aF _ _ _ _ hmn,hos]) (aA.le_refl _) _ (by rw [List.length_map]),vs,t,c',rfl,rfl,hvl,hvs,ht0,ht,ho⟩
end Go.Hl

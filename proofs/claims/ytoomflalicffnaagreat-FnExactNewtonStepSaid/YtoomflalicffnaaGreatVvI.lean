/-
  Contracts of functions and laws of the layer over the walk.
-/
import Derived.Test.YtoomflalicffnaaGreatVvH
import Derived.Test.YtoomflalicffnaaGreatVvD
import Derived.Test.YtoomflalicffnaaGreatVvA
namespace Go.Hl
set_option maxRecDepth 100000
open Go.Proofs
set_option linter.unusedVariables false
set_option linter.unusedSimpArgs false
theorem aB3 (l:List aB) (hk:∀ x∈l,aGV Tryz.prog 143 (OS aB.o 5 x.aI)):aGV Tryz.prog 143 (OS aB.o 5 l):=by
 intro y k h hy h0 h1 ho nd
 rcases hy with ⟨rfl,hl⟩ | ⟨n,es,rfl,hor⟩
 ·rw [OV.xL,OV.kZ,OV.vI,OV.yR]
  refine yP 48 tA bM bC mix Tryz.func143 rfl (by kernel_rfl) (by simp) ?_
  simp -dsimp -implicitDefEqProofs only [go_sem,↓reduceIte,Tryz.f143]
  refine bQ (keep:=tA) (ib:=bM) (mk:=bC) mix (by kernel_rfl) (fun _:Unit=>[(0,.sl 5 [] true),(1,I k),(5,I 0)]) (fun _=>h) (fun _=>True) (fun _=>0) () (by simp [bU,bF,aA.le_refl]) ?_
  intro _ _
  simp -dsimp -implicitDefEqProofs only [go_sem,↓reduceIte,Tryz.f143,oA,Int.lt_irrefl]
  try intro _
  refine ⟨h,aA.le_refl _,?_⟩
  first | exact o6.refl (by simp [fR]) | exact ⟨by simp,o6.refl (by simp [fR])⟩
 ·rw [OV.aD5,OV.cK,OV.cK,OV.q8,OV.nJ]
  rw [OV.q8] at h1
  rw [OV.cK] at ho nd
  generalize hL0:(n,bH.row 5 (OV.cells es)) :: OV.bG es = L0 at nd ⊢
  refine yP 48 tA bM bC mix Tryz.func143 rfl (by kernel_rfl) (by simp) ?_
  simp -dsimp -implicitDefEqProofs only [go_sem,↓reduceIte,Tryz.f143]
  refine bQ (keep:=tA) (ib:=bM) (mk:=bC) mix (by kernel_rfl) (fun x:Nat × aA=>[(0,.os n 5 0 es.length),(1,I (k + OV.cS (es.take x.1))),(5,I x.1)]) (fun x=>x.2) (fun x=>x.1≤es.length∧o6 h x.2 L0 ((n,.row 5 (OV.cells (OV.cN k (es.take x.1) ++ es.drop x.1))) :: OV.bG (OV.cN k (es.take x.1) ++ es.drop x.1))) (fun x=>es.length - x.1) (0,h) (by
   refine ⟨by simp [bU,bF,OV.cS],aA.le_refl _,Nat.zero_le _,?_⟩
   rw [← hL0]
   simpa [OV.cN] using o6.refl ho) ?_
  rintro ⟨i,g⟩ ⟨hi,hc⟩
  simp only at hi hc ⊢
  rcases Nat.lt_or_ge i es.length with hlt | hge
  ·have hll:i < l.length:=by rw [hor.length];exact hlt
   obtain ⟨A,e,B,rfl,hA,he⟩:=hor.split i hll
   have t1:(A ++ e :: B).take i = A:=by rw [← hA];simp
   have t2:(A ++ e :: B).drop i = e :: B:=by rw [← hA];simp
   have t0:A ++ e :: B = (A ++ [e]) ++ B:=by simp
   have t3:(A ++ e :: B).take (i + 1) = A ++ [e]:=by rw [t0];exact List.take_left' (by simp [hA])
   have t4:(A ++ e :: B).drop (i + 1) = B:=by rw [t0];exact List.drop_left' (by simp [hA])
   clear t0
   have hct:=OV.iV A (e :: B)
   rw [OV.cS] at hct
   rw [t1,t2] at hc
   rw [t1]
   have hA2:(OV.cells (OV.cN k A)).length = i:=by rw [OV.cells,List.length_map,OV.jX,hA]
   have lG:=OV.q0 k A e
   have hs3:=OV.mX A e
   rw [aB.aLM] at he
   obtain ⟨y_4,rfl,o_4⟩:=he
   simp only [OV.n8,OV.pT,OV.aD4,Nat.add_zero,OV.n9,OV.pU,OV.aSW,r8,pV,r9,oQ] at hct lG hs3
   generalize hkk:k + (OV.cS A:Int) = kk at lG ⊢
   generalize OV.cN k A = A2 at lG hc hA2
   have gm:∀ (c:List Cell) (Y:List (List Cell)),(OV.cells A2 ++ c :: Y)[i]? = some c:=fun c Y=>v9 hA2
   have sm:∀ (c c2:List Cell) (Y:List (List Cell)),(OV.cells A2 ++ c :: Y).set i c2 = OV.cells A2 ++ c2 :: Y:=fun c c2 Y=>aCA hA2
   have pC:=hc
   simp only [List.append_assoc,List.cons_append,List.nil_append,List.append_nil,OV.cO,OV.dV,OV.kE,cI,dH,cP,eT,fF,gA,OV.eV] at pC
   have hgn:=pC.iD (n,_) List.mem_cons_self
   simp only at hgn
   have w5:IntKind.i64.wrap (kk + 1) = kk + 1:=IntWalk.i64_in _ (by omega)
   have aHT:IntKind.i64.wrap (kk + 1 + 1) = kk + 1 + 1:=IntWalk.i64_in _ (by omega)
   have a3H:IntKind.i64.wrap (kk + 1 + 1 + 1) = kk + 1 + 1 + 1:=IntWalk.i64_in _ (by omega)
   have a3I:IntKind.i64.wrap (kk + 1 + 1 + 1 + 1) = kk + 1 + 1 + 1 + 1:=IntWalk.i64_in _ (by omega)
   simp -dsimp -implicitDefEqProofs only [go_sem,↓reduceIte,Tryz.f143,hgn,gm,sm,aO,aH,o_4.flat,o_4.one,w5,aHT,a3H,a3I]
   repeat' (with_reducible first | intro _ | refine And.intro ?_ ?_)
   all_goals try omega
   have hq0:=pC.trans (o6.set (o':=.row 5 (OV.cells A2 ++ [.v (.int .i64 (kk)),.v (.int .i64 (kk + 1)),.v (.int .i64 (kk + 1 + 1)),.v (.int .i64 (kk + 1 + 1 + 1)),.v y_4.val] :: OV.cells B)) pC.iD (pC.nodup nd))
   have hg0:a7 g n (.row 5 (OV.cells A2 ++ [.v (.int .i64 (kk)),.v (.int .i64 (kk + 1)),.v (.int .i64 (kk + 1 + 1)),.v (.int .i64 (kk + 1 + 1 + 1)),.v y_4.val] :: OV.cells B)) n = some (.row 5 (OV.cells A2 ++ [.v (.int .i64 (kk)),.v (.int .i64 (kk + 1)),.v (.int .i64 (kk + 1 + 1)),.v (.int .i64 (kk + 1 + 1 + 1)),.v y_4.val] :: OV.cells B)):=aH _ _ _
   have hp0:o6 h (a7 g n (.row 5 (OV.cells A2 ++ [.v (.int .i64 (kk)),.v (.int .i64 (kk + 1)),.v (.int .i64 (kk + 1 + 1)),.v (.int .i64 (kk + 1 + 1 + 1)),.v y_4.val] :: OV.cells B))) L0 (((n,.row 5 (OV.cells A2 ++ [.v (.int .i64 (kk)),.v (.int .i64 (kk + 1)),.v (.int .i64 (kk + 1 + 1)),.v (.int .i64 (kk + 1 + 1 + 1)),.v y_4.val] :: OV.cells B)) :: (OV.bG A2)) ++ (y_4.rows ++ (OV.bG B))):=by simpa only [List.append_assoc,List.cons_append,List.nil_append,List.append_nil,OV.cO,OV.dV,OV.kE,cI,dH,cP,eT,fF,gA,OV.eV] using hq0
   refine aG.gQ ((hk l[i] (List.getElem_mem hll)) y_4 (kk + 1 + 1 + 1 + 1) _ o_4 (by omega) (by omega) hp0.iD.right.left (v8 (hp0.nodup nd))) ?_
   rintro r g0 ⟨rfl,aPP⟩
   have hr0:=hp0.trans (o6.mid hp0.iD (hp0.nodup nd) aPP)
   have aNC:=hr0.iD (n,_) List.mem_cons_self
   simp only at aNC
   have uQ:∃ z:Int,z = kk + 1 + 1 + 1 + 1 + (y_4.ct:Int):=⟨_,rfl⟩
   obtain ⟨kk0,uQ⟩:=uQ
   rw [← uQ]
   simp -dsimp -implicitDefEqProofs only [go_sem,↓reduceIte,Tryz.f143,aNC,gm,sm,aO,aH,o_4.flat,o_4.one,w5,aHT,a3H,a3I]
   refine ⟨(i + 1,g0),?_⟩
   simp only [t3,t4,lG,hs3]
   refine ⟨?_,aA.le_refl _,⟨by omega,?_⟩,by omega⟩
   ·repeat' (with_reducible refine And.intro ?_ ?_)
    all_goals first | rfl | trivial | omega | (rw [IntWalk.i64_in _ (by omega)];omega)
   ·simpa only [List.append_assoc,List.cons_append,List.nil_append,List.append_nil,OV.cO,OV.dV,OV.kE,cI,dH,cP,eT,fF,gA,OV.eV,o_4.mk_val,uQ] using hr0
  ·have hi2:i = es.length:=by omega
   subst hi2
   rw [List.take_length,List.drop_length,List.append_nil] at hc
   rw [List.take_length]
   simp -dsimp -implicitDefEqProofs only [go_sem,↓reduceIte,Tryz.f143,Int.lt_irrefl,Nat.lt_irrefl]
   try intro _
   refine ⟨g,aA.le_refl _,?_⟩
   first | exact hc | exact ⟨rfl,hc⟩
theorem aFW (l:List aB):aGV Tryz.prog 143 (OS aB.o 5 l) :=
 aB3 l fun x hx=>aFW x.aI
termination_by SizeOf.sizeOf l
decreasing_by
 have h1:=List.sizeOf_lt_of_mem hx
 cases x
 simp only [aB.mk.sizeOf_spec,aB.aI] at h1 ⊢
 omega
theorem aPQ (l:List aS):aGV Tryz.prog 64 (OS aS.o 3 l):=by
 intro y k h hy h0 h1 ho nd
 rcases hy with ⟨rfl,hl⟩ | ⟨n,es,rfl,hor⟩
 ·rw [OV.xL,OV.kZ,OV.vI,OV.yR]
  refine yP 35 tA bM bC mix Tryz.func64 rfl (by kernel_rfl) (by simp) ?_
  simp -dsimp -implicitDefEqProofs only [go_sem,↓reduceIte,Tryz.f64]
  refine bQ (keep:=tA) (ib:=bM) (mk:=bC) mix (by kernel_rfl) (fun _:Unit=>[(0,.sl 3 [] true),(1,I k),(5,I 0)]) (fun _=>h) (fun _=>True) (fun _=>0) () (by simp [bU,bF,aA.le_refl]) ?_
  intro _ _
  simp -dsimp -implicitDefEqProofs only [go_sem,↓reduceIte,Tryz.f64,oA,Int.lt_irrefl]
  try intro _
  refine ⟨h,aA.le_refl _,?_⟩
  first | exact o6.refl (by simp [fR]) | exact ⟨by simp,o6.refl (by simp [fR])⟩
 ·rw [OV.aD5,OV.cK,OV.cK,OV.q8,OV.nJ]
  rw [OV.q8] at h1
  rw [OV.cK] at ho nd
  generalize hL0:(n,bH.row 3 (OV.cells es)) :: OV.bG es = L0 at nd ⊢
  refine yP 35 tA bM bC mix Tryz.func64 rfl (by kernel_rfl) (by simp) ?_
  simp -dsimp -implicitDefEqProofs only [go_sem,↓reduceIte,Tryz.f64]
  refine bQ (keep:=tA) (ib:=bM) (mk:=bC) mix (by kernel_rfl) (fun x:Nat × aA=>[(0,.os n 3 0 es.length),(1,I (k + OV.cS (es.take x.1))),(5,I x.1)]) (fun x=>x.2) (fun x=>x.1≤es.length∧o6 h x.2 L0 ((n,.row 3 (OV.cells (OV.cN k (es.take x.1) ++ es.drop x.1))) :: OV.bG (OV.cN k (es.take x.1) ++ es.drop x.1))) (fun x=>es.length - x.1) (0,h) (by
   refine ⟨by simp [bU,bF,OV.cS],aA.le_refl _,Nat.zero_le _,?_⟩
   rw [← hL0]
   simpa [OV.cN] using o6.refl ho) ?_
  rintro ⟨i,g⟩ ⟨hi,hc⟩
  simp only at hi hc ⊢
  rcases Nat.lt_or_ge i es.length with hlt | hge
  ·have hll:i < l.length:=by rw [hor.length];exact hlt
   obtain ⟨A,e,B,rfl,hA,he⟩:=hor.split i hll
   have t1:(A ++ e :: B).take i = A:=by rw [← hA];simp
   have t2:(A ++ e :: B).drop i = e :: B:=by rw [← hA];simp
   have t0:A ++ e :: B = (A ++ [e]) ++ B:=by simp
   have t3:(A ++ e :: B).take (i + 1) = A ++ [e]:=by rw [t0];exact List.take_left' (by simp [hA])
   have t4:(A ++ e :: B).drop (i + 1) = B:=by rw [t0];exact List.drop_left' (by simp [hA])
   clear t0
   have hct:=OV.iV A (e :: B)
   rw [OV.cS] at hct
   rw [t1,t2] at hc
   rw [t1]
   have hA2:(OV.cells (OV.cN k A)).length = i:=by rw [OV.cells,List.length_map,OV.jX,hA]
   have lG:=OV.q0 k A e
   have hs3:=OV.mX A e
   obtain ⟨y_2,rfl,o_2⟩:=he
   simp only [OV.n8,OV.pT,OV.aD4,Nat.add_zero,OV.n9,OV.pU,OV.aSW,r8,pV,r9,oQ] at hct lG hs3
   generalize hkk:k + (OV.cS A:Int) = kk at lG ⊢
   generalize OV.cN k A = A2 at lG hc hA2
   have gm:∀ (c:List Cell) (Y:List (List Cell)),(OV.cells A2 ++ c :: Y)[i]? = some c:=fun c Y=>v9 hA2
   have sm:∀ (c c2:List Cell) (Y:List (List Cell)),(OV.cells A2 ++ c :: Y).set i c2 = OV.cells A2 ++ c2 :: Y:=fun c c2 Y=>aCA hA2
   have pC:=hc
   simp only [List.append_assoc,List.cons_append,List.nil_append,List.append_nil,OV.cO,OV.dV,OV.kE,cI,dH,cP,eT,fF,gA,OV.eV] at pC
   have hgn:=pC.iD (n,_) List.mem_cons_self
   simp only at hgn
   have w5:IntKind.i64.wrap (kk + 1) = kk + 1:=IntWalk.i64_in _ (by omega)
   have aHT:IntKind.i64.wrap (kk + 1 + 1) = kk + 1 + 1:=IntWalk.i64_in _ (by omega)
   simp -dsimp -implicitDefEqProofs only [go_sem,↓reduceIte,Tryz.f64,hgn,gm,sm,aO,aH,o_2.flat,o_2.one,w5,aHT]
   repeat' (with_reducible first | intro _ | refine And.intro ?_ ?_)
   all_goals try omega
   refine aG.mk (aXZ (kk) (by omega)) ?_
   simp -dsimp -implicitDefEqProofs only [go_sem,↓reduceIte,Tryz.f64,hgn,gm,sm,aO,aH,o_2.flat,o_2.one,w5,aHT]
   repeat' (with_reducible first | intro _ | refine And.intro ?_ ?_)
   all_goals try omega
   have hq0:=pC.trans (o6.set (o':=.row 3 (OV.cells A2 ++ [.v (.str (wY (kk))),.v (.int .i64 (kk + 1)),.v y_2.val] :: OV.cells B)) pC.iD (pC.nodup nd))
   have hg0:a7 g n (.row 3 (OV.cells A2 ++ [.v (.str (wY (kk))),.v (.int .i64 (kk + 1)),.v y_2.val] :: OV.cells B)) n = some (.row 3 (OV.cells A2 ++ [.v (.str (wY (kk))),.v (.int .i64 (kk + 1)),.v y_2.val] :: OV.cells B)):=aH _ _ _
   have hp0:o6 h (a7 g n (.row 3 (OV.cells A2 ++ [.v (.str (wY (kk))),.v (.int .i64 (kk + 1)),.v y_2.val] :: OV.cells B))) L0 (((n,.row 3 (OV.cells A2 ++ [.v (.str (wY (kk))),.v (.int .i64 (kk + 1)),.v y_2.val] :: OV.cells B)) :: (OV.bG A2)) ++ (y_2.rows ++ (OV.bG B))):=by simpa only [List.append_assoc,List.cons_append,List.nil_append,List.append_nil,OV.cO,OV.dV,OV.kE,cI,dH,cP,eT,fF,gA,OV.eV] using hq0
   refine aG.gQ ((aFW l[i].aL) y_2 (kk + 1 + 1) _ o_2 (by omega) (by omega) hp0.iD.right.left (v8 (hp0.nodup nd))) ?_
   rintro r g0 ⟨rfl,aPP⟩
   have hr0:=hp0.trans (o6.mid hp0.iD (hp0.nodup nd) aPP)
   have aNC:=hr0.iD (n,_) List.mem_cons_self
   simp only at aNC
   have uQ:∃ z:Int,z = kk + 1 + 1 + (y_2.ct:Int):=⟨_,rfl⟩
   obtain ⟨kk0,uQ⟩:=uQ
   rw [← uQ]
   simp -dsimp -implicitDefEqProofs only [go_sem,↓reduceIte,Tryz.f64,aNC,gm,sm,aO,aH,o_2.flat,o_2.one,w5,aHT]
   refine ⟨(i + 1,g0),?_⟩
   simp only [t3,t4,lG,hs3]
   refine ⟨?_,aA.le_refl _,⟨by omega,?_⟩,by omega⟩
   ·repeat' (with_reducible refine And.intro ?_ ?_)
    all_goals first | rfl | trivial | omega | (rw [IntWalk.i64_in _ (by omega)];omega)
   ·simpa only [List.append_assoc,List.cons_append,List.nil_append,List.append_nil,OV.cO,OV.dV,OV.kE,cI,dH,cP,eT,fF,gA,OV.eV,o_2.mk_val,uQ] using hr0
  ·have hi2:i = es.length:=by omega
   subst hi2
   rw [List.take_length,List.drop_length,List.append_nil] at hc
   rw [List.take_length]
   simp -dsimp -implicitDefEqProofs only [go_sem,↓reduceIte,Tryz.f64,Int.lt_irrefl,Nat.lt_irrefl]
   try intro _
   refine ⟨g,aA.le_refl _,?_⟩
   first | exact hc | exact ⟨rfl,hc⟩
theorem aJ5 (x:aE):bAB Tryz.prog 15 x.o:=by
 intro e k h he h0 h1 ho nd
 obtain ⟨y_0,rfl,o_0⟩:=he
 simp only [OV.aN6,OV.aSX,OV.a99,OV.aN7,OV.aSY,OV.bAA,Nat.add_zero,Nat.zero_add,oA,Int.add_zero,Int.zero_add,o_0.ctT,o_0.mkT] at h1 ⊢
 have pC:=o6.refl ho
 simp only [List.append_assoc,List.cons_append,List.nil_append,List.append_nil,OV.cO,OV.dV,OV.kE,cI,dH,cP,eT,fF,gA,OV.eV] at pC nd ⊢
 obtain ⟨L0,hL0⟩:∃ L:List (Nat × bH),L = (y_0.rows):=⟨_,rfl⟩
 replace pC:o6 h h L0 (y_0.rows):=by rw [hL0];exact pC
 rw [← hL0] at nd ⊢
 refine yP 10 a2E aN9 bC mix Tryz.func15 rfl (by kernel_rfl) (by simp) ?_
 simp -dsimp -implicitDefEqProofs only [go_sem,↓reduceIte,Tryz.f15,OV.eE,OV.bT,OV.eV,o_0.flat,o_0.one]
 have hp0:o6 h h L0 ((([]:List (Nat × bH))) ++ ((y_0.rows) ++ (([]:List (Nat × bH))))):=by simpa only [List.append_assoc,List.cons_append,List.nil_append,List.append_nil,OV.cO,OV.dV,OV.kE,cI,dH,cP,eT,fF,gA,OV.eV] using pC
 refine aG.gQ (aPQ x.aJ y_0 (k) _ o_0 (by omega) (by omega) hp0.iD.right.left (v8 (hp0.nodup nd))) ?_
 rintro r g0 ⟨rfl,aPP⟩
 have hr0:=hp0.trans (o6.mid hp0.iD (hp0.nodup nd) (by simpa only [List.append_assoc,List.cons_append,List.nil_append,List.append_nil,OV.cO,OV.dV,OV.kE,cI,dH,cP,eT,fF,gA,OV.eV] using aPP))
 simp -dsimp -implicitDefEqProofs only [go_sem,↓reduceIte,Tryz.f15,OV.eE,OV.bT,OV.eV,o_0.flat,o_0.one]
 refine ⟨g0,aA.le_refl _,?_⟩
 first
  |exact ⟨by congr 1;omega,by simpa only [List.append_assoc,List.cons_append,List.nil_append,List.append_nil,OV.cO,OV.dV,OV.kE,cI,dH,cP,eT,fF,gA,OV.eV,Int.natCast_add,← Int.add_assoc] using hr0⟩
  |exact ⟨by omega,by simpa only [List.append_assoc,List.cons_append,List.nil_append,List.append_nil,OV.cO,OV.dV,OV.kE,cI,dH,cP,eT,fF,gA,OV.eV,Int.natCast_add,← Int.add_assoc] using hr0⟩
  |simpa only [List.append_assoc,List.cons_append,List.nil_append,List.append_nil,OV.cO,OV.dV,OV.kE,cI,dH,cP,eT,fF,gA,OV.eV,Int.natCast_add,← Int.add_assoc] using hr0
theorem aND (l:List Int):aGV Tryz.prog 16 (OS (oP I) 1 l):=by
 intro y k h hy h0 h1 ho nd
 rcases hy with ⟨rfl,hl⟩ | ⟨n,es,rfl,hor⟩
 ·rw [OV.xL,OV.kZ,OV.vI,OV.yR]
  refine yP 19 tA bM bC mix Tryz.func16 rfl (by kernel_rfl) (by simp) ?_
  simp -dsimp -implicitDefEqProofs only [go_sem,↓reduceIte,Tryz.f16]
  refine bQ (keep:=tA) (ib:=bM) (mk:=bC) mix (by kernel_rfl) (fun _:Unit=>[(0,.sl 1 [] true),(1,I k),(5,I 0)]) (fun _=>h) (fun _=>True) (fun _=>0) () (by simp [bU,bF,aA.le_refl]) ?_
  intro _ _
  simp -dsimp -implicitDefEqProofs only [go_sem,↓reduceIte,Tryz.f16,oA,Int.lt_irrefl]
  try intro _
  refine ⟨h,aA.le_refl _,?_⟩
  first | exact o6.refl (by simp [fR]) | exact ⟨by simp,o6.refl (by simp [fR])⟩
 ·rw [OV.aD5,OV.cK,OV.cK,OV.q8,OV.nJ]
  rw [OV.q8] at h1
  rw [OV.cK] at ho nd
  generalize hL0:(n,bH.row 1 (OV.cells es)) :: OV.bG es = L0 at nd ⊢
  refine yP 19 tA bM bC mix Tryz.func16 rfl (by kernel_rfl) (by simp) ?_
  simp -dsimp -implicitDefEqProofs only [go_sem,↓reduceIte,Tryz.f16]
  refine bQ (keep:=tA) (ib:=bM) (mk:=bC) mix (by kernel_rfl) (fun x:Nat × aA=>[(0,.os n 1 0 es.length),(1,I (k + OV.cS (es.take x.1))),(5,I x.1)]) (fun x=>x.2) (fun x=>x.1≤es.length∧o6 h x.2 L0 ((n,.row 1 (OV.cells (OV.cN k (es.take x.1) ++ es.drop x.1))) :: OV.bG (OV.cN k (es.take x.1) ++ es.drop x.1))) (fun x=>es.length - x.1) (0,h) (by
   refine ⟨by simp [bU,bF,OV.cS],aA.le_refl _,Nat.zero_le _,?_⟩
   rw [← hL0]
   simpa [OV.cN] using o6.refl ho) ?_
  rintro ⟨i,g⟩ ⟨hi,hc⟩
  simp only at hi hc ⊢
  rcases Nat.lt_or_ge i es.length with hlt | hge
  ·have hll:i < l.length:=by rw [hor.length];exact hlt
   obtain ⟨A,e,B,rfl,hA,he⟩:=hor.split i hll
   have t1:(A ++ e :: B).take i = A:=by rw [← hA];simp
   have t2:(A ++ e :: B).drop i = e :: B:=by rw [← hA];simp
   have t0:A ++ e :: B = (A ++ [e]) ++ B:=by simp
   have t3:(A ++ e :: B).take (i + 1) = A ++ [e]:=by rw [t0];exact List.take_left' (by simp [hA])
   have t4:(A ++ e :: B).drop (i + 1) = B:=by rw [t0];exact List.drop_left' (by simp [hA])
   clear t0
   have hct:=OV.iV A (e :: B)
   rw [OV.cS] at hct
   rw [t1,t2] at hc
   rw [t1]
   have hA2:(OV.cells (OV.cN k A)).length = i:=by rw [OV.cells,List.length_map,OV.jX,hA]
   have lG:=OV.q0 k A e
   have hs3:=OV.mX A e
   obtain rfl:_ = _:=he
   simp only [OV.n8,OV.pT,OV.aD4,Nat.add_zero,OV.n9,OV.pU,OV.aSW,r8,pV,r9,oQ] at hct lG hs3
   generalize hkk:k + (OV.cS A:Int) = kk at lG ⊢
   generalize OV.cN k A = A2 at lG hc hA2
   have gm:∀ (c:List Cell) (Y:List (List Cell)),(OV.cells A2 ++ c :: Y)[i]? = some c:=fun c Y=>v9 hA2
   have sm:∀ (c c2:List Cell) (Y:List (List Cell)),(OV.cells A2 ++ c :: Y).set i c2 = OV.cells A2 ++ c2 :: Y:=fun c c2 Y=>aCA hA2
   have pC:=hc
   simp only [List.append_assoc,List.cons_append,List.nil_append,List.append_nil,OV.cO,OV.dV,OV.kE,cI,dH,cP,eT,fF,gA,OV.eV] at pC
   have hgn:=pC.iD (n,_) List.mem_cons_self
   simp only at hgn
   have w5:IntKind.i64.wrap (kk + 1) = kk + 1:=IntWalk.i64_in _ (by omega)
   simp -dsimp -implicitDefEqProofs only [go_sem,↓reduceIte,Tryz.f16,hgn,gm,sm,aO,aH,w5]
   repeat' (with_reducible first | intro _ | refine And.intro ?_ ?_)
   all_goals try omega
   have hq0:=pC.trans (o6.set (o':=.row 1 (OV.cells A2 ++ [.v (.int .i64 (kk))] :: OV.cells B)) pC.iD (pC.nodup nd))
   have hg0:a7 g n (.row 1 (OV.cells A2 ++ [.v (.int .i64 (kk))] :: OV.cells B)) n = some (.row 1 (OV.cells A2 ++ [.v (.int .i64 (kk))] :: OV.cells B)):=aH _ _ _
   refine ⟨(i + 1,(a7 g n (.row 1 (OV.cells A2 ++ [.v (.int .i64 (kk))] :: OV.cells B)))),?_⟩
   simp only [t3,t4,lG,hs3]
   refine ⟨?_,aA.le_refl _,⟨by omega,?_⟩,by omega⟩
   ·repeat' (with_reducible refine And.intro ?_ ?_)
    all_goals first | rfl | trivial | omega | (rw [IntWalk.i64_in _ (by omega)];omega)
   ·simpa only [List.append_assoc,List.cons_append,List.nil_append,List.append_nil,OV.cO,OV.dV,OV.kE,cI,dH,cP,eT,fF,gA,OV.eV] using hq0
  ·have hi2:i = es.length:=by omega
   subst hi2
   rw [List.take_length,List.drop_length,List.append_nil] at hc
   rw [List.take_length]
   simp -dsimp -implicitDefEqProofs only [go_sem,↓reduceIte,Tryz.f16,Int.lt_irrefl,Nat.lt_irrefl]
   try intro _
   refine ⟨g,aA.le_refl _,?_⟩
   first | exact hc | exact ⟨rfl,hc⟩
theorem zQ (l:List (List Int)):aGV Tryz.prog 17 (OS (oS (oP I) 1) 1 l):=by
 intro y k h hy h0 h1 ho nd
 rcases hy with ⟨rfl,hl⟩ | ⟨n,es,rfl,hor⟩
 ·rw [OV.xL,OV.kZ,OV.vI,OV.yR]
  refine yP 19 tA bM bC mix Tryz.func17 rfl (by kernel_rfl) (by simp) ?_
  simp -dsimp -implicitDefEqProofs only [go_sem,↓reduceIte,Tryz.f17]
  refine bQ (keep:=tA) (ib:=bM) (mk:=bC) mix (by kernel_rfl) (fun _:Unit=>[(0,.sl 1 [] true),(1,I k),(5,I 0)]) (fun _=>h) (fun _=>True) (fun _=>0) () (by simp [bU,bF,aA.le_refl]) ?_
  intro _ _
  simp -dsimp -implicitDefEqProofs only [go_sem,↓reduceIte,Tryz.f17,oA,Int.lt_irrefl]
  try intro _
  refine ⟨h,aA.le_refl _,?_⟩
  first | exact o6.refl (by simp [fR]) | exact ⟨by simp,o6.refl (by simp [fR])⟩
 ·rw [OV.aD5,OV.cK,OV.cK,OV.q8,OV.nJ]
  rw [OV.q8] at h1
  rw [OV.cK] at ho nd
  generalize hL0:(n,bH.row 1 (OV.cells es)) :: OV.bG es = L0 at nd ⊢
  refine yP 19 tA bM bC mix Tryz.func17 rfl (by kernel_rfl) (by simp) ?_
  simp -dsimp -implicitDefEqProofs only [go_sem,↓reduceIte,Tryz.f17]
  refine bQ (keep:=tA) (ib:=bM) (mk:=bC) mix (by kernel_rfl) (fun x:Nat × aA=>[(0,.os n 1 0 es.length),(1,I (k + OV.cS (es.take x.1))),(5,I x.1)]) (fun x=>x.2) (fun x=>x.1≤es.length∧o6 h x.2 L0 ((n,.row 1 (OV.cells (OV.cN k (es.take x.1) ++ es.drop x.1))) :: OV.bG (OV.cN k (es.take x.1) ++ es.drop x.1))) (fun x=>es.length - x.1) (0,h) (by
   refine ⟨by simp [bU,bF,OV.cS],aA.le_refl _,Nat.zero_le _,?_⟩
   rw [← hL0]
   simpa [OV.cN] using o6.refl ho) ?_
  rintro ⟨i,g⟩ ⟨hi,hc⟩
  simp only at hi hc ⊢
  rcases Nat.lt_or_ge i es.length with hlt | hge
  ·have hll:i < l.length:=by rw [hor.length];exact hlt
   obtain ⟨A,e,B,rfl,hA,he⟩:=hor.split i hll
   have t1:(A ++ e :: B).take i = A:=by rw [← hA];simp
   have t2:(A ++ e :: B).drop i = e :: B:=by rw [← hA];simp
   have t0:A ++ e :: B = (A ++ [e]) ++ B:=by simp
   have t3:(A ++ e :: B).take (i + 1) = A ++ [e]:=by rw [t0];exact List.take_left' (by simp [hA])
   have t4:(A ++ e :: B).drop (i + 1) = B:=by rw [t0];exact List.drop_left' (by simp [hA])
   clear t0
   have hct:=OV.iV A (e :: B)
   rw [OV.cS] at hct
   rw [t1,t2] at hc
   rw [t1]
   have hA2:(OV.cells (OV.cN k A)).length = i:=by rw [OV.cells,List.length_map,OV.jX,hA]
   have lG:=OV.q0 k A e
   have hs3:=OV.mX A e
   obtain ⟨y_0,rfl,o_0⟩:=he
   simp only [OV.n8,OV.pT,OV.aD4,Nat.add_zero,OV.n9,OV.pU,OV.aSW,r8,pV,r9,oQ] at hct lG hs3
   generalize hkk:k + (OV.cS A:Int) = kk at lG ⊢
   generalize OV.cN k A = A2 at lG hc hA2
   have gm:∀ (c:List Cell) (Y:List (List Cell)),(OV.cells A2 ++ c :: Y)[i]? = some c:=fun c Y=>v9 hA2
   have sm:∀ (c c2:List Cell) (Y:List (List Cell)),(OV.cells A2 ++ c :: Y).set i c2 = OV.cells A2 ++ c2 :: Y:=fun c c2 Y=>aCA hA2
   have pC:=hc
   simp only [List.append_assoc,List.cons_append,List.nil_append,List.append_nil,OV.cO,OV.dV,OV.kE,cI,dH,cP,eT,fF,gA,OV.eV] at pC
   have hgn:=pC.iD (n,_) List.mem_cons_self
   simp only at hgn
   simp -dsimp -implicitDefEqProofs only [go_sem,↓reduceIte,Tryz.f17,hgn,gm,sm,aO,aH,o_0.flat,o_0.one]
   repeat' (with_reducible first | intro _ | refine And.intro ?_ ?_)
   all_goals try omega
   have hp0:o6 h g L0 (((n,.row 1 (OV.cells A2 ++ [.v y_0.val] :: OV.cells B)) :: (OV.bG A2)) ++ (y_0.rows ++ (OV.bG B))):=by simpa only [List.append_assoc,List.cons_append,List.nil_append,List.append_nil,OV.cO,OV.dV,OV.kE,cI,dH,cP,eT,fF,gA,OV.eV] using pC
   refine aG.gQ ((aND l[i]) y_0 (kk) _ o_0 (by omega) (by omega) hp0.iD.right.left (v8 (hp0.nodup nd))) ?_
   rintro r g0 ⟨rfl,aPP⟩
   have hr0:=hp0.trans (o6.mid hp0.iD (hp0.nodup nd) aPP)
   have aNC:=hr0.iD (n,_) List.mem_cons_self
   simp only at aNC
   have uQ:∃ z:Int,z = kk + (y_0.ct:Int):=⟨_,rfl⟩
   obtain ⟨kk0,uQ⟩:=uQ
   rw [← uQ]
   simp -dsimp -implicitDefEqProofs only [go_sem,↓reduceIte,Tryz.f17,aNC,gm,sm,aO,aH,o_0.flat,o_0.one]
   refine ⟨(i + 1,g0),?_⟩
   simp only [t3,t4,lG,hs3]
   refine ⟨?_,aA.le_refl _,⟨by omega,?_⟩,by omega⟩
   ·repeat' (with_reducible refine And.intro ?_ ?_)
    all_goals first | rfl | trivial | omega | (rw [IntWalk.i64_in _ (by omega)];omega)
   ·simpa only [List.append_assoc,List.cons_append,List.nil_append,List.append_nil,OV.cO,OV.dV,OV.kE,cI,dH,cP,eT,fF,gA,OV.eV,o_0.mk_val,uQ] using hr0
  ·have hi2:i = es.length:=by omega
   subst hi2
   rw [List.take_length,List.drop_length,List.append_nil] at hc
   rw [List.take_length]
   simp -dsimp -implicitDefEqProofs only [go_sem,↓reduceIte,Tryz.f17,Int.lt_irrefl,Nat.lt_irrefl]
   try intro _
   refine ⟨g,aA.le_refl _,?_⟩
   first | exact hc | exact ⟨rfl,hc⟩
@[go_sem] def aJ6:List Nat:=[0,1,4,5,9,17]
theorem aNE (l:List Int):a2A Tryz.prog 65 (OS (oP I) 1 l):=by
 intro y k hy h0 h1
 rcases hy with ⟨rfl,hl⟩ | ⟨n,es,rfl,hor⟩
 ·rw [OV.xL,aQC,OV.vI]
  refine dJ 21 aJ6 bM bC mix Tryz.func65 rfl (by kernel_rfl) (by simp) fun h=>?_
  simp -dsimp -implicitDefEqProofs only [go_sem,↓reduceIte,Tryz.f65]
  refine bQ (keep:=aJ6) (ib:=bM) (mk:=bC) mix (by kernel_rfl) (fun _:Unit=>[(0,.sl 1 [] false),(1,I k),(5,I 0)]) (fun _=>h) (fun _=>True) (fun _=>0) () (by simp [bU,bF,aA.le_refl]) ?_
  intro _ _
  simp -dsimp -implicitDefEqProofs only [go_sem,↓reduceIte,Tryz.f65,oA,Int.lt_irrefl]
  first | done | (intro _;simp) | simp
 ·rw [OV.aD5,aUZ,OV.q8]
  rw [OV.q8] at h1
  have hlen:(OV.cQ (OV.cN k es)).length = es.length:=by rw [q9,OV.jX]
  refine dJ 21 aJ6 bM bC mix Tryz.func65 rfl (by kernel_rfl) (by simp) fun h=>?_
  simp -dsimp -implicitDefEqProofs only [go_sem,↓reduceIte,Tryz.f65,hlen]
  refine bQ (keep:=aJ6) (ib:=bM) (mk:=bC) mix (by kernel_rfl) (fun i:Nat=>[(0,.sl 1 (OV.cQ (OV.cN k es)) false),(1,I (k + OV.cS (es.take i))),(5,I i)]) (fun _=>h) (fun i=>i≤es.length) (fun i=>es.length - i) 0 (by simp [bU,bF,OV.cS,aA.le_refl]) ?_
  intro i hi
  rcases Nat.lt_or_ge i es.length with hlt | hge
  ·have hll:i < l.length:=by rw [hor.length];exact hlt
   obtain ⟨A,e,B,rfl,hA,he⟩:=hor.split i hll
   have t1:(A ++ e :: B).take i = A:=by rw [← hA];simp
   have t0:A ++ e :: B = (A ++ [e]) ++ B:=by simp
   have t3:(A ++ e :: B).take (i + 1) = A ++ [e]:=by rw [t0];exact List.take_left' (by simp [hA])
   clear t0
   have hct:=OV.iV A (e :: B)
   rw [OV.cS] at hct
   rw [t1]
   have hs3:=OV.mX A e
   have hD:OV.cQ (OV.cN k (A ++ e :: B)) = OV.cQ (OV.cN k A) ++ (OV.uG (k + (OV.cS A:Int)) e).map OV.lQ :: OV.cQ (OV.cN (k + (OV.cS A:Int) + (OV.j4 e:Int)) B):=by
    rw [OV.oH,vJ,OV.cN,yS]
   have hA2:(OV.cQ (OV.cN k A)).length = i:=by rw [q9,OV.jX,hA]
   have hi2:(i:Int) < (A ++ e :: B).length:=by omega
   obtain rfl:_ = _:=he
   simp only [OV.n8,OV.pT,OV.aD4,Nat.add_zero,oQ] at hct hs3
   generalize hkk:k + (OV.cS A:Int) = kk at hD ⊢
   have gm:(OV.cQ (OV.cN k (A ++ [.v (.int .i64 l[i])] :: B)))[i]? = some ((OV.uG kk [.v (.int .i64 l[i])]).map OV.lQ):=by rw [hD];exact v9 hA2
   simp only [OV.n9,OV.pU,OV.aSW,r8,pV,r9,OV.aD4,oQ,yT,aBL,a19] at gm
   clear hD
   generalize OV.cQ (OV.cN k (A ++ [.v (.int .i64 l[i])] :: B)) = DD at gm hlen ⊢
   have w5:IntKind.i64.wrap (kk + 1) = kk + 1:=IntWalk.i64_in _ (by omega)
   simp -dsimp -implicitDefEqProofs only [go_sem,↓reduceIte,Tryz.f65,hlen,hi2,gm,eq_self,decide_true,Bool.not_true,bne_self_eq_false,w5]
   repeat' (with_reducible first | intro _ | refine And.intro ?_ ?_)
   all_goals try omega
   all_goals try (exact absurd rfl (by assumption))
   refine ⟨i + 1,?_⟩
   simp only [t3,hs3]
   repeat' (with_reducible first | intro _ | refine And.intro ?_ ?_)
   all_goals first | rfl | trivial | omega | exact aA.le_refl _ | (rw [IntWalk.i64_in _ (by omega)];omega)
  ·have hi2:i = es.length:=by omega
   subst hi2
   rw [List.take_length]
   simp -dsimp -implicitDefEqProofs only [go_sem,↓reduceIte,Tryz.f65,hlen,Int.lt_irrefl,Nat.lt_irrefl]
   first | done | (intro _;rfl) | rfl
@[go_sem] def aJ7:List Nat:=[0,1,4,5,9,19]
theorem zR (l:List (List Int)):a2A Tryz.prog 18 (OS (oS (oP I) 1) 1 l):=by
 intro y k hy h0 h1
 rcases hy with ⟨rfl,hl⟩ | ⟨n,es,rfl,hor⟩
 ·rw [OV.xL,aQC,OV.vI]
  refine dJ 21 aJ7 bM bC mix Tryz.func18 rfl (by kernel_rfl) (by simp) fun h=>?_
  simp -dsimp -implicitDefEqProofs only [go_sem,↓reduceIte,Tryz.f18]
  refine bQ (keep:=aJ7) (ib:=bM) (mk:=bC) mix (by kernel_rfl) (fun _:Unit=>[(0,.sl 1 [] false),(1,I k),(5,I 0)]) (fun _=>h) (fun _=>True) (fun _=>0) () (by simp [bU,bF,aA.le_refl]) ?_
  intro _ _
  simp -dsimp -implicitDefEqProofs only [go_sem,↓reduceIte,Tryz.f18,oA,Int.lt_irrefl]
  first | done | (intro _;simp) | simp
 ·rw [OV.aD5,aUZ,OV.q8]
  rw [OV.q8] at h1
  have hlen:(OV.cQ (OV.cN k es)).length = es.length:=by rw [q9,OV.jX]
  refine dJ 21 aJ7 bM bC mix Tryz.func18 rfl (by kernel_rfl) (by simp) fun h=>?_
  simp -dsimp -implicitDefEqProofs only [go_sem,↓reduceIte,Tryz.f18,hlen]
  refine bQ (keep:=aJ7) (ib:=bM) (mk:=bC) mix (by kernel_rfl) (fun i:Nat=>[(0,.sl 1 (OV.cQ (OV.cN k es)) false),(1,I (k + OV.cS (es.take i))),(5,I i)]) (fun _=>h) (fun i=>i≤es.length) (fun i=>es.length - i) 0 (by simp [bU,bF,OV.cS,aA.le_refl]) ?_
  intro i hi
  rcases Nat.lt_or_ge i es.length with hlt | hge
  ·have hll:i < l.length:=by rw [hor.length];exact hlt
   obtain ⟨A,e,B,rfl,hA,he⟩:=hor.split i hll
   have t1:(A ++ e :: B).take i = A:=by rw [← hA];simp
   have t0:A ++ e :: B = (A ++ [e]) ++ B:=by simp
   have t3:(A ++ e :: B).take (i + 1) = A ++ [e]:=by rw [t0];exact List.take_left' (by simp [hA])
   clear t0
   have hct:=OV.iV A (e :: B)
   rw [OV.cS] at hct
   rw [t1]
   have hs3:=OV.mX A e
   have hD:OV.cQ (OV.cN k (A ++ e :: B)) = OV.cQ (OV.cN k A) ++ (OV.uG (k + (OV.cS A:Int)) e).map OV.lQ :: OV.cQ (OV.cN (k + (OV.cS A:Int) + (OV.j4 e:Int)) B):=by
    rw [OV.oH,vJ,OV.cN,yS]
   have hA2:(OV.cQ (OV.cN k A)).length = i:=by rw [q9,OV.jX,hA]
   have hi2:(i:Int) < (A ++ e :: B).length:=by omega
   obtain ⟨y_0,rfl,o_0⟩:=he
   simp only [OV.n8,OV.pT,OV.aD4,Nat.add_zero,oQ] at hct hs3
   generalize hkk:k + (OV.cS A:Int) = kk at hD ⊢
   have gm:(OV.cQ (OV.cN k (A ++ [y_0] :: B)))[i]? = some ((OV.uG kk [y_0]).map OV.lQ):=by rw [hD];exact v9 hA2
   simp only [OV.n9,OV.pU,OV.aSW,r8,pV,r9,OV.aD4,oQ,yT,aBL,a19] at gm
   clear hD
   generalize OV.cQ (OV.cN k (A ++ [y_0] :: B)) = DD at gm hlen ⊢
   simp -dsimp -implicitDefEqProofs only [go_sem,↓reduceIte,Tryz.f18,hlen,hi2,gm,eq_self,decide_true,Bool.not_true,bne_self_eq_false]
   repeat' (with_reducible first | intro _ | refine And.intro ?_ ?_)
   all_goals try omega
   all_goals try (exact absurd rfl (by assumption))
   refine aG.mk ((aNE l[i]) y_0 (kk) o_0 (by omega) (by omega)) ?_
   have uQ:∃ z:Int,z = kk + (y_0.ct:Int):=⟨_,rfl⟩
   obtain ⟨kk0,uQ⟩:=uQ
   rw [← uQ]
   simp -dsimp -implicitDefEqProofs only [go_sem,↓reduceIte,Tryz.f18,hlen,hi2,gm,eq_self,decide_true,Bool.not_true,bne_self_eq_false]
   repeat' (with_reducible first | intro _ | refine And.intro ?_ ?_)
   all_goals try omega
   all_goals try (exact absurd rfl (by assumption))
   refine ⟨i + 1,?_⟩
   simp only [t3,hs3]
   repeat' (with_reducible first | intro _ | refine And.intro ?_ ?_)
   all_goals first | rfl | trivial | omega | exact aA.le_refl _ | (rw [IntWalk.i64_in _ (by omega)];omega)
  ·have hi2:i = es.length:=by omega
   subst hi2
   rw [List.take_length]
   simp -dsimp -implicitDefEqProofs only [go_sem,↓reduceIte,Tryz.f18,hlen,Int.lt_irrefl,Nat.lt_irrefl]
   first | done | (intro _;rfl) | rfl
@[go_sem] def bB5:List Nat:=[0,1,2,3,6,7,8,9,10,11,12,13,14,15,16,17,18,23,28,57,62,67,86,94,97,115,120,123]
@[go_sem] def mk4:Marks:=fun id=>match id with | 14=>([0,2,3],(.op 1 (.op 0 (.op 2 (.op 3 (.op 4 .nil))))),[(0,2)]) | _=>([],.nil,[])
set_option maxHeartbeats 4000000 in
theorem uR (a:aE) (f:Int) (b:(List (List Int))) (h:aA):fE Tryz.prog 4 [.agg a.c,(.int .i64 f),(cY 1 (fun x=>[cY 1 (fun n=>[I n]) x]) b)] h fun r _=>r = .bool true:=by
 simp only [aE.aQ]
 refine yP 124 bB5 aD7 mk4 mix Tryz.func4 rfl (by kernel_rfl) (by simp) ?_
 simp -dsimp -implicitDefEqProofs only [go_sem,↓reduceIte,Tryz.f4,Bool.true_or,Bool.or_true,Bool.false_or,Bool.or_false,iT,eq_self,decide_true,Bool.not_true,bne_self_eq_false,aO,cF,OV.eE,OV.bT,OV.eV,aE.aQ]
 refine aG.mk (aOS a 1048576 (by omega) (by omega)) ?_
 generalize hL0:x5 1048576 (aE.s a) = L0
 have hs0:=aD8 hL0
 simp -dsimp -implicitDefEqProofs only [go_sem,↓reduceIte,Tryz.f4,Bool.true_or,Bool.or_true,Bool.false_or,Bool.or_false,iT,eq_self,decide_true,Bool.not_true,bne_self_eq_false,aO,cF,OV.eE,OV.bT,OV.eV,aE.aQ]
 repeat' (with_reducible first | intro _ | refine And.intro ?_ ?_)
 all_goals try (first | exact ⟨_,aA.le_refl _,rfl⟩ | exact ⟨_,aA.le_refl _⟩)
 all_goals try omega
 have hn0:=hs0.2 (by omega)
 clear hs0 hL0
 refine aG.mk (aOT b L0 (by omega) (by omega) (fun x _ left h0 h1=>(by have hq:=aTD 1 (x.map (fun n=>[I n])) false left h0 h1;rw [List.length_map] at hq;exact hq))) ?_
 generalize hL1:x5 L0 (qR (fun x:List Int=>x.length) b) = L1
 have jC:=aD8 hL1
 simp -dsimp -implicitDefEqProofs only [go_sem,↓reduceIte,Tryz.f4,Bool.true_or,Bool.or_true,Bool.false_or,Bool.or_false,iT,eq_self,decide_true,Bool.not_true,bne_self_eq_false,aO,cF,OV.eE,OV.bT,OV.eV,aE.aQ]
 repeat' (with_reducible first | intro _ | refine And.intro ?_ ?_)
 all_goals try (first | exact ⟨_,aA.le_refl _,rfl⟩ | exact ⟨_,aA.le_refl _⟩)
 all_goals try omega
 have uS:=jC.2 (by omega)
 clear jC hL1
 have aTW:(aE.s a)≤1048576:=by omega
 have aPS:(qR (fun x:List Int=>x.length) b)≤1048576:=by omega
 have bB6:=aPS;rw [fM] at bB6;have hseal:=QS.bE8 (aFT a (by omega) f b (by have:=aJ2 b;omega)) (fun y hy=>sN hy) (aU5 [] [I (c6 a f b).2])
 first | refine aG.mk (qC a aTW) ?_ | refine aD.mk (qC a aTW) ?_
 simp -dsimp -implicitDefEqProofs only [go_sem,↓reduceIte,Tryz.f4,Bool.true_or,Bool.or_true,Bool.false_or,Bool.or_false,iT,eq_self,decide_true,Bool.not_true,bne_self_eq_false,aO,cF,OV.eE,OV.bT,OV.eV,aE.aQ]
 repeat' (with_reducible first | intro _ | refine And.intro ?_ ?_)
 all_goals try trivial
 first | refine aG.mk (qD b (by rw [fM] at aPS;omega) (fun y hy=>sC y (by have hq:y.length≤((b).map (fun x:List Int=>x.length)).sum:=kS (fun x:List Int=>x.length) hy;omega))) ?_ | refine aD.mk (qD b (by rw [fM] at aPS;omega) (fun y hy=>sC y (by have hq:y.length≤((b).map (fun x:List Int=>x.length)).sum:=kS (fun x:List Int=>x.length) hy;omega))) ?_
 simp -dsimp -implicitDefEqProofs only [go_sem,↓reduceIte,Tryz.f4,Bool.true_or,Bool.or_true,Bool.false_or,Bool.or_false,iT,eq_self,decide_true,Bool.not_true,bne_self_eq_false,aO,cF,OV.eE,OV.bT,OV.eV,aE.aQ]
 repeat' (with_reducible first | intro _ | refine And.intro ?_ ?_)
 all_goals try trivial
 first | refine aG.mk (v7 a (by omega) f b (by have:=aJ2 b;omega)) ?_ | refine aD.mk (v7 a (by omega) f b (by have:=aJ2 b;omega)) ?_
 simp -dsimp -implicitDefEqProofs only [go_sem,↓reduceIte,Tryz.f4,Bool.true_or,Bool.or_true,Bool.false_or,Bool.or_false,iT,eq_self,decide_true,Bool.not_true,bne_self_eq_false,aO,cF,OV.eE,OV.bT,OV.eV,aE.aQ]
 refine aG.wn0 (aLO a aTW)  ?_
 rintro r l1 g1 ⟨e0_,oe0,rfl,rfl⟩ w1
 have oo0:=oe0
 obtain ⟨zT,rfl,gO⟩:=oo0
 have a3J:fR g1 (OV.bR [zT]):=w1.iD
 simp -dsimp -implicitDefEqProofs only [go_sem,↓reduceIte,Tryz.f4,Bool.true_or,Bool.or_true,Bool.false_or,Bool.or_false,iT,eq_self,decide_true,Bool.not_true,bne_self_eq_false,aO,cF,OV.eE,OV.bT,OV.eV,aE.aQ,gO.flat,gO.one]
 intro nx0 bB8
 have a6R:=bB8
 clear bB8
 try simp -dsimp -implicitDefEqProofs only [go_sem,↓reduceIte,Tryz.f4,Bool.true_or,Bool.or_true,Bool.false_or,Bool.or_false,iT,eq_self,decide_true,Bool.not_true,bne_self_eq_false,aO,cF,OV.eE,OV.bT,OV.eV,aE.aQ,gO.flat,gO.one]
 refine aG.wn1 (aLP b (by rw [fM] at aPS;omega) (fun y hy=>aOE y (by have hq:y.length≤((b).map (fun x:List Int=>x.length)).sum:=kS (fun x:List Int=>x.length) hy;omega))) a6R ?_
 rintro r l2 g2 ⟨w6,gP,rfl,rfl⟩ w2 aPT
 have aX0:fR g2 (OV.bR [zT]):=fun p hp=>w2.keep (a3J p hp)
 have aX1:fR g2 w6.rows:=w2.iD
 simp -dsimp -implicitDefEqProofs only [go_sem,↓reduceIte,Tryz.f4,Bool.true_or,Bool.or_true,Bool.false_or,Bool.or_false,iT,eq_self,decide_true,Bool.not_true,bne_self_eq_false,aO,cF,OV.eE,OV.bT,OV.eV,aE.aQ,gO.flat,gO.one,gP.flat,gP.one]
 refine aG.wl1 (aFT a (by omega) f b (by have:=aJ2 b;omega)) (eD.cons (View.bAF [zT] (aE.aEG oe0) (fR.up1 aPT aX0)) (eD.cons (View.same _ _) (eD.cons (View.ovD w6 (OS.lQ (c:=(fun x=>[cY 1 (fun n=>[I n]) x])) (fun _ _ q=>aH8 (c:=(fun n=>[I n])) (fun _ _ q=>xI q) q) gP) (fR.up1 aPT aX1)) eD.nil))) (QS.fI (fun y hy=>OS.aU2 (fun z hz e q=>aY8 (fun _ _ _ q=>aN4 (fun _=>rfl) q) q) hy) (fun x hx=>by simp [aC.fI,aC.xG,hx])) aPT ?_
 rintro r l3 g3 ⟨zU,kM,rfl,rfl⟩ w3 aFX
 have aX2:fR g3 (OV.bR [zT]):=fun p hp=>w3.keep (aX0 p hp)
 have a3K:fR g3 w6.rows:=fun p hp=>w3.keep (aX1 p hp)
 have bB9:fR g3 zU.rows:=w3.iD
 have bCA:∀ m∈a4 (OV.bR [zT]),m ∉ a4 zU.rows:=fun m hm hq=>by
  obtain ⟨x,hx⟩:=b5.1 hm
  have h1:=w3.fresh m hq
  have h2:=aX0 (m,x) hx
  rw [h1] at h2;cases h2
 have bCB:∀ m∈a4 w6.rows,m ∉ a4 zU.rows:=fun m hm hq=>by
  obtain ⟨x,hx⟩:=b5.1 hm
  have h1:=w3.fresh m hq
  have h2:=aX1 (m,x) hx
  rw [h1] at h2;cases h2
 have a6S:∀ m∈a4 (OV.bR [zT]),m ∉ a4 w6.rows:=fun m hm hq=>by
  obtain ⟨x,hx⟩:=b5.1 hm
  have h1:=w2.fresh m hq
  have h2:=a3J (m,x) hx
  rw [h1] at h2;cases h2
 have nd0:=w1.nodup
 have nd1:=w2.nodup
 have ndg:=w3.nodup
 simp -dsimp -implicitDefEqProofs only [go_sem,↓reduceIte,Tryz.f4,Bool.true_or,Bool.or_true,Bool.false_or,Bool.or_false,iT,eq_self,decide_true,Bool.not_true,bne_self_eq_false,aO,cF,OV.eE,OV.bT,OV.eV,aE.aQ,gO.flat,gO.one,gP.flat,gP.one,kM.flat,kM.one]
 refine aG.aBI (tT (c6 a f b).1 (c6 a f b).1 (fun x _ y=>(wL x y))) (eD.cons (View.ovD zU (OS.lQ (c:=(fun x=>[cY 1 (fun n=>[I n]) x])) (fun _ _ q=>aH8 (c:=(fun n=>[I n])) (fun _ _ q=>xI q) q) kM) (fR.up1 aFX bB9)) (eD.cons (View.same _ _) eD.nil)) rfl ?_
 simp -dsimp -implicitDefEqProofs only [go_sem,↓reduceIte,Tryz.f4,Bool.true_or,Bool.or_true,Bool.false_or,Bool.or_false,iT,eq_self,decide_true,Bool.not_true,bne_self_eq_false,aO,cF,OV.eE,OV.bT,OV.eV,aE.aQ,gO.flat,gO.one,gP.flat,gP.one,kM.flat,kM.one]
 repeat' (with_reducible first | intro _ | refine And.intro ?_ ?_)
 all_goals try (first | exact ⟨_,aA.le_refl _,rfl⟩ | exact ⟨_,aA.le_refl _⟩)
 all_goals try omega
 refine aG.mk (qC a aTW) ?_
 simp -dsimp -implicitDefEqProofs only [go_sem,↓reduceIte,Tryz.f4,Bool.true_or,Bool.or_true,Bool.false_or,Bool.or_false,iT,eq_self,decide_true,Bool.not_true,bne_self_eq_false,aO,cF,OV.eE,OV.bT,OV.eV,aE.aQ,gO.flat,gO.one,gP.flat,gP.one,kM.flat,kM.one]
 repeat' (with_reducible first | intro _ | refine And.intro ?_ ?_)
 all_goals try trivial
 refine aG.aBI (aOU a a) (eD.cons (View.bAF [zT] (aE.aEG oe0) (fR.up1 aFX aX2)) (eD.cons (by first | exact View.same _ _ | (simp only [aE.aQ];exact View.same _ _)) eD.nil)) rfl ?_
 simp -dsimp -implicitDefEqProofs only [go_sem,↓reduceIte,Tryz.f4,Bool.true_or,Bool.or_true,Bool.false_or,Bool.or_false,iT,eq_self,decide_true,Bool.not_true,bne_self_eq_false,aO,cF,OV.eE,OV.bT,OV.eV,aE.aQ,gO.flat,gO.one,gP.flat,gP.one,kM.flat,kM.one]
 repeat' (with_reducible first | intro _ | refine And.intro ?_ ?_)
 all_goals try (first | exact ⟨_,aA.le_refl _,rfl⟩ | exact ⟨_,aA.le_refl _⟩)
 all_goals try omega
 refine aG.mk (qD b (by rw [fM] at aPS;omega) (fun y hy=>sC y (by have hq:y.length≤((b).map (fun x:List Int=>x.length)).sum:=kS (fun x:List Int=>x.length) hy;omega))) ?_
 simp -dsimp -implicitDefEqProofs only [go_sem,↓reduceIte,Tryz.f4,Bool.true_or,Bool.or_true,Bool.false_or,Bool.or_false,iT,eq_self,decide_true,Bool.not_true,bne_self_eq_false,aO,cF,OV.eE,OV.bT,OV.eV,aE.aQ,gO.flat,gO.one,gP.flat,gP.one,kM.flat,kM.one]
 repeat' (with_reducible first | intro _ | refine And.intro ?_ ?_)
 all_goals try trivial
 refine aG.aBI (tT b b (fun x _ y=>(wL x y))) (eD.cons (View.ovD w6 (OS.lQ (c:=(fun x=>[cY 1 (fun n=>[I n]) x])) (fun _ _ q=>aH8 (c:=(fun n=>[I n])) (fun _ _ q=>xI q) q) gP) (fR.up1 aFX a3K)) (eD.cons (View.same _ _) eD.nil)) rfl ?_
 simp -dsimp -implicitDefEqProofs only [go_sem,↓reduceIte,Tryz.f4,Bool.true_or,Bool.or_true,Bool.false_or,Bool.or_false,iT,eq_self,decide_true,Bool.not_true,bne_self_eq_false,aO,cF,OV.eE,OV.bT,OV.eV,aE.aQ,gO.flat,gO.one,gP.flat,gP.one,kM.flat,kM.one]
 repeat' (with_reducible first | intro _ | refine And.intro ?_ ?_)
 all_goals try (first | exact ⟨_,aA.le_refl _,rfl⟩ | exact ⟨_,aA.le_refl _⟩)
 all_goals try omega
 have bI3:=aE.bAN a _ oe0
 refine aG.wc1 (aJ5 a [zT] (1:Int) _ oe0 (by omega) (by omega) (fR.up1 aFX aX2) nd0) aX2 aFX ?_
 rintro g4 cg4 aX3
 obtain ⟨cc0,bFW⟩:∃ z:Int,z = (1:Int) + ((OV.vK [zT]:Nat):Int):=⟨_,rfl⟩
 rw [← bFW]
 have a3L:fR g4 w6.rows:=fun p hp=>by
  have hm:p.1∈a4 w6.rows:=b5.2 ⟨p.2,hp⟩
  rw [cg4.upto p.1 (fun hq=>a6S p.1 hq hm)]
  exact a3K p hp
 have bFX:fR g4 zU.rows:=fun p hp=>by
  have hm:p.1∈a4 zU.rows:=b5.2 ⟨p.2,hp⟩
  rw [cg4.upto p.1 (fun hq=>bCA p.1 hq hm)]
  exact bB9 p hp
 simp -dsimp -implicitDefEqProofs only [go_sem,↓reduceIte,Tryz.f4,Bool.true_or,Bool.or_true,Bool.false_or,Bool.or_false,iT,eq_self,decide_true,Bool.not_true,bne_self_eq_false,aO,cF,OV.eE,OV.bT,OV.eV,aE.aQ,gO.flat,gO.one,gP.flat,gP.one,kM.flat,kM.one]
 repeat' (with_reducible first | intro _ | refine And.intro ?_ ?_)
 all_goals try (first | exact ⟨_,aA.le_refl _,rfl⟩ | exact ⟨_,aA.le_refl _⟩)
 all_goals try omega
 have bI4:=OS.cts (s:=(fun x:List Int=>x.length)) gP (fun z hz e q=>aU3 q)
 refine aG.wc1 (zQ b w6 cc0 _ gP (by omega) (by omega) (fR.up1 aX3 a3L) nd1) a3L aX3 ?_
 rintro g5 cg5 aPU
 obtain ⟨cc1,bFY⟩:∃ z:Int,z = cc0 + ((w6.ct:Nat):Int):=⟨_,rfl⟩
 rw [← bFY]
 have a6T:fR g5 zU.rows:=fun p hp=>by
  have hm:p.1∈a4 zU.rows:=b5.2 ⟨p.2,hp⟩
  rw [cg5.upto p.1 (fun hq=>bCB p.1 hq hm)]
  exact bFX p hp
 simp -dsimp -implicitDefEqProofs only [go_sem,↓reduceIte,Tryz.f4,Bool.true_or,Bool.or_true,Bool.false_or,Bool.or_false,iT,eq_self,decide_true,Bool.not_true,bne_self_eq_false,aO,cF,OV.eE,OV.bT,OV.eV,aE.aQ,gO.flat,gO.one,gP.flat,gP.one,kM.flat,kM.one]
 repeat' (with_reducible first | intro _ | refine And.intro ?_ ?_)
 all_goals try (first | exact ⟨_,aA.le_refl _,rfl⟩ | exact ⟨_,aA.le_refl _⟩)
 all_goals try omega
 refine aG.aBI (tT (c6 a f b).1 (c6 a f b).1 (fun x _ y=>(wL x y))) (eD.cons (View.ovD zU (OS.lQ (c:=(fun x=>[cY 1 (fun n=>[I n]) x])) (fun _ _ q=>aH8 (c:=(fun n=>[I n])) (fun _ _ q=>xI q) q) kM) (fR.up1 aPU a6T)) (eD.cons (View.same _ _) eD.nil)) rfl ?_
 simp -dsimp -implicitDefEqProofs only [go_sem,↓reduceIte,Tryz.f4,Bool.true_or,Bool.or_true,Bool.false_or,Bool.or_false,iT,eq_self,decide_true,Bool.not_true,bne_self_eq_false,aO,cF,OV.eE,OV.bT,OV.eV,aE.aQ,gO.flat,gO.one,gP.flat,gP.one,kM.flat,kM.one]
 repeat' (with_reducible first | intro _ | refine And.intro ?_ ?_)
 all_goals try (first | exact ⟨_,aA.le_refl _,rfl⟩ | exact ⟨_,aA.le_refl _⟩)
 all_goals try omega
 have hctg:zU.ct≤4000000000000000000:=by have h1:=OS.cts (s:=List.length) kM (fun z hz e q=>aU3 q);have h2:=aJ3 a f b;omega
 refine aG.wc1 (zQ _ zU 1 _ kM (by omega) (by omega) (fR.up1 aPU a6T) ndg) a6T aPU ?_
 rintro g6 cg6 aX4
 obtain ⟨ccg,hccg⟩:∃ z:Int,z = 1 + ((zU.ct:Nat):Int):=⟨_,rfl⟩
 rw [← hccg]
 simp -dsimp -implicitDefEqProofs only [go_sem,↓reduceIte,Tryz.f4,Bool.true_or,Bool.or_true,Bool.false_or,Bool.or_false,iT,eq_self,decide_true,Bool.not_true,bne_self_eq_false,aO,cF,OV.eE,OV.bT,OV.eV,aE.aQ,gO.flat,gO.one,gP.flat,gP.one,kM.flat,kM.one]
 repeat' (with_reducible first | intro _ | refine And.intro ?_ ?_)
 all_goals try (first | exact ⟨_,aA.le_refl _,rfl⟩ | exact ⟨_,aA.le_refl _⟩)
 all_goals try omega
 have hh:=zR _ zU 1 kM (by omega) (by omega)
 rw [← hccg] at hh
 refine aG.aBI hh (eD.cons (View.ovM 1 kM (fR.up1 aX4 cg6.iD)) (eD.cons (View.same _ _) eD.nil)) rfl ?_
 simp -dsimp -implicitDefEqProofs only [go_sem,↓reduceIte,Tryz.f4,Bool.true_or,Bool.or_true,Bool.false_or,Bool.or_false,iT,eq_self,decide_true,Bool.not_true,bne_self_eq_false,aO,cF,OV.eE,OV.bT,OV.eV,aE.aQ,gO.flat,gO.one,gP.flat,gP.one,kM.flat,kM.one]
 repeat' (with_reducible first | intro _ | refine And.intro ?_ ?_)
 all_goals try (first | exact ⟨_,aA.le_refl _,rfl⟩ | exact ⟨_,aA.le_refl _⟩)
 all_goals try omega
 first | refine aG.mk (qC a aTW) ?_ | refine aD.mk (qC a aTW) ?_
 simp -dsimp -implicitDefEqProofs only [go_sem,↓reduceIte,Tryz.f4,Bool.true_or,Bool.or_true,Bool.false_or,Bool.or_false,iT,eq_self,decide_true,Bool.not_true,bne_self_eq_false,aO,cF,OV.eE,OV.bT,OV.eV,aE.aQ,gO.flat,gO.one,gP.flat,gP.one,kM.flat,kM.one]
 repeat' (with_reducible first | intro _ | refine And.intro ?_ ?_)
 all_goals try trivial
 first | refine aG.mk (qD b (by rw [fM] at aPS;omega) (fun y hy=>sC y (by have hq:y.length≤((b).map (fun x:List Int=>x.length)).sum:=kS (fun x:List Int=>x.length) hy;omega))) ?_ | refine aD.mk (qD b (by rw [fM] at aPS;omega) (fun y hy=>sC y (by have hq:y.length≤((b).map (fun x:List Int=>x.length)).sum:=kS (fun x:List Int=>x.length) hy;omega))) ?_
 simp -dsimp -implicitDefEqProofs only [go_sem,↓reduceIte,Tryz.f4,Bool.true_or,Bool.or_true,Bool.false_or,Bool.or_false,iT,eq_self,decide_true,Bool.not_true,bne_self_eq_false,aO,cF,OV.eE,OV.bT,OV.eV,aE.aQ,gO.flat,gO.one,gP.flat,gP.one,kM.flat,kM.one]
 repeat' (with_reducible first | intro _ | refine And.intro ?_ ?_)
 all_goals try trivial
 first | refine aG.mk (hseal) ?_ | refine aD.mk (hseal) ?_
 simp -dsimp -implicitDefEqProofs only [go_sem,↓reduceIte,Tryz.f4,Bool.true_or,Bool.or_true,Bool.false_or,Bool.or_false,iT,eq_self,decide_true,Bool.not_true,bne_self_eq_false,aO,cF,OV.eE,OV.bT,OV.eV,aE.aQ,gO.flat,gO.one,gP.flat,gP.one,kM.flat,kM.one]
 refine aG.mk (tT (c6 a f b).1 (c6 a f b).1 (fun x _ y=>(wL x y))) ?_
 simp -dsimp -implicitDefEqProofs only [go_sem,↓reduceIte,Tryz.f4,Bool.true_or,Bool.or_true,Bool.false_or,Bool.or_false,iT,eq_self,decide_true,Bool.not_true,bne_self_eq_false,aO,cF,OV.eE,OV.bT,OV.eV,aE.aQ,gO.flat,gO.one,gP.flat,gP.one,kM.flat,kM.one]
 repeat' (with_reducible first | intro _ | refine And.intro ?_ ?_)
 all_goals try (first | exact ⟨_,aA.le_refl _,rfl⟩ | exact ⟨_,aA.le_refl _⟩)
 all_goals try omega
 have hh:=zR _ zU 1 kM (by omega) (by omega)
 rw [← hccg] at hh
 refine aG.aBI hh (eD.cons (View.ovM 1 kM (fR.up1 aX4 cg6.iD)) (eD.cons (View.same _ _) eD.nil)) rfl ?_
 simp -dsimp -implicitDefEqProofs only [go_sem,↓reduceIte,Tryz.f4,Bool.true_or,Bool.or_true,Bool.false_or,Bool.or_false,iT,eq_self,decide_true,Bool.not_true,bne_self_eq_false,aO,cF,OV.eE,OV.bT,OV.eV,aE.aQ,gO.flat,gO.one,gP.flat,gP.one,kM.flat,kM.one]
 repeat' (with_reducible first | intro _ | refine And.intro ?_ ?_)
 all_goals try (first | exact ⟨_,aA.le_refl _,rfl⟩ | exact ⟨_,aA.le_refl _⟩)
 all_goals try omega
theorem uC {P:Program} {n:Nat} {t:TypeId} {xs:List aC} (hu:P.underlying t = some (.int .i64)) (h:sQ P n t xs):∃ i:Int,xs = [I i]∧InI i:=by
 match n,h with
 |0,h=>exact h.elim
 |n + 1,h =>
  simp only [sQ,hu] at h
  obtain ⟨i,rfl,hw⟩:=h
  refine ⟨i,rfl,?_⟩
  have h1:IntKind.min .i64 = -9223372036854775808:=by decide
  have h2:IntKind.max .i64 = 9223372036854775807:=by decide
  simp [Lit.wf,IntKind.has,h1,h2] at hw
  unfold InI
  omega
theorem a1I {P:Program} {n:Nat} {t:TypeId} {xs:List aC} (hu:P.underlying t = some .string) (h:sQ P n t xs):∃ s:List UInt8,xs = [.str s]∧True:=by
 match n,h with
 |0,h=>exact h.elim
 |n + 1,h =>
  simp only [sQ,hu] at h
  obtain ⟨b,rfl⟩:=h
  exact ⟨b,rfl,trivial⟩
theorem aSF {α:Type} {c:α→List aC} {w:α→Prop}:∀ {es:List (List aC)},(∀ y∈es,∃ x,y = c x∧w x)→∃ l:List α,es = l.map c∧∀ x∈l,w x
 | [],_=>⟨[],rfl,by simp⟩
 |e :: es,h=>by
  obtain ⟨x,rfl,hx⟩:=h _ List.mem_cons_self
  obtain ⟨l,rfl,hl⟩:=aSF fun y hy=>h y (List.mem_cons_of_mem _ hy)
  refine ⟨x :: l,rfl,fun y hy=>?_⟩
  rcases List.mem_cons.1 hy with rfl | hy
  ·exact hx
  ·exact hl y hy
theorem sP {P:Program} {n sz:Nat} {t e:TypeId} {α:Type} {c:α→List aC} {w:α→Prop} {xs:List aC} (hu:P.underlying t = some (.slice e)) (hc:P.cellsOf e = sz) (h:sQ P n t xs)
  (hx:∀ m y,m < n→sQ P m e y→∃ x,y = c x∧w x):∃ l:List α,xs = [cY sz c l]∧∀ x∈l,w x:=by
 match n,h with
 |0,h=>exact h.elim
 |n + 1,h =>
  simp only [sQ,hu] at h
  obtain ⟨es,rfl,hes⟩:=h
  obtain ⟨l,rfl,hl⟩:=aSF fun y hy=>hx n y (by omega) (hes y hy)
  exact ⟨l,by rw [hc],hl⟩
theorem kW {α:Type} {xs c r:List α} {o n o':Nat} (h:(xs.drop o).take n = c) (hr:xs.drop o' = r) (ho:o + n = o'):xs.drop o = c ++ r:=by
 rw [← hr,← ho,← List.drop_drop,← h,List.take_append_drop]
theorem a1J:Tryz.prog.cellsOf 24 = 1:=by kernel_rfl
theorem aA5:Tryz.prog.cellsOf 2 = 1:=by kernel_rfl
theorem aNF:Tryz.prog.cellsOf 138 = 1:=by kernel_rfl
theorem aFY:Tryz.prog.cellsOf 219 = 5:=by kernel_rfl
theorem a6U:Tryz.prog.cellsOf 9 = 1:=by kernel_rfl
theorem aNG:Tryz.prog.cellsOf 140 = 3:=by kernel_rfl
theorem a1K:Tryz.prog.cellsOf 22 = 1:=by kernel_rfl
theorem a1L:Tryz.prog.cellsOf 25 = 1:=by kernel_rfl
theorem aSG:∀ {n:Nat} {xs:List aC},sQ Tryz.prog n 219 xs→∃ x:aB,xs = x.c∧x.wf
 |0,_,h=>h.elim
 |n + 1,xs,h=>by
  simp only [sQ,Tryz.underlying219] at h
  obtain ⟨hl,hf⟩:=h
  rw [aFY] at hl
  have f0:sQ Tryz.prog n 2 ((xs.drop 0).take (Tryz.prog.cellsOf 2)):=hf 0 _ rfl
  rw [aA5] at f0
  obtain ⟨x0,e0,w0⟩:=(uC Tryz.underlying2 f0)
  have f1:sQ Tryz.prog n 2 ((xs.drop 1).take (Tryz.prog.cellsOf 2)):=hf 1 _ rfl
  rw [aA5] at f1
  obtain ⟨x1,e1,w1⟩:=(uC Tryz.underlying2 f1)
  have f2:sQ Tryz.prog n 2 ((xs.drop 2).take (Tryz.prog.cellsOf 2)):=hf 2 _ rfl
  rw [aA5] at f2
  obtain ⟨x2,e2,w2⟩:=(uC Tryz.underlying2 f2)
  have f3:sQ Tryz.prog n 2 ((xs.drop 3).take (Tryz.prog.cellsOf 2)):=hf 3 _ rfl
  rw [aA5] at f3
  obtain ⟨x3,e3,w3⟩:=(uC Tryz.underlying2 f3)
  have f4:sQ Tryz.prog n 138 ((xs.drop 4).take (Tryz.prog.cellsOf 138)):=hf 4 _ rfl
  rw [aNF] at f4
  obtain ⟨x4,e4,w4⟩:=(sP (c:=aB.c) (w:=(fun x=>x.wf)) Tryz.underlying138 aFY f4 (fun m y hm hy=>(aSG hy)))
  have r5:xs.drop 5 = []:=List.drop_eq_nil_of_le (by omega)
  have r4:=kW e4 r5 rfl
  have r3:=kW e3 r4 rfl
  have r2:=kW e2 r3 rfl
  have r1:=kW e1 r2 rfl
  have r0:=kW e0 r1 rfl
  exact ⟨.mk x0 x1 x2 x3 x4,by rw [aB.aQ];exact r0,.mk _ w0 w1 w2 w3 w4⟩
termination_by n=>n
decreasing_by all_goals omega
theorem a1M:∀ {n:Nat} {xs:List aC},sQ Tryz.prog n 140 xs→∃ x:aS,xs = x.c∧x.wf
 |0,_,h=>h.elim
 |n + 1,xs,h=>by
  simp only [sQ,Tryz.underlying140] at h
  obtain ⟨hl,hf⟩:=h
  rw [aNG] at hl
  have f0:sQ Tryz.prog n 9 ((xs.drop 0).take (Tryz.prog.cellsOf 9)):=hf 0 _ rfl
  rw [a6U] at f0
  obtain ⟨x0,e0,w0⟩:=(a1I Tryz.underlying9 f0)
  have f1:sQ Tryz.prog n 2 ((xs.drop 1).take (Tryz.prog.cellsOf 2)):=hf 1 _ rfl
  rw [aA5] at f1
  obtain ⟨x1,e1,w1⟩:=(uC Tryz.underlying2 f1)
  have f2:sQ Tryz.prog n 138 ((xs.drop 2).take (Tryz.prog.cellsOf 138)):=hf 2 _ rfl
  rw [aNF] at f2
  obtain ⟨x2,e2,w2⟩:=(sP (c:=aB.c) (w:=(fun x=>x.wf)) Tryz.underlying138 aFY f2 (fun m y hm hy=>(aSG hy)))
  have r3:xs.drop 3 = []:=List.drop_eq_nil_of_le (by omega)
  have r2:=kW e2 r3 rfl
  have r1:=kW e1 r2 rfl
  have r0:=kW e0 r1 rfl
  exact ⟨⟨x0,x1,x2⟩,r0,⟨w1,w2⟩⟩
theorem a6V:∀ {n:Nat} {xs:List aC},sQ Tryz.prog n 24 xs→∃ x:aE,xs = x.c∧x.wf
 |0,_,h=>h.elim
 |n + 1,xs,h=>by
  simp only [sQ,Tryz.underlying24] at h
  obtain ⟨hl,hf⟩:=h
  rw [a1J] at hl
  have f0:sQ Tryz.prog n 22 ((xs.drop 0).take (Tryz.prog.cellsOf 22)):=hf 0 _ rfl
  rw [a1K] at f0
  obtain ⟨x0,e0,w0⟩:=(sP (c:=aS.c) (w:=(fun x=>x.wf)) Tryz.underlying22 aNG f0 (fun m y hm hy=>(a1M hy)))
  have r1:xs.drop 1 = []:=List.drop_eq_nil_of_le (by omega)
  have r0:=kW e0 r1 rfl
  exact ⟨⟨x0⟩,r0,w0⟩
def bCC:List TypeId:=[2,5,9,22,24,25,27,45,138,140,219]
theorem a1N:aST Tryz.prog bCC = true:=by kernel_rfl
end Go.Hl

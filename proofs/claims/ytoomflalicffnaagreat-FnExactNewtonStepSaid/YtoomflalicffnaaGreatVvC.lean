/-
  Contracts of functions and laws of the layer over the walk.
-/
import Derived.Test.YtoomflalicffnaaGreatVvB
import Derived.Test.YtoomflalicffnaaGreatHlD
import Derived.Test.YtoomflalicffnaaGreatGn
import Derived.Test.YtoomflalicffnaaGreatVvA
namespace Go.Hl
set_option maxRecDepth 100000
open Go.Proofs
set_option linter.unusedVariables false
set_option linter.unusedSimpArgs false
theorem aZM {p:aE} (hp:p.ok) {sz n:Nat} (hv:oY p sz n) (h:aA) (nb st:Nat) (e:aB) (env:List (List Int)) (funcs:Int) (hb:h nb = some (dK p sz st 0)) (hst:st≤3000) (hn:3001≤n + st) (hok:e.ok p funcs env.length) (eM:0≤funcs) (hf:funcs≤p.aJ.length) (henv:∀ s∈env,bD sz s) (hel:env.length≤412 + st) (hk:e.aR = 10) :
  fE Tryz.prog 215 [.op nb 4 0 0,.ip 5 [e.c] 0 0,bB env] h (RnQ h nb p sz st 0 ((lP (fun t e=>jD p sz n t e env) e.aI st).andThen fun vs t=>jD p sz n t (p.out e.aW e.cB) vs)):=by
 obtain ⟨f,F⟩:=nM hp hok hf (.inl hk)
 have f1:=F.lo
 have f2:=F.hi
 have f3:=F.pk
 have f4:=F.pk2
 have f5:=F.kids
 have f6:=F.params
 have f8:=F.outs
 have f9:=F.loop
 have hkok:=eQ hok (by omega)
 rw [aB.aQ]
 refine iY 81 aBN aBO aBP mix Tryz.func215 rfl (by kernel_rfl) (by simp) ?_
 simp -dsimp -implicitDefEqProofs only [go_sem,↓reduceIte,Tryz.f215]
 refine ⟨Nat.zero_lt_one,?_⟩
 refine bQ (keep:=aBN) (ib:=aBO) (mk:=aBP) mix (by kernel_rfl) (fun x:Nat × List (List Int) × Nat × Int × Option Nat=>[(0,.op nb 4 0 0),(1,.ip 5 [[I e.aR,I e.aW,I e.cB,I e.bZ,cY 5 aB.c e.aI]] 0 0),(2,bB env),(7,eU 1 x.2.1.length x.2.2.2.2),(8,I x.1)]) (fun x=>gB (a7 h nb (dK p sz x.2.2.1 x.2.2.2.1)) (.row 1 ((x.2.1.map fun s=>[ints s]).map (List.map .v))) x.2.2.2.2) (fun x=>x.1≤e.aI.length∧x.2.1.length = x.1∧(∀ s∈x.2.1,bD sz s)∧st≤x.2.2.1∧x.2.2.1≤3000∧j9 (oE 0 (lP (fun t e=>jD p sz n t e env) (e.aI.take x.1) st)) x.2.1 x.2.2.1 x.2.2.2.1∧eF h x.2.1 x.2.2.2.2) (fun x=>e.aI.length - x.1) (0,[],st,0,none) ⟨by simp [bU,bF,eU],by simp only [aP];rw [sB hb];exact aA.le_refl _,Nat.zero_le _,rfl,by simp,Nat.le_refl _,hst,gX _ _ _,rfl⟩ ?_
 rintro ⟨k,vs,t,c',o⟩ ⟨hk2,hvl,hvs,ht0,ht,ho,hos⟩
 simp only at hk2 hvl hvs ht0 ht ho hos ⊢
 rcases Nat.lt_or_ge k e.aI.length with hlt | hge
 ·have ek:e.aI[k]? = some e.aI[k]:=List.getElem?_eq_getElem hlt
  have hnext:∀ (s:List Int) (t2:Nat) (c2:Int),j9 (oE c' (jD p sz n t e.aI[k] env)) s t2 c2→j9 (oE 0 (lP (fun t e=>jD p sz n t e env) (e.aI.take (k + 1)) st)) (vs ++ [s]) t2 c2:=fun s t2 c2 h3=>by
   rw [List.take_succ_eq_append_getElem hlt,wC]
   exact ho.eY (h3.eY (gX _ _ _))
  have hall:∀ s,bD sz s→∀ x∈vs ++ [s],bD sz x:=fun s hs=>tI hvs hs
  cases o with
  |none =>
   rw [a6] at hos
   subst hos
   simp -dsimp -implicitDefEqProofs only [go_sem,↓reduceIte,Tryz.f215,a8,aP,hlt,ek]
   intro _
   refine aG.gQ (hv.at ek (a7 h nb (dK p sz t c')) nb t c' env funcs (aH _ _ _) ht (by omega) (hkok _ (List.getElem_mem _)) eM hf henv (by omega)) ?_
   rintro r h' ⟨s,t2,c2,rfl,rfl,hs,h1,h2,h3⟩
   simp -dsimp -implicitDefEqProofs only [go_sem,↓reduceIte,Tryz.f215]
   refine ⟨Nat.zero_lt_one,Nat.zero_lt_one,Nat.zero_lt_one,?_⟩
   intro b bA
   have bV:¬ b = nb:=by first | exact bA.1 | exact bA | exact bA.2.1 | exact bA.2 | exact bA.2.2.1 | exact bA.2.2 | exact bA.2.2.2.1 | exact bA.2.2.2 | exact bA.2.2.2.2.1 | exact bA.2.2.2.2 | exact bA.2.2.2.2.2.1 | exact bA.2.2.2.2.2 | exact bA.2.2.2.2.2.2.1 | exact bA.2.2.2.2.2.2 | exact bA.2.2.2.2.2.2.2.1 | exact bA.2.2.2.2.2.2.2 | exact bA.2.2.2.2.2.2.2.2.1 | exact bA.2.2.2.2.2.2.2.2 | exact bA.2.2.2.2.2.2.2.2.2.1 | exact bA.2.2.2.2.2.2.2.2.2 | exact bA.2.2.2.2.2.2.2.2.2.2.1 | exact bA.2.2.2.2.2.2.2.2.2.2 | exact bA.2.2.2.2.2.2.2.2.2.2.2.1 | exact bA.2.2.2.2.2.2.2.2.2.2.2 | exact bA.2.2.2.2.2.2.2.2.2.2.2.2.1 | exact bA.2.2.2.2.2.2.2.2.2.2.2.2 | exact bA.2.2.2.2.2.2.2.2.2.2.2.2.2.1 | exact bA.2.2.2.2.2.2.2.2.2.2.2.2.2
   have cT:(b = nb) = False:=eq_false bV
   have cU:(nb = b) = False:=eq_false (Ne.symm bV)
   have dS:¬ nb = b:=Ne.symm bV
   have z_b:h b = none:=by first | exact bA.1 | exact bA | exact bA.2.1 | exact bA.2 | exact bA.2.2.1 | exact bA.2.2 | exact bA.2.2.2.1 | exact bA.2.2.2 | exact bA.2.2.2.2.1 | exact bA.2.2.2.2 | exact bA.2.2.2.2.2.1 | exact bA.2.2.2.2.2 | exact bA.2.2.2.2.2.2.1 | exact bA.2.2.2.2.2.2 | exact bA.2.2.2.2.2.2.2.1 | exact bA.2.2.2.2.2.2.2 | exact bA.2.2.2.2.2.2.2.2.1 | exact bA.2.2.2.2.2.2.2.2 | exact bA.2.2.2.2.2.2.2.2.2.1 | exact bA.2.2.2.2.2.2.2.2.2 | exact bA.2.2.2.2.2.2.2.2.2.2.1 | exact bA.2.2.2.2.2.2.2.2.2.2 | exact bA.2.2.2.2.2.2.2.2.2.2.2.1 | exact bA.2.2.2.2.2.2.2.2.2.2.2 | exact bA.2.2.2.2.2.2.2.2.2.2.2.2.1 | exact bA.2.2.2.2.2.2.2.2.2.2.2.2 | exact bA.2.2.2.2.2.2.2.2.2.2.2.2.2.1 | exact bA.2.2.2.2.2.2.2.2.2.2.2.2.2
   refine ⟨(k + 1,[s],t2,c2,some b),⟨rfl,by rw [IntWalk.i64_in _ (by omega)];rfl⟩,(lL (by repeat' (first | exact jN _ _ | refine lM (by simp only [dX,↓reduceIte,eq_self,if_true,cU,cT,List.map_cons,List.map_nil]) ?_ | refine iG (by first | exact .inr (by assumption) | exact .inl (by simp)) ?_))),⟨by omega,by simp only [List.length_nil] at hvl;subst hvl;rfl,fun x hx=>hall s hs x hx,Nat.le_trans ht0 h1,h2,hnext s t2 c2 h3,z_b⟩,by simp only;omega⟩
  |some m =>
   rw [aU] at hos
   have eI:¬ m = nb:=fun e=>by rw [e,hb] at hos;cases hos
   have dM:¬ nb = m:=Ne.symm eI
   have dY:(m = nb) = False:=eq_false eI
   have dZ:(nb = m) = False:=eq_false dM
   simp -dsimp -implicitDefEqProofs only [go_sem,↓reduceIte,Tryz.f215,aT,aK,hlt,ek]
   intro _
   refine aG.gQ (hv.at ek (a7 (a7 h nb (dK p sz t c')) m (.row 1 ((vs.map fun s=>[ints s]).map (List.map .v)))) nb t c' env funcs (by rw [aF _ _ _ _ dM,aH]) ht (by omega) (hkok _ (List.getElem_mem _)) eM hf henv (by omega)) ?_
   rintro r h' ⟨s,t2,c2,rfl,rfl,hs,h1,h2,h3⟩
   simp -dsimp -implicitDefEqProofs only [go_sem,↓reduceIte,Tryz.f215,aF,dY,dZ]
   refine ⟨Nat.zero_lt_one,Nat.zero_lt_one,Nat.zero_lt_one,Nat.le_refl _,by omega,by omega,?_⟩
   intro b bA
   have bV:¬ b = nb:=by first | exact bA.1 | exact bA | exact bA.2.1 | exact bA.2 | exact bA.2.2.1 | exact bA.2.2 | exact bA.2.2.2.1 | exact bA.2.2.2 | exact bA.2.2.2.2.1 | exact bA.2.2.2.2 | exact bA.2.2.2.2.2.1 | exact bA.2.2.2.2.2 | exact bA.2.2.2.2.2.2.1 | exact bA.2.2.2.2.2.2 | exact bA.2.2.2.2.2.2.2.1 | exact bA.2.2.2.2.2.2.2 | exact bA.2.2.2.2.2.2.2.2.1 | exact bA.2.2.2.2.2.2.2.2 | exact bA.2.2.2.2.2.2.2.2.2.1 | exact bA.2.2.2.2.2.2.2.2.2 | exact bA.2.2.2.2.2.2.2.2.2.2.1 | exact bA.2.2.2.2.2.2.2.2.2.2 | exact bA.2.2.2.2.2.2.2.2.2.2.2.1 | exact bA.2.2.2.2.2.2.2.2.2.2.2 | exact bA.2.2.2.2.2.2.2.2.2.2.2.2.1 | exact bA.2.2.2.2.2.2.2.2.2.2.2.2 | exact bA.2.2.2.2.2.2.2.2.2.2.2.2.2.1 | exact bA.2.2.2.2.2.2.2.2.2.2.2.2.2
   have cT:(b = nb) = False:=eq_false bV
   have cU:(nb = b) = False:=eq_false (Ne.symm bV)
   have dS:¬ nb = b:=Ne.symm bV
   have gU:¬ b = m:=by first | exact bA.1 | exact bA | exact bA.2.1 | exact bA.2 | exact bA.2.2.1 | exact bA.2.2 | exact bA.2.2.2.1 | exact bA.2.2.2 | exact bA.2.2.2.2.1 | exact bA.2.2.2.2 | exact bA.2.2.2.2.2.1 | exact bA.2.2.2.2.2 | exact bA.2.2.2.2.2.2.1 | exact bA.2.2.2.2.2.2 | exact bA.2.2.2.2.2.2.2.1 | exact bA.2.2.2.2.2.2.2 | exact bA.2.2.2.2.2.2.2.2.1 | exact bA.2.2.2.2.2.2.2.2 | exact bA.2.2.2.2.2.2.2.2.2.1 | exact bA.2.2.2.2.2.2.2.2.2 | exact bA.2.2.2.2.2.2.2.2.2.2.1 | exact bA.2.2.2.2.2.2.2.2.2.2 | exact bA.2.2.2.2.2.2.2.2.2.2.2.1 | exact bA.2.2.2.2.2.2.2.2.2.2.2 | exact bA.2.2.2.2.2.2.2.2.2.2.2.2.1 | exact bA.2.2.2.2.2.2.2.2.2.2.2.2 | exact bA.2.2.2.2.2.2.2.2.2.2.2.2.2.1 | exact bA.2.2.2.2.2.2.2.2.2.2.2.2.2
   have k5:(b = m) = False:=eq_false gU
   have k6:(m = b) = False:=eq_false (Ne.symm gU)
   have j5:¬ m = b:=Ne.symm gU
   have z_b:h b = none:=by first | exact bA.1 | exact bA | exact bA.2.1 | exact bA.2 | exact bA.2.2.1 | exact bA.2.2 | exact bA.2.2.2.1 | exact bA.2.2.2 | exact bA.2.2.2.2.1 | exact bA.2.2.2.2 | exact bA.2.2.2.2.2.1 | exact bA.2.2.2.2.2 | exact bA.2.2.2.2.2.2.1 | exact bA.2.2.2.2.2.2 | exact bA.2.2.2.2.2.2.2.1 | exact bA.2.2.2.2.2.2.2 | exact bA.2.2.2.2.2.2.2.2.1 | exact bA.2.2.2.2.2.2.2.2 | exact bA.2.2.2.2.2.2.2.2.2.1 | exact bA.2.2.2.2.2.2.2.2.2 | exact bA.2.2.2.2.2.2.2.2.2.2.1 | exact bA.2.2.2.2.2.2.2.2.2.2 | exact bA.2.2.2.2.2.2.2.2.2.2.2.1 | exact bA.2.2.2.2.2.2.2.2.2.2.2 | exact bA.2.2.2.2.2.2.2.2.2.2.2.2.1 | exact bA.2.2.2.2.2.2.2.2.2.2.2.2 | exact bA.2.2.2.2.2.2.2.2.2.2.2.2.2.1 | exact bA.2.2.2.2.2.2.2.2.2.2.2.2.2
   refine ⟨(k + 1,vs ++ [s],t2,c2,some b),⟨by rw [aT,List.length_append];rfl,by rw [IntWalk.i64_in _ (by omega)];rfl⟩,?_,⟨by omega,by rw [List.length_append,hvl];rfl,hall s hs,Nat.le_trans ht0 h1,h2,hnext s t2 c2 h3,z_b⟩,by simp only;omega⟩
   simp only [aK]
   rw [← dQ ints]
   exact (lL (by repeat' (first | exact jN _ _ | refine lM (by simp only [dX,↓reduceIte,eq_self,if_true,cU,dZ,cT,k5,dY,k6]) ?_ | refine iG (by first | exact .inr (by assumption) | exact .inl (by simp)) ?_)))
 have hk':k = e.aI.length:=by omega
 subst hk'
 rw [List.take_length] at ho
 have gp:vs[e.cB.toNat]? = some (vs.getD e.cB.toNat [])∨e.aR = 10:=by
  by_cases h10:e.aR = 10
  ·exact .inr h10
  ·exact .inl (lN (by have:=f9 (by omega);omega))
 cases o with
 |none =>
  rw [a6] at hos
  subst hos
  simp -dsimp -implicitDefEqProofs only [go_sem,↓reduceIte,Tryz.f215,a8,aP,Nat.lt_irrefl,Int.lt_irrefl,dK,hk,F.get,F.out,aS.aQ,aE.aQ]
  intro _
  refine ⟨f1,f2,f3,by omega,?_⟩
  refine aG.gQ (fE.sub (.cons (.refl _) (.cons (.refl _) (.cons (Sub.loose _ _ _) .nil))) (hv.at F.out (a7 h nb (dK p sz t c')) nb t c' [] e.aW (aH _ _ _) ht (by omega) (by rw [hvl,f5];exact F.oks _ (List.mem_of_getElem? F.out)) f1 (by omega) (by simp) (by simp))) ?_
  rintro r h' ⟨s,t2,c2,rfl,rfl,hs,b1,b2,b3⟩
  simp -dsimp -implicitDefEqProofs only [go_sem,↓reduceIte,Tryz.f215]
  refine ⟨_,a7 h nb (dK p sz t2 c2),cG (by rw [aO];exact aA.le_refl _),s,t2,c2,rfl,rfl,hs,by omega,b2,?_⟩
  exact ho.eY b3
 |some m =>
  rw [aU] at hos
  have eI:¬ m = nb:=fun e=>by rw [e,hb] at hos;cases hos
  have dM:¬ nb = m:=Ne.symm eI
  have dY:(m = nb) = False:=eq_false eI
  have dZ:(nb = m) = False:=eq_false dM
  simp -dsimp -implicitDefEqProofs only [go_sem,↓reduceIte,Tryz.f215,aT,aK,Nat.lt_irrefl,Int.lt_irrefl,dK,aF,dY,dZ,hk,F.get,F.out,aS.aQ,aE.aQ]
  intro _
  refine ⟨f1,f2,f3,by omega,?_⟩
  refine aG.aEL rfl rfl dM (by rw [List.length_map]) (by rw [aF _ _ _ _ eI];exact hos) ?_
  refine fE.mono (hv.at F.out (a7 (a7 h nb (dK p sz t c')) m .gone) nb t c' vs e.aW (by rw [aF _ _ _ _ dM,aH]) ht (by omega) (by rw [hvl,f5];exact F.oks _ (List.mem_of_getElem? F.out)) f1 (by omega) hvs (by omega)) ?_
  rintro r h' ⟨s,t2,c2,rfl,rfl,hs,b1,b2,b3⟩
  simp -dsimp -implicitDefEqProofs only [go_sem,↓reduceIte,Tryz.f215]
  refine ⟨_,a7 h nb (dK p sz t2 c2),cG (lL (by repeat' (first | exact jN _ _ | refine lM (by simp only [dX,↓reduceIte,eq_self,if_true,dZ,dY]) ?_ | refine iG (by first | exact .inr (by assumption) | exact .inl (by simp)) ?_))),s,t2,c2,rfl,rfl,hs,by omega,b2,?_⟩
  exact ho.eY b3
theorem aZN {p:aE} (hp:p.ok) {sz n:Nat} (hv:oY p sz n) (h:aA) (nb st:Nat) (e:aB) (env:List (List Int)) (funcs:Int) (hb:h nb = some (dK p sz st 0)) (hst:st≤3000) (hn:3001≤n + st) (hok:e.ok p funcs env.length) (eM:0≤funcs) (hf:funcs≤p.aJ.length) (henv:∀ s∈env,bD sz s) (hel:env.length≤412 + st) (hk:e.aR = 11) :
  fE Tryz.prog 215 [.op nb 4 0 0,.ip 5 [e.c] 0 0,bB env] h (RnQ h nb p sz st 0 ((lP (fun t e=>jD p sz n t e env) e.aI st).andThen fun vs t=>(qE (fun vs t=>lP (fun t e=>jD p sz n t e vs) (p.outs e.aW) t) e.bZ.toNat vs t).andThen fun vs t=>.ok (vs.getD e.cB.toNat [],t))):=by
 obtain ⟨f,F⟩:=nM hp hok hf (.inr hk)
 have f1:=F.lo
 have f2:=F.hi
 have f3:=F.pk
 have f4:=F.pk2
 have f5:=F.kids
 have f6:=F.params
 have f8:=F.outs
 have f9:=F.loop
 have hkok:=eQ hok (by omega)
 rw [aB.aQ]
 refine iY 81 aBN aBO aBP mix Tryz.func215 rfl (by kernel_rfl) (by simp) ?_
 simp -dsimp -implicitDefEqProofs only [go_sem,↓reduceIte,Tryz.f215]
 refine ⟨Nat.zero_lt_one,?_⟩
 refine bQ (keep:=aBN) (ib:=aBO) (mk:=aBP) mix (by kernel_rfl) (fun x:Nat × List (List Int) × Nat × Int × Option Nat=>[(0,.op nb 4 0 0),(1,.ip 5 [[I e.aR,I e.aW,I e.cB,I e.bZ,cY 5 aB.c e.aI]] 0 0),(2,bB env),(7,eU 1 x.2.1.length x.2.2.2.2),(8,I x.1)]) (fun x=>gB (a7 h nb (dK p sz x.2.2.1 x.2.2.2.1)) (.row 1 ((x.2.1.map fun s=>[ints s]).map (List.map .v))) x.2.2.2.2) (fun x=>x.1≤e.aI.length∧x.2.1.length = x.1∧(∀ s∈x.2.1,bD sz s)∧st≤x.2.2.1∧x.2.2.1≤3000∧j9 (oE 0 (lP (fun t e=>jD p sz n t e env) (e.aI.take x.1) st)) x.2.1 x.2.2.1 x.2.2.2.1∧eF h x.2.1 x.2.2.2.2) (fun x=>e.aI.length - x.1) (0,[],st,0,none) ⟨by simp [bU,bF,eU],by simp only [aP];rw [sB hb];exact aA.le_refl _,Nat.zero_le _,rfl,by simp,Nat.le_refl _,hst,gX _ _ _,rfl⟩ ?_
 rintro ⟨k,vs,t,c',o⟩ ⟨hk2,hvl,hvs,ht0,ht,ho,hos⟩
 simp only at hk2 hvl hvs ht0 ht ho hos ⊢
 rcases Nat.lt_or_ge k e.aI.length with hlt | hge
 ·have ek:e.aI[k]? = some e.aI[k]:=List.getElem?_eq_getElem hlt
  have hnext:∀ (s:List Int) (t2:Nat) (c2:Int),j9 (oE c' (jD p sz n t e.aI[k] env)) s t2 c2→j9 (oE 0 (lP (fun t e=>jD p sz n t e env) (e.aI.take (k + 1)) st)) (vs ++ [s]) t2 c2:=fun s t2 c2 h3=>by
   rw [List.take_succ_eq_append_getElem hlt,wC]
   exact ho.eY (h3.eY (gX _ _ _))
  have hall:∀ s,bD sz s→∀ x∈vs ++ [s],bD sz x:=fun s hs=>tI hvs hs
  cases o with
  |none =>
   rw [a6] at hos
   subst hos
   simp -dsimp -implicitDefEqProofs only [go_sem,↓reduceIte,Tryz.f215,a8,aP,hlt,ek]
   intro _
   refine aG.gQ (hv.at ek (a7 h nb (dK p sz t c')) nb t c' env funcs (aH _ _ _) ht (by omega) (hkok _ (List.getElem_mem _)) eM hf henv (by omega)) ?_
   rintro r h' ⟨s,t2,c2,rfl,rfl,hs,h1,h2,h3⟩
   simp -dsimp -implicitDefEqProofs only [go_sem,↓reduceIte,Tryz.f215]
   refine ⟨Nat.zero_lt_one,Nat.zero_lt_one,Nat.zero_lt_one,?_⟩
   intro b bA
   have bV:¬ b = nb:=by first | exact bA.1 | exact bA | exact bA.2.1 | exact bA.2 | exact bA.2.2.1 | exact bA.2.2 | exact bA.2.2.2.1 | exact bA.2.2.2 | exact bA.2.2.2.2.1 | exact bA.2.2.2.2 | exact bA.2.2.2.2.2.1 | exact bA.2.2.2.2.2 | exact bA.2.2.2.2.2.2.1 | exact bA.2.2.2.2.2.2 | exact bA.2.2.2.2.2.2.2.1 | exact bA.2.2.2.2.2.2.2 | exact bA.2.2.2.2.2.2.2.2.1 | exact bA.2.2.2.2.2.2.2.2 | exact bA.2.2.2.2.2.2.2.2.2.1 | exact bA.2.2.2.2.2.2.2.2.2 | exact bA.2.2.2.2.2.2.2.2.2.2.1 | exact bA.2.2.2.2.2.2.2.2.2.2 | exact bA.2.2.2.2.2.2.2.2.2.2.2.1 | exact bA.2.2.2.2.2.2.2.2.2.2.2 | exact bA.2.2.2.2.2.2.2.2.2.2.2.2.1 | exact bA.2.2.2.2.2.2.2.2.2.2.2.2 | exact bA.2.2.2.2.2.2.2.2.2.2.2.2.2.1 | exact bA.2.2.2.2.2.2.2.2.2.2.2.2.2
   have cT:(b = nb) = False:=eq_false bV
   have cU:(nb = b) = False:=eq_false (Ne.symm bV)
   have dS:¬ nb = b:=Ne.symm bV
   have z_b:h b = none:=by first | exact bA.1 | exact bA | exact bA.2.1 | exact bA.2 | exact bA.2.2.1 | exact bA.2.2 | exact bA.2.2.2.1 | exact bA.2.2.2 | exact bA.2.2.2.2.1 | exact bA.2.2.2.2 | exact bA.2.2.2.2.2.1 | exact bA.2.2.2.2.2 | exact bA.2.2.2.2.2.2.1 | exact bA.2.2.2.2.2.2 | exact bA.2.2.2.2.2.2.2.1 | exact bA.2.2.2.2.2.2.2 | exact bA.2.2.2.2.2.2.2.2.1 | exact bA.2.2.2.2.2.2.2.2 | exact bA.2.2.2.2.2.2.2.2.2.1 | exact bA.2.2.2.2.2.2.2.2.2 | exact bA.2.2.2.2.2.2.2.2.2.2.1 | exact bA.2.2.2.2.2.2.2.2.2.2 | exact bA.2.2.2.2.2.2.2.2.2.2.2.1 | exact bA.2.2.2.2.2.2.2.2.2.2.2 | exact bA.2.2.2.2.2.2.2.2.2.2.2.2.1 | exact bA.2.2.2.2.2.2.2.2.2.2.2.2 | exact bA.2.2.2.2.2.2.2.2.2.2.2.2.2.1 | exact bA.2.2.2.2.2.2.2.2.2.2.2.2.2
   refine ⟨(k + 1,[s],t2,c2,some b),⟨rfl,by rw [IntWalk.i64_in _ (by omega)];rfl⟩,(lL (by repeat' (first | exact jN _ _ | refine lM (by simp only [dX,↓reduceIte,eq_self,if_true,cU,cT,List.map_cons,List.map_nil]) ?_ | refine iG (by first | exact .inr (by assumption) | exact .inl (by simp)) ?_))),⟨by omega,by simp only [List.length_nil] at hvl;subst hvl;rfl,fun x hx=>hall s hs x hx,Nat.le_trans ht0 h1,h2,hnext s t2 c2 h3,z_b⟩,by simp only;omega⟩
  |some m =>
   rw [aU] at hos
   have eI:¬ m = nb:=fun e=>by rw [e,hb] at hos;cases hos
   have dM:¬ nb = m:=Ne.symm eI
   have dY:(m = nb) = False:=eq_false eI
   have dZ:(nb = m) = False:=eq_false dM
   simp -dsimp -implicitDefEqProofs only [go_sem,↓reduceIte,Tryz.f215,aT,aK,hlt,ek]
   intro _
   refine aG.gQ (hv.at ek (a7 (a7 h nb (dK p sz t c')) m (.row 1 ((vs.map fun s=>[ints s]).map (List.map .v)))) nb t c' env funcs (by rw [aF _ _ _ _ dM,aH]) ht (by omega) (hkok _ (List.getElem_mem _)) eM hf henv (by omega)) ?_
   rintro r h' ⟨s,t2,c2,rfl,rfl,hs,h1,h2,h3⟩
   simp -dsimp -implicitDefEqProofs only [go_sem,↓reduceIte,Tryz.f215,aF,dY,dZ]
   refine ⟨Nat.zero_lt_one,Nat.zero_lt_one,Nat.zero_lt_one,Nat.le_refl _,by omega,by omega,?_⟩
   intro b bA
   have bV:¬ b = nb:=by first | exact bA.1 | exact bA | exact bA.2.1 | exact bA.2 | exact bA.2.2.1 | exact bA.2.2 | exact bA.2.2.2.1 | exact bA.2.2.2 | exact bA.2.2.2.2.1 | exact bA.2.2.2.2 | exact bA.2.2.2.2.2.1 | exact bA.2.2.2.2.2 | exact bA.2.2.2.2.2.2.1 | exact bA.2.2.2.2.2.2 | exact bA.2.2.2.2.2.2.2.1 | exact bA.2.2.2.2.2.2.2 | exact bA.2.2.2.2.2.2.2.2.1 | exact bA.2.2.2.2.2.2.2.2 | exact bA.2.2.2.2.2.2.2.2.2.1 | exact bA.2.2.2.2.2.2.2.2.2 | exact bA.2.2.2.2.2.2.2.2.2.2.1 | exact bA.2.2.2.2.2.2.2.2.2.2 | exact bA.2.2.2.2.2.2.2.2.2.2.2.1 | exact bA.2.2.2.2.2.2.2.2.2.2.2 | exact bA.2.2.2.2.2.2.2.2.2.2.2.2.1 | exact bA.2.2.2.2.2.2.2.2.2.2.2.2 | exact bA.2.2.2.2.2.2.2.2.2.2.2.2.2.1 | exact bA.2.2.2.2.2.2.2.2.2.2.2.2.2
   have cT:(b = nb) = False:=eq_false bV
   have cU:(nb = b) = False:=eq_false (Ne.symm bV)
   have dS:¬ nb = b:=Ne.symm bV
   have gU:¬ b = m:=by first | exact bA.1 | exact bA | exact bA.2.1 | exact bA.2 | exact bA.2.2.1 | exact bA.2.2 | exact bA.2.2.2.1 | exact bA.2.2.2 | exact bA.2.2.2.2.1 | exact bA.2.2.2.2 | exact bA.2.2.2.2.2.1 | exact bA.2.2.2.2.2 | exact bA.2.2.2.2.2.2.1 | exact bA.2.2.2.2.2.2 | exact bA.2.2.2.2.2.2.2.1 | exact bA.2.2.2.2.2.2.2 | exact bA.2.2.2.2.2.2.2.2.1 | exact bA.2.2.2.2.2.2.2.2 | exact bA.2.2.2.2.2.2.2.2.2.1 | exact bA.2.2.2.2.2.2.2.2.2 | exact bA.2.2.2.2.2.2.2.2.2.2.1 | exact bA.2.2.2.2.2.2.2.2.2.2 | exact bA.2.2.2.2.2.2.2.2.2.2.2.1 | exact bA.2.2.2.2.2.2.2.2.2.2.2 | exact bA.2.2.2.2.2.2.2.2.2.2.2.2.1 | exact bA.2.2.2.2.2.2.2.2.2.2.2.2 | exact bA.2.2.2.2.2.2.2.2.2.2.2.2.2.1 | exact bA.2.2.2.2.2.2.2.2.2.2.2.2.2
   have k5:(b = m) = False:=eq_false gU
   have k6:(m = b) = False:=eq_false (Ne.symm gU)
   have j5:¬ m = b:=Ne.symm gU
   have z_b:h b = none:=by first | exact bA.1 | exact bA | exact bA.2.1 | exact bA.2 | exact bA.2.2.1 | exact bA.2.2 | exact bA.2.2.2.1 | exact bA.2.2.2 | exact bA.2.2.2.2.1 | exact bA.2.2.2.2 | exact bA.2.2.2.2.2.1 | exact bA.2.2.2.2.2 | exact bA.2.2.2.2.2.2.1 | exact bA.2.2.2.2.2.2 | exact bA.2.2.2.2.2.2.2.1 | exact bA.2.2.2.2.2.2.2 | exact bA.2.2.2.2.2.2.2.2.1 | exact bA.2.2.2.2.2.2.2.2 | exact bA.2.2.2.2.2.2.2.2.2.1 | exact bA.2.2.2.2.2.2.2.2.2 | exact bA.2.2.2.2.2.2.2.2.2.2.1 | exact bA.2.2.2.2.2.2.2.2.2.2 | exact bA.2.2.2.2.2.2.2.2.2.2.2.1 | exact bA.2.2.2.2.2.2.2.2.2.2.2 | exact bA.2.2.2.2.2.2.2.2.2.2.2.2.1 | exact bA.2.2.2.2.2.2.2.2.2.2.2.2 | exact bA.2.2.2.2.2.2.2.2.2.2.2.2.2.1 | exact bA.2.2.2.2.2.2.2.2.2.2.2.2.2
   refine ⟨(k + 1,vs ++ [s],t2,c2,some b),⟨by rw [aT,List.length_append];rfl,by rw [IntWalk.i64_in _ (by omega)];rfl⟩,?_,⟨by omega,by rw [List.length_append,hvl];rfl,hall s hs,Nat.le_trans ht0 h1,h2,hnext s t2 c2 h3,z_b⟩,by simp only;omega⟩
   simp only [aK]
   rw [← dQ ints]
   exact (lL (by repeat' (first | exact jN _ _ | refine lM (by simp only [dX,↓reduceIte,eq_self,if_true,cU,dZ,cT,k5,dY,k6]) ?_ | refine iG (by first | exact .inr (by assumption) | exact .inl (by simp)) ?_)))
 have hk':k = e.aI.length:=by omega
 subst hk'
 rw [List.take_length] at ho
 have gp:vs[e.cB.toNat]? = some (vs.getD e.cB.toNat [])∨e.aR = 10:=by
  by_cases h10:e.aR = 10
  ·exact .inr h10
  ·exact .inl (lN (by have:=f9 (by omega);omega))
 have gp':vs[e.cB.toNat]? = some (vs.getD e.cB.toNat []):=gp.resolve_right (by omega)
 have g9:=f9 hk
 cases o with
 |none =>
  exfalso
  rw [a6] at hos
  rw [hos] at hvl
  simp at hvl
  omega
 |some m =>
  rw [aU] at hos
  have eI:¬ m = nb:=fun e=>by rw [e,hb] at hos;cases hos
  have dM:¬ nb = m:=Ne.symm eI
  have dY:(m = nb) = False:=eq_false eI
  have dZ:(nb = m) = False:=eq_false dM
  simp -dsimp -implicitDefEqProofs only [go_sem,↓reduceIte,Tryz.f215,aT,aK,Nat.lt_irrefl,Int.lt_irrefl,dK,aF,dY,dZ,hk,F.get,F.out,aS.aQ,aE.aQ]
  intro _
  refine ⟨f1,f2,?_⟩
  refine aAJ.aU7 m (by rw [aF _ _ _ _ eI];exact hos) (by simp [dF,dY,dZ]) ?_
  refine bQ (keep:=aBN) (ib:=aBO) (mk:=aBP) mix (by kernel_rfl) (fun x:Nat × List (List Int) × Nat × Int=>[(0,.op nb 4 0 0),(1,.ip 5 [[I 11,I e.aW,I e.cB,I e.bZ,cY 5 aB.c e.aI]] 0 0),(7,bB x.2.1),(9,.ip 3 (p.aJ.map aS.c) e.aW.toNat 0),(10,I x.1)]) (fun x=>a7 h nb (dK p sz x.2.2.1 x.2.2.2)) (fun x=>x.1≤e.bZ.toNat∧x.2.1.length = f.aL.length∧(∀ s∈x.2.1,bD sz s)∧t≤x.2.2.1∧x.2.2.1≤3000∧j9 (oE c' (qE (fun vs t=>lP (fun t e=>jD p sz n t e vs) (p.outs e.aW) t) x.1 vs t)) x.2.1 x.2.2.1 x.2.2.2) (fun x=>e.bZ.toNat - x.1) (0,vs,t,c') ⟨by simp [bU,bF,aC.cR,dY,dZ,List.take_of_length_le],(lL (by repeat' (first | exact jN _ _ | refine lM (by simp only [dX,↓reduceIte,eq_self,if_true,dY,dZ,dK,aE.aQ]) ?_ | refine iG (by first | exact .inr (by assumption) | exact .inl (by simp)) ?_))),Nat.zero_le _,by simp only;omega,hvs,Nat.le_refl _,ht,gX _ _ _⟩ ?_
  rintro ⟨k,us,u,d⟩ ⟨hk1,hul,hus,ht1,ht2,hd⟩
  simp only at hk1 hul hus ht1 ht2 hd ⊢
  have gu:us[e.cB.toNat]? = some (us.getD e.cB.toNat []):=lN (by omega)
  simp -dsimp -implicitDefEqProofs only [go_sem,↓reduceIte,Tryz.f215,dK,gu]
  refine ⟨fun hlt=>?_,fun hge=>?_⟩
  ·refine aG.gQ (fE.sub (.cons (.refl _) (.cons (Sub.ip (by rw [List.getElem?_map,F.get];rfl) (by simp [aS.aQ])) (.cons (.refl _) .nil))) (aRD hv (a7 h nb (dK p sz u d)) nb u d f us e.aW (aH _ _ _) ht2 (by omega) (by omega) (by rw [hul,g9.2.2];exact F.oks) f1 (by omega) hus (by omega))) ?_
   rintro r h' ⟨l2,t2,c2,rfl,rfl,hl2,lG,b1,b2,b3⟩
   simp -dsimp -implicitDefEqProofs only [go_sem,↓reduceIte,Tryz.f215]
   refine ⟨(k + 1,l2,t2,c2),⟨rfl,by rw [IntWalk.i64_in _ (by omega)];rfl⟩,by simp only [aO];exact aA.le_refl _,⟨by omega,hl2,lG,by simp only;omega,b2,?_⟩,by simp only;omega⟩
   simp only
   rw [aEH]
   refine hd.eY ?_
   rw [F.eq]
   exact b3
  ·have hke:k = e.bZ.toNat:=by omega
   refine ⟨f3,by omega,_,_,aZ _ _,us.getD e.cB.toNat [],u,d,rfl,rfl,wG hus (by omega),by omega,ht2,?_⟩
   refine ho.eY ?_
   rw [← hke]
   exact hd.eY (gX _ _ _)
theorem aS7 {p:aE} {sz n:Nat} (hsz:1≤sz∧sz≤1048576) (h:aA) (nb st:Nat) (c:Int) (e:aB) (env:List (List Int)) (hb:h nb = some (dK p sz st c)) (hst:st≤3000) (hs:¬ c = 0∨st = 3000) :
  fE Tryz.prog 191 [.op nb 4 0 0,.ip 5 [e.c] 0 0,bB env] h (RnQ h nb p sz st c (jD p sz (n + 1) st e env)):=by
 rw [aB.aQ]
 have hb':=hb
 unfold dK at hb'
 refine iY 186 mL bM uH mix Tryz.func191 rfl (by kernel_rfl) (by simp) ?_
 simp -dsimp -implicitDefEqProofs only [go_sem,↓reduceIte,Tryz.f191,hb']
 refine ⟨fun hc=>?_,fun hc=>?_⟩
 ·have hc':¬ c = 0:=by simpa using hc
  refine aG.gQ (aRC h nb p sz st c c hb hsz.2) ?_
  rintro r h' ⟨rfl,rfl⟩
  simp -dsimp -implicitDefEqProofs only [go_sem,↓reduceIte,Tryz.f191]
  refine ⟨_,_,aZ _ _,_,st,c,rfl,by rw [if_neg hc'],gN nN,Nat.le_refl _,hst,by rw [kA _ hc'];exact gT _ _ hc'⟩
 ·have pC:c = 0:=by simpa using hc
  subst pC
  have h3:st = 3000:=by rcases hs with hs | hs;exact absurd rfl hs;exact hs
  subst h3
  try simp -dsimp -implicitDefEqProofs only [go_sem,↓reduceIte,Tryz.f191,hb']
  refine ⟨fun _=>?_,fun q=>absurd q (by simp)⟩
  refine aG.gQ (aRC h nb p sz 3000 0 7 hb hsz.2) ?_
  rintro r h' ⟨rfl,rfl⟩
  simp -dsimp -implicitDefEqProofs only [go_sem,↓reduceIte,Tryz.f191]
  refine ⟨_,_,aZ _ _,_,3000,7,rfl,rfl,gN nN,Nat.le_refl _,hst,?_⟩
  rw [eK,jD,if_pos rfl]
  exact gT _ _ (by decide)
theorem a40 {p:aE} (hp:p.ok) {sz n:Nat} (hsz:1≤sz∧sz≤1048576) (hv:oY p sz n) (h:aA) (nb st:Nat) (e:aB) (env:List (List Int)) (funcs:Int) (hb:h nb = some (dK p sz st 0)) (hst:st < 3000) (hn:3001≤n + 1 + st)
  (hok:e.ok p funcs env.length) (eM:0≤funcs) (hf:funcs≤p.aJ.length) (henv:∀ s∈env,bD sz s) (hel:env.length≤412 + st) (hk:e.aR = 1) :
  fE Tryz.prog 191 [.op nb 4 0 0,.ip 5 [e.c] 0 0,bB env] h (RnQ h nb p sz st 0 (jD p sz (n + 1) st e env)):=by
 have hb':=hb
 unfold dK at hb'
 have e3:((st:Int) = 3000) = False:=eq_false (by omega)
 have ew:IntKind.i64.wrap ((st:Int) + 1) = ((st + 1:Nat):Int):=by rw [IntWalk.i64_in _ (by omega)];rfl
 have hnode:=(aB.cZ _ _ _ _).1 hok
 have h3:¬ st = 3000:=by omega
 have hnum:fP e.aW:=((eO (by omega)).1 hnode.1).2.2.2.1 hk
 rw [aB.aQ]
 refine iY 186 mL bM uH mix Tryz.func191 rfl (by kernel_rfl) (by simp) ?_
 simp -dsimp -implicitDefEqProofs only [go_sem,↓reduceIte,Tryz.f191,hb',e3,ew,hk]
 first | refine aG.mk (dR e.aW sz hsz.2) ?_ | refine aD.mk (dR e.aW sz hsz.2) ?_ | refine aG.a5 (dR e.aW sz hsz.2) ?_ | refine aD.mk (aX.cD (dR e.aW sz hsz.2)) ?_
 simp -dsimp -implicitDefEqProofs only [go_sem,↓reduceIte,Tryz.f191]
 refine ⟨_,_,aZ _ _,_,st + 1,0,rfl,rfl,gN hnum,Nat.le_succ _,hst,?_⟩
 rw [eK,aVR h3 hk]
 exact pK _ _
theorem a41 {p:aE} (hp:p.ok) {sz n:Nat} (hsz:1≤sz∧sz≤1048576) (hv:oY p sz n) (h:aA) (nb st:Nat) (e:aB) (env:List (List Int)) (funcs:Int) (hb:h nb = some (dK p sz st 0)) (hst:st < 3000) (hn:3001≤n + 1 + st)
  (hok:e.ok p funcs env.length) (eM:0≤funcs) (hf:funcs≤p.aJ.length) (henv:∀ s∈env,bD sz s) (hel:env.length≤412 + st) (hk:e.aR = 2) :
  fE Tryz.prog 191 [.op nb 4 0 0,.ip 5 [e.c] 0 0,bB env] h (RnQ h nb p sz st 0 (jD p sz (n + 1) st e env)):=by
 have hb':=hb
 unfold dK at hb'
 have e3:((st:Int) = 3000) = False:=eq_false (by omega)
 have ew:IntKind.i64.wrap ((st:Int) + 1) = ((st + 1:Nat):Int):=by rw [IntWalk.i64_in _ (by omega)];rfl
 have hnode:=(aB.cZ _ _ _ _).1 hok
 have h3:¬ st = 3000:=by omega
 have hnum:=((eO (by omega)).1 hnode.1).2.2.2.2.1 hk
 have hlt:e.aW.toNat < env.length:=by omega
 rw [aB.aQ]
 refine iY 186 mL bM uH mix Tryz.func191 rfl (by kernel_rfl) (by simp) ?_
 simp -dsimp -implicitDefEqProofs only [go_sem,↓reduceIte,Tryz.f191,hb',e3,ew,hk,lN hlt]
 refine ⟨hnum.1,by omega,_,_,aZ _ _,_,st + 1,0,rfl,rfl,wG henv hlt,Nat.le_succ _,hst,?_⟩
 rw [eK,aVS h3 hk]
 exact pK _ _
theorem a42 {p:aE} (hp:p.ok) {sz n:Nat} (hsz:1≤sz∧sz≤1048576) (hv:oY p sz n) (h:aA) (nb st:Nat) (e:aB) (env:List (List Int)) (funcs:Int) (hb:h nb = some (dK p sz st 0)) (hst:st < 3000) (hn:3001≤n + 1 + st)
  (hok:e.ok p funcs env.length) (eM:0≤funcs) (hf:funcs≤p.aJ.length) (henv:∀ s∈env,bD sz s) (hel:env.length≤412 + st) (hk:e.aR = 8) :
  fE Tryz.prog 191 [.op nb 4 0 0,.ip 5 [e.c] 0 0,bB env] h (RnQ h nb p sz st 0 (jD p sz (n + 1) st e env)):=by
 have hb':=hb
 unfold dK at hb'
 have e3:((st:Int) = 3000) = False:=eq_false (by omega)
 have ew:IntKind.i64.wrap ((st:Int) + 1) = ((st + 1:Nat):Int):=by rw [IntWalk.i64_in _ (by omega)];rfl
 have hnode:=(aB.cZ _ _ _ _).1 hok
 have h3:¬ st = 3000:=by omega
 have hlen:=dC hok (by omega)
 rw [hk,show fG 8 = 3 from rfl] at hlen
 have g0:e.aI[Int.toNat 0]? = some (e.mC 0):=aB.gR (by omega)
 have g1:e.aI[Int.toNat 1]? = some (e.mC 1):=aB.gR (by omega)
 have g2:e.aI[Int.toNat 2]? = some (e.mC 2):=aB.gR (by omega)
 have o0:=aB.fD hok (i:=0) (by omega)
 have o1:=aB.fD hok (i:=1) (by omega)
 have o2:=aB.fD hok (i:=2) (by omega)
 rw [iC (by omega)] at o0 o1 o2
 rw [aB.aQ]
 refine iY 186 mL bM uH mix Tryz.func191 rfl (by kernel_rfl) (by simp) ?_
 simp -dsimp -implicitDefEqProofs only [go_sem,↓reduceIte,Tryz.f191,hb',e3,ew,hk,g0]
 refine ⟨by omega,?_⟩
 refine aG.gQ (hv.at g0 (a7 h nb (dK p sz (st + 1) 0)) nb (st + 1) 0 env funcs (aH _ _ _) (by omega) (by omega) o0 eM hf henv (by omega)) ?_
 rintro r h' ⟨s1,t1,c1,rfl,rfl,jC,a1,a2,a3⟩
 have gs:s1[Int.toNat 0]? = some (s1.getD 0 0):=b9 (by rw [jC.1];omega)
 simp -dsimp -implicitDefEqProofs only [go_sem,↓reduceIte,Tryz.f191,gs,g1,g2]
 refine ⟨by rw [jC.1];omega,fun hz=>⟨by omega,?_⟩,fun hz=>⟨by omega,?_⟩⟩
 ·rw [aO]
  refine aG.gQ (hv.at g1 (a7 h nb (dK p sz t1 c1)) nb t1 c1 env funcs (aH _ _ _) (by omega) (by omega) o1 eM hf henv (by omega)) ?_
  rintro r h' ⟨s2,t2,c2,rfl,rfl,lG,b1,b2,b3⟩
  simp -dsimp -implicitDefEqProofs only [go_sem,↓reduceIte,Tryz.f191]
  refine ⟨_,_,aZ _ _,s2,t2,c2,rfl,by rw [aO],lG,by omega,b2,?_⟩
  rw [aQ3 h3 hk]
  refine a3.eY ?_
  rw [if_pos hz]
  exact b3
 ·rw [aO]
  refine aG.gQ (hv.at g2 (a7 h nb (dK p sz t1 c1)) nb t1 c1 env funcs (aH _ _ _) (by omega) (by omega) o2 eM hf henv (by omega)) ?_
  rintro r h' ⟨s2,t2,c2,rfl,rfl,lG,b1,b2,b3⟩
  simp -dsimp -implicitDefEqProofs only [go_sem,↓reduceIte,Tryz.f191]
  refine ⟨_,_,aZ _ _,s2,t2,c2,rfl,by rw [aO],lG,by omega,b2,?_⟩
  rw [aQ3 h3 hk]
  refine a3.eY ?_
  rw [if_neg hz]
  exact b3
theorem a43 {p:aE} (hp:p.ok) {sz n:Nat} (hsz:1≤sz∧sz≤1048576) (hv:oY p sz n) (h:aA) (nb st:Nat) (e:aB) (env:List (List Int)) (funcs:Int) (hb:h nb = some (dK p sz st 0)) (hst:st < 3000) (hn:3001≤n + 1 + st)
  (hok:e.ok p funcs env.length) (eM:0≤funcs) (hf:funcs≤p.aJ.length) (henv:∀ s∈env,bD sz s) (hel:env.length≤412 + st) (hk:e.aR = 9) :
  fE Tryz.prog 191 [.op nb 4 0 0,.ip 5 [e.c] 0 0,bB env] h (RnQ h nb p sz st 0 (jD p sz (n + 1) st e env)):=by
 have hb':=hb
 unfold dK at hb'
 have e3:((st:Int) = 3000) = False:=eq_false (by omega)
 have ew:IntKind.i64.wrap ((st:Int) + 1) = ((st + 1:Nat):Int):=by rw [IntWalk.i64_in _ (by omega)];rfl
 have hnode:=(aB.cZ _ _ _ _).1 hok
 have h3:¬ st = 3000:=by omega
 have hlen:=dC hok (by omega)
 rw [hk,show fG 9 = 2 from rfl] at hlen
 have g0:e.aI[Int.toNat 0]? = some (e.mC 0):=aB.gR (by omega)
 have g1:e.aI[Int.toNat 1]? = some (e.mC 1):=aB.gR (by omega)
 have o0:=aB.fD hok (i:=0) (by omega)
 have o1:=aB.fD hok (i:=1) (by omega)
 rw [iC (by omega)] at o0
 rw [hk,show kG 9 1 (env.length:Int) = env.length + 1 from rfl] at o1
 rw [aB.aQ]
 refine iY 186 mL bM uH mix Tryz.func191 rfl (by kernel_rfl) (by simp) ?_
 simp -dsimp -implicitDefEqProofs only [go_sem,↓reduceIte,Tryz.f191,hb',e3,ew,hk,g0,g1]
 refine ⟨by omega,?_⟩
 refine aG.gQ (hv.at g0 (a7 h nb (dK p sz (st + 1) 0)) nb (st + 1) 0 env funcs (aH _ _ _) (by omega) (by omega) o0 eM hf henv (by omega)) ?_
 rintro r h' ⟨s1,t1,c1,rfl,rfl,jC,a1,a2,a3⟩
 simp -dsimp -implicitDefEqProofs only [go_sem,↓reduceIte,Tryz.f191,g0,g1]
 refine ⟨by omega,?_⟩
 first | refine aG.mk (aIQ env s1 (by omega)) ?_ | refine aD.mk (aIQ env s1 (by omega)) ?_ | refine aG.a5 (aIQ env s1 (by omega)) ?_ | refine aD.mk (aX.cD (aIQ env s1 (by omega))) ?_
 simp -dsimp -implicitDefEqProofs only [go_sem,↓reduceIte,Tryz.f191]
 rw [aO]
 refine aG.gQ (hv.at g1 (a7 h nb (dK p sz t1 c1)) nb t1 c1 (env ++ [s1]) funcs (aH _ _ _) (by omega) (by omega) (by rw [List.length_append];exact o1) eM hf (tI henv jC) (by rw [List.length_append];show env.length + 1≤_;omega)) ?_
 rintro r h' ⟨s2,t2,c2,rfl,rfl,lG,b1,b2,b3⟩
 simp -dsimp -implicitDefEqProofs only [go_sem,↓reduceIte,Tryz.f191]
 refine ⟨_,a7 h nb (dK p sz t2 c2),cG (by rw [aO];exact aA.le_refl _),s2,t2,c2,rfl,rfl,lG,by omega,b2,?_⟩
 rw [aVT h3 hk]
 exact a3.eY b3
theorem aZO {p:aE} (hp:p.ok) {sz n:Nat} (hsz:1≤sz∧sz≤1048576) (hv:oY p sz n) (h:aA) (nb st:Nat) (e:aB) (env:List (List Int)) (funcs:Int) (hb:h nb = some (dK p sz st 0)) (hst:st < 3000) (hn:3001≤n + 1 + st)
  (hok:e.ok p funcs env.length) (eM:0≤funcs) (hf:funcs≤p.aJ.length) (henv:∀ s∈env,bD sz s) (hel:env.length≤412 + st) (hk:e.aR = 10) :
  fE Tryz.prog 191 [.op nb 4 0 0,.ip 5 [e.c] 0 0,bB env] h (RnQ h nb p sz st 0 (jD p sz (n + 1) st e env)):=by
 have hb':=hb
 unfold dK at hb'
 have e3:((st:Int) = 3000) = False:=eq_false (by omega)
 have ew:IntKind.i64.wrap ((st:Int) + 1) = ((st + 1:Nat):Int):=by rw [IntWalk.i64_in _ (by omega)];rfl
 have hnode:=(aB.cZ _ _ _ _).1 hok
 have h3:¬ st = 3000:=by omega
 have hcl:=aZM hp hv (a7 h nb (dK p sz (st + 1) 0)) nb (st + 1) e env funcs (aH _ _ _) (by omega) (by omega) hok eM hf henv (by omega) hk
 rw [aB.aQ,hk] at hcl
 rw [aB.aQ]
 refine iY 186 mL bM uH mix Tryz.func191 rfl (by kernel_rfl) (by simp) ?_
 simp -dsimp -implicitDefEqProofs only [go_sem,↓reduceIte,Tryz.f191,hb',e3,ew,hk]
 refine aG.gQ hcl ?_
 rintro r h' ⟨s2,t2,c2,rfl,rfl,lG,b1,b2,b3⟩
 simp -dsimp -implicitDefEqProofs only [go_sem,↓reduceIte,Tryz.f191]
 refine ⟨_,a7 h nb (dK p sz t2 c2),cG (by rw [aO];exact aA.le_refl _),s2,t2,c2,rfl,rfl,lG,by omega,b2,?_⟩
 rw [aOG h3 hk]
 exact b3
theorem aZP {p:aE} (hp:p.ok) {sz n:Nat} (hsz:1≤sz∧sz≤1048576) (hv:oY p sz n) (h:aA) (nb st:Nat) (e:aB) (env:List (List Int)) (funcs:Int) (hb:h nb = some (dK p sz st 0)) (hst:st < 3000) (hn:3001≤n + 1 + st)
  (hok:e.ok p funcs env.length) (eM:0≤funcs) (hf:funcs≤p.aJ.length) (henv:∀ s∈env,bD sz s) (hel:env.length≤412 + st) (hk:e.aR = 11) :
  fE Tryz.prog 191 [.op nb 4 0 0,.ip 5 [e.c] 0 0,bB env] h (RnQ h nb p sz st 0 (jD p sz (n + 1) st e env)):=by
 have hb':=hb
 unfold dK at hb'
 have e3:((st:Int) = 3000) = False:=eq_false (by omega)
 have ew:IntKind.i64.wrap ((st:Int) + 1) = ((st + 1:Nat):Int):=by rw [IntWalk.i64_in _ (by omega)];rfl
 have hnode:=(aB.cZ _ _ _ _).1 hok
 have h3:¬ st = 3000:=by omega
 have hcl:=aZN hp hv (a7 h nb (dK p sz (st + 1) 0)) nb (st + 1) e env funcs (aH _ _ _) (by omega) (by omega) hok eM hf henv (by omega) hk
 rw [aB.aQ,hk] at hcl
 rw [aB.aQ]
 refine iY 186 mL bM uH mix Tryz.func191 rfl (by kernel_rfl) (by simp) ?_
 simp -dsimp -implicitDefEqProofs only [go_sem,↓reduceIte,Tryz.f191,hb',e3,ew,hk]
 refine aG.gQ hcl ?_
 rintro r h' ⟨s2,t2,c2,rfl,rfl,lG,b1,b2,b3⟩
 simp -dsimp -implicitDefEqProofs only [go_sem,↓reduceIte,Tryz.f191]
 refine ⟨_,a7 h nb (dK p sz t2 c2),cG (by rw [aO];exact aA.le_refl _),s2,t2,c2,rfl,rfl,lG,by omega,b2,?_⟩
 rw [aOH h3 hk]
 exact b3
theorem aVZ {e:aB} (h:e.aI.length = 1):e.aI = [e.mC 0]:=by
 have h0:=aB.qG (e:=e) (i:=0) (by omega)
 rw [h0]
 apply List.ext_getElem (by simp [h])
 intro i hi hi2
 match i,hi2 with
 |0,_=>rfl
theorem aV0 {e:aB} (h:e.aI.length = 2):e.aI = [e.mC 0,e.mC 1]:=by
 have h0:=aB.qG (e:=e) (i:=0) (by omega)
 have h1:=aB.qG (e:=e) (i:=1) (by omega)
 rw [h0,h1]
 apply List.ext_getElem (by simp [h])
 intro i hi hi2
 match i,hi2 with
 |0,_=>rfl
 |1,_=>rfl
theorem a44 {p:aE} {sz n st:Nat} {e:aB} {env:List (List Int)} (h3:¬ st = 3000) (hk:e.aR = 7) (hl:e.aI.length = 1):jD p sz (n + 1) st e env = (jD p sz n (st + 1) (e.mC 0) env).andThen fun v t=>.ok (gS v 1000002,t):=by
 rw [aIO h3 (by omega),aVZ hl,hk]
 simp only [lP,Out.jY,Out.andThen_ok,opE]
 rfl
theorem wJ {p:aE} {sz n st:Nat} {e:aB} {env:List (List Int)} (h3:¬ st = 3000) (hk:e.aR = 3∨e.aR = 4∨e.aR = 5∨e.aR = 6) (hl:e.aI.length = 2):jD p sz (n + 1) st e env = (jD p sz n (st + 1) (e.mC 0) env).andThen fun a t=>(jD p sz n t (e.mC 1) env).andThen fun b t=>opE e.aR [a,b] t:=by
 rw [aIO h3 (by omega),aV0 hl]
 simp only [lP,Out.jY,Out.andThen_ok]
theorem a45 {p:aE} (hp:p.ok) {sz n:Nat} (hsz:1≤sz∧sz≤1048576) (hv:oY p sz n) (h:aA) (nb st:Nat) (e:aB) (env:List (List Int)) (funcs:Int) (hb:h nb = some (dK p sz st 0)) (hst:st < 3000) (hn:3001≤n + 1 + st)
  (hok:e.ok p funcs env.length) (eM:0≤funcs) (hf:funcs≤p.aJ.length) (henv:∀ s∈env,bD sz s) (hel:env.length≤412 + st) (hk:e.aR = 7) :
  fE Tryz.prog 191 [.op nb 4 0 0,.ip 5 [e.c] 0 0,bB env] h (RnQ h nb p sz st 0 (jD p sz (n + 1) st e env)):=by
 have hb':=hb
 unfold dK at hb'
 have e3:((st:Int) = 3000) = False:=eq_false (by omega)
 have ew:IntKind.i64.wrap ((st:Int) + 1) = ((st + 1:Nat):Int):=by rw [IntWalk.i64_in _ (by omega)];rfl
 have hnode:=(aB.cZ _ _ _ _).1 hok
 have h3:¬ st = 3000:=by omega
 have hlen:=dC hok (by omega)
 rw [hk,show fG 7 = 1 from rfl] at hlen
 have g0:e.aI[Int.toNat 0]? = some (e.mC 0):=aB.gR (by omega)
 have o0:=aB.fD hok (i:=0) (by omega)
 rw [iC (by omega)] at o0
 rw [aB.aQ]
 refine iY 186 mL bM uH mix Tryz.func191 rfl (by kernel_rfl) (by simp) ?_
 simp -dsimp -implicitDefEqProofs only [go_sem,↓reduceIte,Tryz.f191,hb',e3,ew,hk,g0]
 refine ⟨by omega,?_⟩
 refine aG.gQ (hv.at g0 (a7 h nb (dK p sz (st + 1) 0)) nb (st + 1) 0 env funcs (aH _ _ _) (by omega) (by omega) o0 eM hf henv (by omega)) ?_
 rintro r h' ⟨s1,t1,c1,rfl,rfl,jC,a1,a2,a3⟩
 simp -dsimp -implicitDefEqProofs only [go_sem,↓reduceIte,Tryz.f191]
 first | refine aG.mk (kJ s1 1000002 (by unfold fP;omega) (by rw [jC.1];omega) jC.2) ?_ | refine aD.mk (kJ s1 1000002 (by unfold fP;omega) (by rw [jC.1];omega) jC.2) ?_ | refine aG.a5 (kJ s1 1000002 (by unfold fP;omega) (by rw [jC.1];omega) jC.2) ?_ | refine aD.mk (aX.cD (kJ s1 1000002 (by unfold fP;omega) (by rw [jC.1];omega) jC.2)) ?_
 simp -dsimp -implicitDefEqProofs only [go_sem,↓reduceIte,Tryz.f191]
 refine ⟨_,a7 h nb (dK p sz t1 c1),cG (by rw [aO];exact aA.le_refl _),_,t1,c1,rfl,rfl,fO _ jC,by omega,a2,?_⟩
 rw [a44 h3 hk (by omega)]
 exact a3.eY (gX _ _ _)
theorem a46 {p:aE} (hp:p.ok) {sz n:Nat} (hsz:1≤sz∧sz≤1048576) (hv:oY p sz n) (h:aA) (nb st:Nat) (e:aB) (env:List (List Int)) (funcs:Int) (hb:h nb = some (dK p sz st 0)) (hst:st < 3000) (hn:3001≤n + 1 + st)
  (hok:e.ok p funcs env.length) (eM:0≤funcs) (hf:funcs≤p.aJ.length) (henv:∀ s∈env,bD sz s) (hel:env.length≤412 + st) (hk:e.aR = 3) :
  fE Tryz.prog 191 [.op nb 4 0 0,.ip 5 [e.c] 0 0,bB env] h (RnQ h nb p sz st 0 (jD p sz (n + 1) st e env)):=by
 have hb':=hb
 unfold dK at hb'
 have e3:((st:Int) = 3000) = False:=eq_false (by omega)
 have ew:IntKind.i64.wrap ((st:Int) + 1) = ((st + 1:Nat):Int):=by rw [IntWalk.i64_in _ (by omega)];rfl
 have hnode:=(aB.cZ _ _ _ _).1 hok
 have h3:¬ st = 3000:=by omega
 have hlen:=dC hok (by omega)
 rw [hk,show fG 3 = 2 from rfl] at hlen
 have g0:e.aI[Int.toNat 0]? = some (e.mC 0):=aB.gR (by omega)
 have g1:e.aI[Int.toNat 1]? = some (e.mC 1):=aB.gR (by omega)
 have o0:=aB.fD hok (i:=0) (by omega)
 have o1:=aB.fD hok (i:=1) (by omega)
 rw [iC (by omega)] at o0 o1
 rw [aB.aQ]
 refine iY 186 mL bM uH mix Tryz.func191 rfl (by kernel_rfl) (by simp) ?_
 simp -dsimp -implicitDefEqProofs only [go_sem,↓reduceIte,Tryz.f191,hb',e3,ew,hk,g0]
 refine ⟨by omega,?_⟩
 refine aG.gQ (hv.at g0 (a7 h nb (dK p sz (st + 1) 0)) nb (st + 1) 0 env funcs (aH _ _ _) (by omega) (by omega) o0 eM hf henv (by omega)) ?_
 rintro r h' ⟨s1,t1,c1,rfl,rfl,jC,a1,a2,a3⟩
 simp -dsimp -implicitDefEqProofs only [go_sem,↓reduceIte,Tryz.f191,g1]
 refine ⟨by omega,?_⟩
 rw [aO]
 refine aG.gQ (hv.at g1 (a7 h nb (dK p sz t1 c1)) nb t1 c1 env funcs (aH _ _ _) (by omega) (by omega) o1 eM hf henv (by omega)) ?_
 rintro r h' ⟨s2,t2,c2,rfl,rfl,lG,b1,b2,b3⟩
 rw [aO]
 simp -dsimp -implicitDefEqProofs only [go_sem,↓reduceIte,Tryz.f191,hk]
 first | refine aG.mk (lX s1 s2 (by rw [jC.1,lG.1]) (by rw [jC.1];omega) jC.2 lG.2) ?_ | refine aD.mk (lX s1 s2 (by rw [jC.1,lG.1]) (by rw [jC.1];omega) jC.2 lG.2) ?_ | refine aG.a5 (lX s1 s2 (by rw [jC.1,lG.1]) (by rw [jC.1];omega) jC.2 lG.2) ?_ | refine aD.mk (aX.cD (lX s1 s2 (by rw [jC.1,lG.1]) (by rw [jC.1];omega) jC.2 lG.2)) ?_
 simp -dsimp -implicitDefEqProofs only [go_sem,↓reduceIte,Tryz.f191]
 refine ⟨_,a7 h nb (dK p sz t2 c2),cG (aA.le_refl _),_,t2,c2,rfl,rfl,m4 jC lG,by omega,b2,?_⟩
 rw [wJ h3 (by omega) (by omega),hk]
 exact a3.eY (b3.eY (gX _ _ _))
theorem a47 {p:aE} (hp:p.ok) {sz n:Nat} (hsz:1≤sz∧sz≤1048576) (hv:oY p sz n) (h:aA) (nb st:Nat) (e:aB) (env:List (List Int)) (funcs:Int) (hb:h nb = some (dK p sz st 0)) (hst:st < 3000) (hn:3001≤n + 1 + st)
  (hok:e.ok p funcs env.length) (eM:0≤funcs) (hf:funcs≤p.aJ.length) (henv:∀ s∈env,bD sz s) (hel:env.length≤412 + st) (hk:e.aR = 4) :
  fE Tryz.prog 191 [.op nb 4 0 0,.ip 5 [e.c] 0 0,bB env] h (RnQ h nb p sz st 0 (jD p sz (n + 1) st e env)):=by
 have hb':=hb
 unfold dK at hb'
 have e3:((st:Int) = 3000) = False:=eq_false (by omega)
 have ew:IntKind.i64.wrap ((st:Int) + 1) = ((st + 1:Nat):Int):=by rw [IntWalk.i64_in _ (by omega)];rfl
 have hnode:=(aB.cZ _ _ _ _).1 hok
 have h3:¬ st = 3000:=by omega
 have hlen:=dC hok (by omega)
 rw [hk,show fG 4 = 2 from rfl] at hlen
 have g0:e.aI[Int.toNat 0]? = some (e.mC 0):=aB.gR (by omega)
 have g1:e.aI[Int.toNat 1]? = some (e.mC 1):=aB.gR (by omega)
 have o0:=aB.fD hok (i:=0) (by omega)
 have o1:=aB.fD hok (i:=1) (by omega)
 rw [iC (by omega)] at o0 o1
 rw [aB.aQ]
 refine iY 186 mL bM uH mix Tryz.func191 rfl (by kernel_rfl) (by simp) ?_
 simp -dsimp -implicitDefEqProofs only [go_sem,↓reduceIte,Tryz.f191,hb',e3,ew,hk,g0]
 refine ⟨by omega,?_⟩
 refine aG.gQ (hv.at g0 (a7 h nb (dK p sz (st + 1) 0)) nb (st + 1) 0 env funcs (aH _ _ _) (by omega) (by omega) o0 eM hf henv (by omega)) ?_
 rintro r h' ⟨s1,t1,c1,rfl,rfl,jC,a1,a2,a3⟩
 simp -dsimp -implicitDefEqProofs only [go_sem,↓reduceIte,Tryz.f191,g1]
 refine ⟨by omega,?_⟩
 rw [aO]
 refine aG.gQ (hv.at g1 (a7 h nb (dK p sz t1 c1)) nb t1 c1 env funcs (aH _ _ _) (by omega) (by omega) o1 eM hf henv (by omega)) ?_
 rintro r h' ⟨s2,t2,c2,rfl,rfl,lG,b1,b2,b3⟩
 rw [aO]
 simp -dsimp -implicitDefEqProofs only [go_sem,↓reduceIte,Tryz.f191,hk]
 first | refine aG.mk (nO s1 s2 (by rw [jC.1,lG.1]) (by rw [jC.1];omega) jC.2 lG.2) ?_ | refine aD.mk (nO s1 s2 (by rw [jC.1,lG.1]) (by rw [jC.1];omega) jC.2 lG.2) ?_ | refine aG.a5 (nO s1 s2 (by rw [jC.1,lG.1]) (by rw [jC.1];omega) jC.2 lG.2) ?_ | refine aD.mk (aX.cD (nO s1 s2 (by rw [jC.1,lG.1]) (by rw [jC.1];omega) jC.2 lG.2)) ?_
 simp -dsimp -implicitDefEqProofs only [go_sem,↓reduceIte,Tryz.f191]
 refine ⟨_,a7 h nb (dK p sz t2 c2),cG (aA.le_refl _),_,t2,c2,rfl,rfl,lB jC lG,by omega,b2,?_⟩
 rw [wJ h3 (by omega) (by omega),hk]
 exact a3.eY (b3.eY (gX _ _ _))
theorem a48 {p:aE} (hp:p.ok) {sz n:Nat} (hsz:1≤sz∧sz≤1048576) (hv:oY p sz n) (h:aA) (nb st:Nat) (e:aB) (env:List (List Int)) (funcs:Int) (hb:h nb = some (dK p sz st 0)) (hst:st < 3000) (hn:3001≤n + 1 + st)
  (hok:e.ok p funcs env.length) (eM:0≤funcs) (hf:funcs≤p.aJ.length) (henv:∀ s∈env,bD sz s) (hel:env.length≤412 + st) (hk:e.aR = 5) :
  fE Tryz.prog 191 [.op nb 4 0 0,.ip 5 [e.c] 0 0,bB env] h (RnQ h nb p sz st 0 (jD p sz (n + 1) st e env)):=by
 have hb':=hb
 unfold dK at hb'
 have e3:((st:Int) = 3000) = False:=eq_false (by omega)
 have ew:IntKind.i64.wrap ((st:Int) + 1) = ((st + 1:Nat):Int):=by rw [IntWalk.i64_in _ (by omega)];rfl
 have hnode:=(aB.cZ _ _ _ _).1 hok
 have h3:¬ st = 3000:=by omega
 have hlen:=dC hok (by omega)
 rw [hk,show fG 5 = 2 from rfl] at hlen
 have g0:e.aI[Int.toNat 0]? = some (e.mC 0):=aB.gR (by omega)
 have g1:e.aI[Int.toNat 1]? = some (e.mC 1):=aB.gR (by omega)
 have o0:=aB.fD hok (i:=0) (by omega)
 have o1:=aB.fD hok (i:=1) (by omega)
 rw [iC (by omega)] at o0 o1
 rw [aB.aQ]
 refine iY 186 mL bM uH mix Tryz.func191 rfl (by kernel_rfl) (by simp) ?_
 simp -dsimp -implicitDefEqProofs only [go_sem,↓reduceIte,Tryz.f191,hb',e3,ew,hk,g0]
 refine ⟨by omega,?_⟩
 refine aG.gQ (hv.at g0 (a7 h nb (dK p sz (st + 1) 0)) nb (st + 1) 0 env funcs (aH _ _ _) (by omega) (by omega) o0 eM hf henv (by omega)) ?_
 rintro r h' ⟨s1,t1,c1,rfl,rfl,jC,a1,a2,a3⟩
 simp -dsimp -implicitDefEqProofs only [go_sem,↓reduceIte,Tryz.f191,g1]
 refine ⟨by omega,?_⟩
 rw [aO]
 refine aG.gQ (hv.at g1 (a7 h nb (dK p sz t1 c1)) nb t1 c1 env funcs (aH _ _ _) (by omega) (by omega) o1 eM hf henv (by omega)) ?_
 rintro r h' ⟨s2,t2,c2,rfl,rfl,lG,b1,b2,b3⟩
 rw [aO]
 simp -dsimp -implicitDefEqProofs only [go_sem,↓reduceIte,Tryz.f191,hk]
 first | refine aG.mk (lY s1 s2 (by rw [jC.1,lG.1]) (by rw [jC.1];omega) jC.2 lG.2) ?_ | refine aD.mk (lY s1 s2 (by rw [jC.1,lG.1]) (by rw [jC.1];omega) jC.2 lG.2) ?_ | refine aG.a5 (lY s1 s2 (by rw [jC.1,lG.1]) (by rw [jC.1];omega) jC.2 lG.2) ?_ | refine aD.mk (aX.cD (lY s1 s2 (by rw [jC.1,lG.1]) (by rw [jC.1];omega) jC.2 lG.2)) ?_
 simp -dsimp -implicitDefEqProofs only [go_sem,↓reduceIte,Tryz.f191]
 refine ⟨_,a7 h nb (dK p sz t2 c2),cG (aA.le_refl _),_,t2,c2,rfl,rfl,cE _ jC,by omega,b2,?_⟩
 rw [wJ h3 (by omega) (by omega),hk]
 exact a3.eY (b3.eY (gX _ _ _))
theorem a49 {p:aE} (hp:p.ok) {sz n:Nat} (hsz:1≤sz∧sz≤1048576) (hv:oY p sz n) (h:aA) (nb st:Nat) (e:aB) (env:List (List Int)) (funcs:Int) (hb:h nb = some (dK p sz st 0)) (hst:st < 3000) (hn:3001≤n + 1 + st)
  (hok:e.ok p funcs env.length) (eM:0≤funcs) (hf:funcs≤p.aJ.length) (henv:∀ s∈env,bD sz s) (hel:env.length≤412 + st) (hk:e.aR = 6) :
  fE Tryz.prog 191 [.op nb 4 0 0,.ip 5 [e.c] 0 0,bB env] h (RnQ h nb p sz st 0 (jD p sz (n + 1) st e env)):=by
 have hb':=hb
 unfold dK at hb'
 have e3:((st:Int) = 3000) = False:=eq_false (by omega)
 have ew:IntKind.i64.wrap ((st:Int) + 1) = ((st + 1:Nat):Int):=by rw [IntWalk.i64_in _ (by omega)];rfl
 have hnode:=(aB.cZ _ _ _ _).1 hok
 have h3:¬ st = 3000:=by omega
 have hlen:=dC hok (by omega)
 rw [hk,show fG 6 = 2 from rfl] at hlen
 have g0:e.aI[Int.toNat 0]? = some (e.mC 0):=aB.gR (by omega)
 have g1:e.aI[Int.toNat 1]? = some (e.mC 1):=aB.gR (by omega)
 have o0:=aB.fD hok (i:=0) (by omega)
 have o1:=aB.fD hok (i:=1) (by omega)
 rw [iC (by omega)] at o0 o1
 rw [aB.aQ]
 refine iY 186 mL bM uH mix Tryz.func191 rfl (by kernel_rfl) (by simp) ?_
 simp -dsimp -implicitDefEqProofs only [go_sem,↓reduceIte,Tryz.f191,hb',e3,ew,hk,g0]
 refine ⟨by omega,?_⟩
 refine aG.gQ (hv.at g0 (a7 h nb (dK p sz (st + 1) 0)) nb (st + 1) 0 env funcs (aH _ _ _) (by omega) (by omega) o0 eM hf henv (by omega)) ?_
 rintro r h' ⟨s1,t1,c1,rfl,rfl,jC,a1,a2,a3⟩
 simp -dsimp -implicitDefEqProofs only [go_sem,↓reduceIte,Tryz.f191,g1]
 refine ⟨by omega,?_⟩
 rw [aO]
 refine aG.gQ (hv.at g1 (a7 h nb (dK p sz t1 c1)) nb t1 c1 env funcs (aH _ _ _) (by omega) (by omega) o1 eM hf henv (by omega)) ?_
 rintro r h' ⟨s2,t2,c2,rfl,rfl,lG,b1,b2,b3⟩
 rw [aO]
 have gs:s2[Int.toNat 0]? = some (s2.getD 0 0):=b9 (by rw [lG.1];omega)
 simp -dsimp -implicitDefEqProofs only [go_sem,↓reduceIte,Tryz.f191,hk,dK,gs]
 refine ⟨fun hc=>?_,fun hc=>?_⟩
 ·subst hc
  refine ⟨by rw [lG.1];omega,fun hz=>?_,fun hz=>?_⟩
  ·refine aG.gQ (aRC (a7 h nb (dK p sz t2 0)) nb p sz t2 0 6 (aH _ _ _) hsz.2) ?_
   rintro r h' ⟨rfl,rfl⟩
   simp -dsimp -implicitDefEqProofs only [go_sem,↓reduceIte,Tryz.f191]
   refine ⟨_,a7 h nb (dK p sz t2 6),cG (by rw [aO];exact aA.le_refl _),_,t2,6,rfl,rfl,gN nN,by omega,b2,?_⟩
   rw [wJ h3 (by omega) (by omega),hk]
   refine a3.eY (b3.eY ?_)
   have:opE 6 [s1,s2] t2 = .error 6:=by rw [opE,if_neg (by decide),if_neg (by decide),if_neg (by decide),if_neg (by decide)];exact if_pos hz
   rw [eK,this]
   exact gT _ _ (by decide)
  ·refine aG.mk (aAS s1 s2 (by rw [jC.1,lG.1]) (by rw [jC.1];omega) (by rw [jC.1];omega) jC.2 lG.2) ?_
   simp -dsimp -implicitDefEqProofs only [go_sem,↓reduceIte,Tryz.f191]
   refine ⟨_,a7 h nb (dK p sz t2 0),cG (aA.le_refl _),_,t2,0,rfl,rfl,lC _ jC,by omega,b2,?_⟩
   rw [wJ h3 (by omega) (by omega),hk]
   refine a3.eY (b3.eY ?_)
   have:opE 6 [s1,s2] t2 = .ok (gH s1 s2,t2):=by rw [opE,if_neg (by decide),if_neg (by decide),if_neg (by decide),if_neg (by decide)];exact if_neg hz
   rw [eK,this]
   exact pK _ _
 ·refine aG.gQ (aRC (a7 h nb (dK p sz t2 c2)) nb p sz t2 c2 6 (aH _ _ _) hsz.2) ?_
  rintro r h' ⟨rfl,rfl⟩
  simp -dsimp -implicitDefEqProofs only [go_sem,↓reduceIte,Tryz.f191]
  refine ⟨_,a7 h nb (dK p sz t2 c2),cG (by rw [aO,if_neg hc];exact aA.le_refl _),_,t2,c2,rfl,rfl,gN nN,by omega,b2,?_⟩
  rw [wJ h3 (by omega) (by omega),hk]
  exact a3.eY (b3.eY (by rw [kA _ hc];exact gT _ _ hc))
theorem run {p:aE} (hp:p.ok) {sz:Nat} (hsz:1≤sz∧sz≤1048576):∀ n,oY p sz n
 |0=>fun h nb st c e env funcs hb hst hn=>by omega
 |n + 1=>fun h nb st c e env funcs hb hst hn hok eM hf henv hel=>by
  have hv:=run hp hsz n
  by_cases hs:¬ c = 0∨st = 3000
  ·exact aS7 hsz h nb st c e env hb hst hs
  have hc:c = 0:=Classical.byContradiction fun q=>hs (.inl q)
  have h3:st < 3000:=by
   rcases Nat.lt_or_ge st 3000 with h | h
   ·exact h
   ·exact absurd (.inr (by omega)) hs
  subst hc
  rcases pW ((aB.cZ _ _ _ _).1 hok).1 with hk | hk | hk | hk | hk | hk | hk | hk | hk | hk | hk
  ·exact a40 hp hsz hv h nb st e env funcs hb h3 hn hok eM hf henv hel hk
  ·exact a41 hp hsz hv h nb st e env funcs hb h3 hn hok eM hf henv hel hk
  ·exact a46 hp hsz hv h nb st e env funcs hb h3 hn hok eM hf henv hel hk
  ·exact a47 hp hsz hv h nb st e env funcs hb h3 hn hok eM hf henv hel hk
  ·exact a48 hp hsz hv h nb st e env funcs hb h3 hn hok eM hf henv hel hk
  ·exact a49 hp hsz hv h nb st e env funcs hb h3 hn hok eM hf henv hel hk
  ·exact a45 hp hsz hv h nb st e env funcs hb h3 hn hok eM hf henv hel hk
  ·exact a42 hp hsz hv h nb st e env funcs hb h3 hn hok eM hf henv hel hk
  ·exact a43 hp hsz hv h nb st e env funcs hb h3 hn hok eM hf henv hel hk
  ·exact aZO hp hsz hv h nb st e env funcs hb h3 hn hok eM hf henv hel hk
  ·exact aZP hp hsz hv h nb st e env funcs hb h3 hn hok eM hf henv hel hk
theorem aLX (l:List Int):dP ((l.map fun n=>[I n]).map (List.map Cell.v)) = l.map fun n=>[I n]:=kN _
theorem fH {h h':aA} {n sz:Nat} {x r:aC} (es:List (List aC)) (h0:h n = none) (hl:(a7 h n (.row sz (es.map (List.map .v)))).le h') (hb:dF n sz es.length x = true) (hr:x.cR n es = r):Shift x h' r h:=by
 subst hr
 refine (Shift.of (Sub.refl _) hl).trans ((Shift.cR (aH _ _ _) (by rw [List.length_map];exact hb)).trans ?_)
 rw [kN]
 exact cG ((bI h0).2 ((bI h0).2 (aA.le_refl h)))
theorem aG.aRF {P:Program} {f:FuncId} {args args':List aC} {h:aA} {K:aC→aA→Prop} {t:Tag K} {r:aC} {n sz:Nat} {es:List (List aC)} (a:dI P f args' r) (hb:dG n sz es.length args = true) (he:iF n es args = args') (k:K r (a7 h n .gone)) :
  aG P f args (a7 h n (.row sz (es.map (List.map .v)))) K t:=by
 refine aG.aU7 n (aH _ _ _) (by rw [List.length_map];exact hb) ?_
 rw [aO,kN,he]
 exact dI.call a k
theorem aZQ {h g:aA} {m b:Nat} (rows:List (List Int)) (s:List Int) (hm:h m = some (.row 1 ((s.map fun n=>[I n]).map (List.map .v)))) (hb:h b = some (.row 1 ((rows.map fun s=>[ints s]).map (List.map .v) ++ [[.v (.os m 1 0 s.length)]]))) (hne:¬ b = m)
  (hg:g.le (a7 (a7 h m .gone) b (.row 1 (((rows ++ [s]).map fun s=>[ints s]).map (List.map .v))))):g.wk h:=by
 have hat:∀ (es:List (List Cell)) i j x,iE es i j = some x→∃ e∈es,x∈e:=fun es i j x hx=>by
  obtain ⟨e,h1,h2⟩:=jI hx
  exact ⟨e,List.mem_of_getElem? h1,List.mem_of_getElem? h2⟩
 have hw:=aA.aRE hm hb hne (fun i j x hx=>by
  obtain ⟨e,he,hxe⟩:=hat _ i j _ hx
  rcases List.mem_append.1 he with he | he
  ·obtain ⟨e1,h1,rfl⟩:=List.mem_map.1 he
   obtain ⟨r,_,rfl⟩:=List.mem_map.1 h1
   simp only [List.map_cons,List.map_nil,List.mem_singleton,Cell.v.injEq] at hxe
   subst hxe;rfl
  ·rw [List.mem_singleton.1 he] at hxe
   simp only [List.mem_singleton,Cell.v.injEq] at hxe
   subst hxe
   simp [dF])
 refine aA.wk.trans (aA.kF ?_) hw
 have:((rows.map fun s=>[ints s]).map (List.map Cell.v) ++ [[Cell.v (.os m 1 0 s.length)]]).map (List.map (Cell.uI m (dP ((s.map fun n=>[I n]).map (List.map Cell.v))))) = ((rows ++ [s]).map fun s=>[ints s]).map (List.map .v):=by
  rw [aLX,List.map_append,List.map_append,List.map_append]
  congr 1
  ·simp only [List.map_map]
   exact List.map_congr_left fun r _=>rfl
  ·simp only [List.map_cons,List.map_nil,Cell.uI,aC.cR,if_true,List.drop_zero]
   rw [List.take_of_length_le (by rw [List.length_map];exact Nat.le_refl _)]
 rw [this]
 exact hg
@[go_sem] def a2P:List Nat:=[6,17]
theorem aV3 (l:List (List Int)) (hl:l.length≤1048576) (hne:∀ s∈l,0 < s.length):dI Tryz.prog 103 [bB l] (ints (l.map fun s=>s.getD 0 0)):=by
 have hc:(l.map fun s=>s.getD 0 0).length = l.length:=List.length_map _
 refine j7 21 aQM a2P bC mix Tryz.func103 rfl (by kernel_rfl) (by simp) fun h=>?_
 simp -dsimp -implicitDefEqProofs only [go_sem,↓reduceIte,Tryz.f103]
 refine ⟨Nat.zero_lt_one,fun _=>?_⟩
 refine bQ (keep:=aQM) (ib:=a2P) (mk:=bC) mix (by kernel_rfl) (fun x:Nat × Option Nat=>[(7,bB l),(8,I l.length),(3,eU 1 ((l.map fun s=>s.getD 0 0).take x.1).length x.2),(9,I x.1)]) (fun x=>gB h (.row 1 ((((l.map fun s=>s.getD 0 0).take x.1).map fun n=>[I n]).map (List.map .v))) x.2) (fun x=>x.1≤l.length∧eF h ((l.map fun s=>s.getD 0 0).take x.1) x.2) (fun x=>l.length - x.1) (0,none) ⟨by simp [bU,bF,eU],by simp only [aP];exact aA.le_refl _,Nat.zero_le _,by simp [eF]⟩ ?_
 rintro ⟨k,o⟩ ⟨hk,hos⟩
 simp only at hk hos ⊢
 rcases Nat.lt_or_ge k l.length with hlt | hge
 ·have ea:l[k]? = some l[k]:=List.getElem?_eq_getElem hlt
  have h0:=hne _ (List.getElem_mem hlt)
  have e0:(l[k])[Int.toNat 0]? = some (l[k].getD 0 0):=b9 h0
  have hy:(l.map fun s=>s.getD 0 0).take (k + 1) = (l.map fun s=>s.getD 0 0).take k ++ [(l.map fun s=>s.getD 0 0)[k]'(by omega)]:=List.take_succ_eq_append_getElem (by omega)
  have hlk:((l.map fun s=>s.getD 0 0).take k).length = k:=by rw [List.length_take];omega
  rw [List.getElem_map] at hy
  cases o with
  |none =>
   rw [a6] at hos
   rw [hos] at hy ⊢
   simp -dsimp -implicitDefEqProofs only [go_sem,↓reduceIte,Tryz.f103,a8,aP,hlt,ea,e0]
   repeat' (with_reducible first | intro _ | refine And.intro ?_ ?_)
   all_goals try (first | omega | decide)
   rename_i b hb
   refine ⟨(k + 1,some b),?_⟩
   simp only [hy]
   refine ⟨⟨rfl,?_⟩,aA.le_refl _,⟨by omega,hb⟩,by omega⟩
   rw [IntWalk.i64_in _ (by omega)];rfl
  |some n =>
   rw [aU] at hos
   simp -dsimp -implicitDefEqProofs only [go_sem,↓reduceIte,Tryz.f103,aT,aK,hlt,ea,e0]
   repeat' (with_reducible first | intro _ | refine And.intro ?_ ?_)
   all_goals try (first | omega | decide | exact Nat.le_refl _)
   rename_i b hb
   refine ⟨(k + 1,some b),?_⟩
   simp only [hy,aK,aT,aU]
   refine ⟨⟨by rw [List.length_append];rfl,?_⟩,?_,⟨by omega,hb.2⟩,by omega⟩
   ·rw [IntWalk.i64_in _ (by omega)];rfl
   ·rw [← dQ];exact iX hos
 ·have hk':k = l.length:=by omega
  subst hk'
  rw [List.take_of_length_le (by omega)] at hos ⊢
  cases o with
  |none =>
   rw [a6] at hos
   simp -dsimp -implicitDefEqProofs only [go_sem,↓reduceIte,Tryz.f103,a8,aP,Nat.lt_irrefl,Int.lt_irrefl]
   rw [hos]
   exact Shift.of (Sub.loose _ _ _) (aA.le_refl _)
  |some n =>
   rw [aU] at hos
   simp -dsimp -implicitDefEqProofs only [go_sem,↓reduceIte,Tryz.f103,aT,aK,Nat.lt_irrefl,Int.lt_irrefl]
   exact fS _ hos (aA.le_refl _) hc.symm
def aLY (X:Out (List (List Int))):List (List Int) × Int × Int:=match X with
 | .ok (vs,t)=>(vs,t,0)
 | .error c=>([],0,c)
theorem aV4 {X:Out (List (List Int))} {l:List (List Int)} {t:Nat} {c:Int} (h:j9 X l t c):aLY X = if c = 0 then (l,(t:Int),0) else ([],0,c):=by
 cases X with
 |ok p =>
  obtain ⟨w,u⟩:=p
  obtain ⟨rfl,rfl,rfl⟩:=h
  rfl
 |error d =>
  obtain ⟨rfl,h⟩:=h
  rw [if_neg h];rfl
@[go_sem] def aRG:List Nat:=[0,1,4,5,7,10,11,12,13]
theorem bAV (n i:Nat) (hn:n≤1048576) (hi:i < n):dI Tryz.prog 139 [I n,.sl 1 [[I i]] true] (ints ((List.replicate n 0).set i 1)):=by
 refine j7 27 aRG bM bC mix Tryz.func139 rfl (by kernel_rfl) (by simp) fun h=>?_
 simp -dsimp -implicitDefEqProofs only [go_sem,↓reduceIte,Tryz.f139]
 refine ⟨Nat.zero_lt_one,by omega,by omega,by omega,fun m hm=>?_⟩
 rw [s9]
 refine wA (keep:=aRG) (ib:=bM) (mk:=bC) mix (by kernel_rfl) (fun k:Nat=>[(5,.os m 1 0 n),(10,.sl 1 [[I i]] true),(11,I 1),(12,I k)]) m (fun k=>.row 1 (((if k = 0 then List.replicate n (0:Int) else (List.replicate n 0).set i 1).map fun n=>[I n]).map (List.map .v))) (fun k=>k≤1) (fun k=>1 - k) 0 ⟨by simp [bU,bF],by rw [aH,if_pos rfl],Nat.zero_le _⟩ ?_
 intro k hk
 rcases Nat.lt_or_ge k 1 with hlt | hge
 ·have:k = 0:=by omega
  subst this
  have e1:(List.replicate n (0:Int))[i]? = some 0:=by rw [List.getElem?_replicate,if_pos hi]
  rw [if_pos rfl]
  simp -dsimp -implicitDefEqProofs only [go_sem,↓reduceIte,Tryz.f139,aO,e1,List.length_replicate,Int.toNat_natCast]
  refine ⟨fun _=>⟨Nat.zero_lt_one,hi,hi,1,by decide,?_,by omega,by omega⟩,fun q=>absurd (by decide) q⟩
  rw [if_neg (by decide),show (IntKind.i64.wrap (0 + 1)).tmod 1000003 = 1 by decide,← nL I]
  exact aA.le_refl _
 ·have:k = 1:=by omega
  subst this
  rw [if_neg (by decide)]
  simp -dsimp -implicitDefEqProofs only [go_sem,↓reduceIte,Tryz.f139,Int.lt_irrefl]
  refine ⟨fun q=>absurd q (by decide),fun _=>?_⟩
  rw [aO]
  exact fS ((List.replicate n 0).set i 1) hm (aA.le_refl _) (by rw [List.length_set,List.length_replicate])
theorem w2:IntKind.i64.wrap (1 + 1) = 2:=by decide
theorem n0:Int.toNat 0 = 0:=rfl
theorem n1:Int.toNat 1 = 1:=rfl
theorem n2:Int.toNat 2 = 2:=rfl
def vO (n i:Nat):List Int:=(List.replicate n 0).set i 1
structure aY where
 fX:Int
 fA:Int
 fB:Int
 aW:Int
def aY.c (x:aY):List aC:=[I x.fX,I x.fA,I x.fB,I x.aW]
theorem aY.aQ (x:aY):x.c = [I x.fX,I x.fA,I x.fB,I x.aW]:=rfl
structure dT where
 aS8:Int
 bAW:Bool
def dT.c (x:dT):List aC:=[I x.aS8,.bool x.bAW]
structure bY where
 code:List aY
 dU:List Int
 guards:List dT
def bY.val (S:bY) (k:Int):Int:=S.dU.getD k.toNat 0
def bY.put (S:bY) (c:aY) (v:Int):bY:=⟨S.code ++ [c],S.dU ++ [v],S.guards⟩
def bY.guard (S:bY) (g:dT):bY:=⟨S.code,S.dU,S.guards ++ [g]⟩
def jF (ev:Nat→aB→bY→Out (Int × bY)):List aB→Nat→bY→Out (List Int × bY)
 | [],t,S=>.ok (([],S),t)
 |e :: l,t,S=>(ev t e S).andThen fun r t=>(jF ev l t r.2).andThen fun q t=>.ok ((r.1 :: q.1,q.2),t)
def mH (f:List Int→Nat→bY→Out (List Int × bY)):Nat→List Int→Nat→bY→Out (List Int × bY)
 |0,vs,t,S=>.ok ((vs,S),t)
 |n + 1,vs,t,S=>(f vs t S).andThen fun r t=>mH f n r.1 t r.2
def opV (k a b:Int):Option Int :=
 if k = 3 then some ((a + b) % 1000003) else if k = 4 then some ((a - b) % 1000003) else if k = 5 then some (a * b % 1000003) else if k = 7 then some ((0 - a) % 1000003)
 else if b = 0 then none else some (a * gG b % 1000003)
def opB (k:Int) (vs:List Int):Int:=if k = 7 then 0 else vs.getD 1 0
def xO (k:Int) (vs:List Int) (S:bY) (t:Nat):Out (Int × bY):=match opV k (S.val (vs.getD 0 0)) (S.val (opB k vs)) with
 |none=>.error 6
 |some v=>.ok (((S.dU.length:Int),S.put ⟨k,vs.getD 0 0,opB k vs,0⟩ v),t)
def cM (p:aE):Nat→Nat→aB→List Int→bY→Out (Int × bY)
 |0,_,_,_,_=>.error 7
 |n + 1,t,e,env,S =>
  if t = 3000 then .error 7
  else if e.aR = 1 then .ok (((S.dU.length:Int),S.put ⟨2,0,0,e.aW⟩ e.aW),t + 1)
  else if e.aR = 2 then .ok ((env.getD e.aW.toNat 0,S),t + 1)
  else if e.aR = 8 then (cM p n (t + 1) (e.mC 0) env S).andThen fun r t =>
   if r.2.val r.1 = 0 then cM p n t (e.mC 1) env (r.2.guard ⟨r.1,true⟩) else cM p n t (e.mC 2) env (r.2.guard ⟨r.1,false⟩)
  else if e.aR = 9 then (cM p n (t + 1) (e.mC 0) env S).andThen fun r t=>cM p n t (e.mC 1) (env ++ [r.1]) r.2
  else (jF (fun t e S=>cM p n t e env S) e.aI (t + 1) S).andThen fun r t =>
   if e.aR = 10 then cM p n t (p.out e.aW e.cB) r.1 r.2
   else if e.aR = 11 then (mH (fun vs t S=>jF (fun t e S=>cM p n t e vs S) (p.outs e.aW) t S) e.bZ.toNat r.1 t r.2).andThen fun r t=>.ok ((r.1.getD e.cB.toNat 0,r.2),t)
   else xO e.aR r.1 r.2 t
theorem aAV (ev:Nat→aB→bY→Out (Int × bY)) (e:aB):∀ (l:List aB) (t:Nat) (S:bY),jF ev (l ++ [e]) t S = (jF ev l t S).andThen fun q t=>(ev t e q.2).andThen fun r t=>.ok ((q.1 ++ [r.1],r.2),t)
 | [],t,S=>rfl
 |x :: l,t,S=>by
  simp only [List.cons_append,jF,aAV ev e l,Out.jY,Out.andThen_ok]
theorem tJ (f:List Int→Nat→bY→Out (List Int × bY)):∀ (n:Nat) (vs:List Int) (t:Nat) (S:bY),mH f (n + 1) vs t S = (mH f n vs t S).andThen fun r t=>f r.1 t r.2
 |0,vs,t,S=>by
  show (f vs t S).andThen (fun r t=>.ok ((r.1,r.2),t)) = f vs t S
  cases f vs t S with
  |ok p=>rfl
  |error c=>rfl
 |n + 1,vs,t,S=>by
  rw [mH,show mH f (n + 1) vs t S = (f vs t S).andThen fun r t=>mH f n r.1 t r.2 from rfl,Out.jY]
  congr 1
  funext r t
  exact tJ f n r.1 t r.2
theorem aG5 (f:List Int→Nat→bY→Out (List Int × bY)) {vs:List Int} {t:Nat} {S:bY} {c:Int}:∀ (k:Nat) {n:Nat},k≤n→mH f k vs t S = .error c→mH f n vs t S = .error c:=by
 intro k n hkn h
 induction n with
 |zero => obtain rfl : k = 0 := by omega
          exact h
 |succ n ih =>
  rcases Nat.lt_or_ge k (n + 1) with h1 | h1
  ·rw [tJ,ih (by omega)];rfl
  ·obtain rfl:k = n + 1:=by omega
   exact h
def bK (inp:Int) (i:Nat) (c:aY):Prop :=
 (c.fX = 1∧c.fA = 0∧c.fB = 0∧0≤c.aW∧c.aW < inp)∨(c.fX = 2∧c.fA = 0∧c.fB = 0∧fP c.aW)∨((c.fX = 3∨c.fX = 4∨c.fX = 5∨c.fX = 6)∧c.aW = 0∧0≤c.fA∧c.fA < i∧0≤c.fB∧c.fB < i)∨(c.fX = 7∧c.aW = 0∧c.fB = 0∧0≤c.fA∧c.fA < i)
structure Good (inp:Int) (S:bY) (t:Nat):Prop where
 len:S.code.length = S.dU.length
 aZR:hH S.dU
 ins:∀ i c,S.code[i]? = some c→bK inp i c
 gds:∀ g∈S.guards,0≤g.aS8∧g.aS8 < S.dU.length
 cap:S.dU.length≤12 + t
 nC:S.guards.length≤t
def bY.ext (S S':bY):Prop:=S.code <+: S'.code∧S.dU <+: S'.dU∧S.guards <+: S'.guards
theorem bY.qH (S:bY):S.ext S:=⟨List.prefix_refl _,List.prefix_refl _,List.prefix_refl _⟩
theorem bY.ext.trans {a b c:bY} (h:a.ext b) (k:b.ext c):a.ext c:=⟨h.1.trans k.1,h.2.1.trans k.2.1,h.2.2.trans k.2.2⟩
theorem bY.aCN (S:bY) (c:aY) (v:Int):S.ext (S.put c v):=⟨List.prefix_append _ _,List.prefix_append _ _,List.prefix_refl _⟩
theorem bY.kK (S:bY) (g:dT):S.ext (S.guard g):=⟨List.prefix_refl _,List.prefix_refl _,List.prefix_append _ _⟩
theorem bY.ext.val {S S':bY} (h:S.ext S') {k:Int} (h0:0≤k) (hk:k < S.dU.length):S'.val k = S.val k:=by
 obtain ⟨x,hx⟩:=h.2.1
 rw [bY.val,bY.val,← hx,List.getD_eq_getElem?_getD,List.getD_eq_getElem?_getD,List.getElem?_append_left (by omega)]
theorem bY.ext.len {S S':bY} (h:S.ext S'):S.dU.length≤S'.dU.length:=h.2.1.length_le
def kB (S:bY) (k:Int):Prop:=0≤k∧k < S.dU.length
theorem kB.ext {S S':bY} {k:Int} (h:kB S k) (e:S.ext S'):kB S' k:=⟨h.1,by have:=h.2;have:=e.len;omega⟩
theorem Good.kO {inp:Int} {S:bY} {t u:Nat} (h:Good inp S t) (hu:t≤u):Good inp S u:=⟨h.len,h.aZR,h.ins,h.gds,by have:=h.cap;omega,by have:=h.nC;omega⟩
theorem Good.put {inp:Int} {S:bY} {t:Nat} {c:aY} {v:Int} (h:Good inp S t) (hc:bK inp S.dU.length c) (hv:fP v) (hcap:S.dU.length < 12 + t):Good inp (S.put c v) t:=by
 refine ⟨by simp [bY.put,h.len],fun x hx=>?_,fun i d hd=>?_,fun g hg=>?_,by simp [bY.put];omega,h.nC⟩
 ·rcases List.mem_append.1 hx with hx | hx
  ·exact h.aZR x hx
  ·rw [List.mem_singleton.1 hx];exact hv
 ·rcases Nat.lt_or_ge i S.code.length with hi | hi
  ·rw [bY.put,List.getElem?_append_left hi] at hd;exact h.ins i d hd
  ·rw [bY.put,List.getElem?_append_right hi] at hd
   have hd2:=List.getElem?_eq_some_iff.1 hd
   obtain ⟨h1,h2⟩:=hd2
   have h3:i = S.dU.length:=by simp at h1;have:=h.len;omega
   simp at h2
   subst h2;rw [h3];exact hc
 ·have:=h.gds g hg
  simp only [bY.put,List.length_append,List.length_singleton];omega
theorem Good.guard {inp:Int} {S:bY} {t:Nat} {k:Int} {b:Bool} (h:Good inp S t) (hk:kB S k) (hcap:S.guards.length < t):Good inp (S.guard ⟨k,b⟩) t:=by
 refine ⟨h.len,h.aZR,h.ins,fun g hg=>?_,h.cap,by simp [bY.guard];omega⟩
 rcases List.mem_append.1 hg with hg | hg
 ·exact h.gds g hg
 ·rw [List.mem_singleton.1 hg];exact hk
theorem aZS {k a b v:Int} (h:opV k a b = some v):fP v:=by
 unfold opV at h
 repeat' (split at h)
 all_goals first | (cases h;done) | (cases h;exact c7 _)
def qS {α:Type} (P:α→Nat→Prop) (X:Out α):Prop:=∀ v u,X = .ok (v,u)→P v u
theorem qS.then {α β:Type} {P:α→Nat→Prop} {Q:β→Nat→Prop} {X:Out α} {F:α→Nat→Out β} (h:qS P X) (hf:∀ v t,P v t→qS Q (F v t)):qS Q (X.andThen F):=fun w u hw=>by
 cases X with
 |ok p=>obtain ⟨v,t⟩:=p;exact hf v t (h v t rfl) w u hw
 |error c=>cases hw
theorem qS.pure {α:Type} {P:α→Nat→Prop} {v:α} {t:Nat} (h:P v t):qS P (.ok (v,t)):=fun w u e=>by cases e;exact h
theorem qS.err {α:Type} {P:α→Nat→Prop} {c:Int}:qS P (.error c:Out α):=fun w u e=>by cases e
theorem qS.mono {α:Type} {P Q:α→Nat→Prop} {X:Out α} (h:qS P X) (hq:∀ v u,P v u→Q v u):qS Q X:=fun v u e=>hq v u (h v u e)
def lH (S:bY) (t:Nat) (S':bY) (u:Nat):Prop:=S'.dU.length + t≤S.dU.length + u∧S'.guards.length + t≤S.guards.length + u∧t≤u∧u≤3000
theorem lH.refl {S:bY} {t:Nat} (h:t≤3000):lH S t S t:=⟨Nat.le_refl _,Nat.le_refl _,Nat.le_refl _,h⟩
theorem lH.trans {A B C:bY} {t u v:Nat} (h:lH A t B u) (k:lH B u C v):lH A t C v:=by
 unfold lH at *;omega
def aEM (inp:Int) (S:bY) (t:Nat) (r:Int × bY) (u:Nat):Prop:=Good inp r.2 u∧S.ext r.2∧kB r.2 r.1∧lH S t r.2 u
def vP (inp:Int) (S:bY) (t n:Nat) (r:List Int × bY) (u:Nat):Prop:=Good inp r.2 u∧S.ext r.2∧(r.1.length = n∧∀ x∈r.1,kB r.2 x)∧lH S t r.2 u
theorem jR {ev:Nat→aB→bY→Out (Int × bY)} {inp:Int}:∀ (l:List aB) (t:Nat) (S:bY),Good inp S t→t≤3000→(∀ e∈l,∀ u S',Good inp S' u→S.ext S'→lH S t S' u→qS (aEM inp S' u) (ev u e S'))→qS (vP inp S t l.length) (jF ev l t S)
 | [],t,S,hg,ht,_=>qS.pure ⟨hg,S.qH,⟨rfl,by simp⟩,.refl ht⟩
 |e :: l,t,S,hg,ht,h=>(h e List.mem_cons_self t S hg S.qH (.refl ht)).then fun r u hr=>by
  obtain ⟨r1,r2,r3,r4⟩:=hr
  refine (jR l u r.2 r1 r4.2.2.2 fun x hx u' S' a b c=>h x (List.mem_cons_of_mem _ hx) u' S' a (r2.trans b) (r4.trans c)).then fun q u' hq=>?_
  obtain ⟨q1,q2,⟨q3,q4⟩,q5⟩:=hq
  refine qS.pure ⟨q1,r2.trans q2,⟨by rw [List.length_cons,q3];rfl,fun x hx=>?_⟩,r4.trans q5⟩
  rcases List.mem_cons.1 hx with rfl | hx
  ·exact r3.ext q2
  ·exact q4 x hx
theorem qI {f:List Int→Nat→bY→Out (List Int × bY)} {inp:Int} {m:Nat} (h:∀ vs t S,Good inp S t→(vs.length = m∧∀ x∈vs,kB S x)→t≤3000→qS (vP inp S t m) (f vs t S)) :
  ∀ (n:Nat) (vs:List Int) (t:Nat) (S:bY),Good inp S t→(vs.length = m∧∀ x∈vs,kB S x)→t≤3000→qS (vP inp S t m) (mH f n vs t S)
 |0,vs,t,S,hg,hv,ht=>qS.pure ⟨hg,S.qH,hv,.refl ht⟩
 |n + 1,vs,t,S,hg,hv,ht=>(h vs t S hg hv ht).then fun r u hr=>by
  obtain ⟨r1,r2,r3,r4⟩:=hr
  refine (qI h n r.1 u r.2 r1 r3 r4.2.2.2).mono fun q u' hq=>?_
  obtain ⟨q1,q2,q3,q4⟩:=hq
  exact ⟨q1,r2.trans q2,q3,r4.trans q4⟩
theorem a5A {inp k:Int} {vs:List Int} {S:bY} {t:Nat} {m:Nat} (hk:k = 3∨k = 4∨k = 5∨k = 6∨k = 7) (hm:vs.length = m∧∀ x∈vs,kB S x) (hm1:1≤m) (hm2:¬ k = 7→2≤m) (hg:Good inp S (t + 1)) (hcap:S.dU.length < 12 + (t + 1)) (ht:t + 1≤3000):qS (fun r u=>Good inp r.2 u∧S.ext r.2∧kB r.2 r.1∧u = t + 1∧r.2.dU.length = S.dU.length + 1∧r.2.guards = S.guards) (xO k vs S (t + 1)):=by
 have at_:∀ i,i < m→kB S (vs.getD i 0):=fun i hi=>by
  rw [List.getD_eq_getElem?_getD,List.getElem?_eq_getElem (by omega)]
  exact hm.2 _ (List.getElem_mem _)
 unfold xO
 split
 ·exact qS.err
 ·rename_i v hv
  have h0:=at_ 0 (by omega)
  refine qS.pure ⟨hg.put ?_ (aZS hv) hcap,S.aCN _ _,⟨by simp,by simp [bY.put];omega⟩,rfl,by simp [bY.put],rfl⟩
  unfold kB at h0
  by_cases h7:k = 7
  ·subst h7
   exact .inr (.inr (.inr ⟨rfl,rfl,rfl,h0⟩))
  ·have h1:=at_ 1 (hm2 h7)
   unfold kB at h1
   have hb:opB k vs = vs.getD 1 0:=if_neg h7
   exact .inr (.inr (.inl ⟨by simp only;omega,rfl,h0.1,h0.2,by simp only [hb];exact h1.1,by simp only [hb];exact h1.2⟩))
theorem aEN {p:aE} {n st:Nat} {e:aB} {env:List Int} {S:bY} (h3:¬ st = 3000) (hk:e.aR = 1):cM p (n + 1) st e env S = .ok (((S.dU.length:Int),S.put ⟨2,0,0,e.aW⟩ e.aW),st + 1):=by rw [cM,if_neg h3,if_pos hk]
theorem aEO {p:aE} {n st:Nat} {e:aB} {env:List Int} {S:bY} (h3:¬ st = 3000) (hk:e.aR = 2):cM p (n + 1) st e env S = .ok ((env.getD e.aW.toNat 0,S),st + 1):=by rw [cM,if_neg h3,if_neg (by omega),if_pos hk]
theorem tK {p:aE} {n st:Nat} {e:aB} {env:List Int} {S:bY} (h3:¬ st = 3000) (hk:e.aR = 8):cM p (n + 1) st e env S = (cM p n (st + 1) (e.mC 0) env S).andThen fun r t =>
   if r.2.val r.1 = 0 then cM p n t (e.mC 1) env (r.2.guard ⟨r.1,true⟩) else cM p n t (e.mC 2) env (r.2.guard ⟨r.1,false⟩):=by rw [cM,if_neg h3,if_neg (by omega),if_neg (by omega),if_pos hk]
theorem aEP {p:aE} {n st:Nat} {e:aB} {env:List Int} {S:bY} (h3:¬ st = 3000) (hk:e.aR = 9):cM p (n + 1) st e env S = (cM p n (st + 1) (e.mC 0) env S).andThen fun r t=>cM p n t (e.mC 1) (env ++ [r.1]) r.2:=by rw [cM,if_neg h3,if_neg (by omega),if_neg (by omega),if_neg (by omega),if_pos hk]
theorem tL {p:aE} {n st:Nat} {e:aB} {env:List Int} {S:bY} (h3:¬ st = 3000) (hk:e.aR = 10):cM p (n + 1) st e env S = (jF (fun t e S=>cM p n t e env S) e.aI (st + 1) S).andThen fun r t=>cM p n t (p.out e.aW e.cB) r.1 r.2:=by
 rw [cM,if_neg h3,if_neg (by omega),if_neg (by omega),if_neg (by omega),if_neg (by omega)];simp only [if_pos hk]
theorem tM {p:aE} {n st:Nat} {e:aB} {env:List Int} {S:bY} (h3:¬ st = 3000) (hk:e.aR = 11):cM p (n + 1) st e env S = (jF (fun t e S=>cM p n t e env S) e.aI (st + 1) S).andThen fun r t=>(mH (fun vs t S=>jF (fun t e S=>cM p n t e vs S) (p.outs e.aW) t S) e.bZ.toNat r.1 t r.2).andThen fun r t=>.ok ((r.1.getD e.cB.toNat 0,r.2),t):=by
 have h:¬ e.aR = 10:=by omega
 rw [cM,if_neg h3,if_neg (by omega),if_neg (by omega),if_neg (by omega),if_neg (by omega)];simp only [if_neg h,if_pos hk]
theorem jA {p:aE} {n st:Nat} {e:aB} {env:List Int} {S:bY} (h3:¬ st = 3000) (hk:e.aR = 3∨e.aR = 4∨e.aR = 5∨e.aR = 6∨e.aR = 7):cM p (n + 1) st e env S = (jF (fun t e S=>cM p n t e env S) e.aI (st + 1) S).andThen fun r t=>xO e.aR r.1 r.2 t:=by
 have h:¬ e.aR = 10:=by omega
 have h2:¬ e.aR = 11:=by omega
 rw [cM,if_neg h3,if_neg (by omega),if_neg (by omega),if_neg (by omega),if_neg (by omega)];simp only [if_neg h,if_neg h2]
theorem lH.step {S S':bY} {t u:Nat} (h:lH S (t + 1) S' u):lH S t S' u:=by unfold lH at *;omega
theorem lO {p:aE} (hp:p.ok) {inp:Int}:∀ (n t:Nat) (e:aB) (env:List Int) (S:bY) (funcs:Int),e.ok p funcs env.length→funcs≤p.aJ.length→Good inp S t→t≤3000→(∀ x∈env,kB S x)→qS (aEM inp S t) (cM p n t e env S)
 |0,t,e,env,S,funcs,_,_,_,_,_=>qS.err
 |n + 1,t,e,env,S,funcs,hok,hf,hg,ht,henv=>by
  have ih:=lO hp (inp:=inp) n
  have hnode:=((aB.cZ _ _ _ _).1 hok).1
  by_cases h3:t = 3000
  ·rw [cM,if_pos h3];exact qS.err
  have iZ:=hg.kO (Nat.le_succ t)
  have hcap:=hg.cap
  have hgcap:=hg.nC
  have henvE:∀ {S'},S.ext S'→∀ x∈env,kB S' x:=fun e x hx=>(henv x hx).ext e
  rcases pW hnode with hk | hk | hk | hk | hk | hk | hk | hk | hk | hk | hk
  ·rw [aEN h3 hk]
   have hn:=((eO (by omega)).1 hnode).2.2.2.1 hk
   exact qS.pure ⟨iZ.put (.inr (.inl ⟨rfl,rfl,rfl,hn⟩)) hn (by omega),S.aCN _ _,⟨by simp,by simp [bY.put];omega⟩,by simp [lH,bY.put];omega⟩
  ·rw [aEO h3 hk]
   have hn:=((eO (by omega)).1 hnode).2.2.2.2.1 hk
   refine qS.pure ⟨iZ,S.qH,?_,by simp [lH];omega⟩
   simp only [List.getD_eq_getElem?_getD]
   rw [List.getElem?_eq_getElem (by omega)]
   exact henv _ (List.getElem_mem _)
  iterate 5
   ·have hlen:=dC hok (by omega)
    rw [hk] at hlen
    rw [jA h3 (by omega)]
    refine (jR _ _ S iZ (by omega) fun x hx u S' a b c=>ih u x env S' funcs (eQ hok (by omega) x hx) hf a c.2.2.2 (henvE b)).then fun r u hr=>?_
    obtain ⟨r1,r2,r3,r4⟩:=hr
    obtain ⟨u,rfl⟩:∃ w,u = w + 1:=⟨u - 1,by have:=r4.2.2.1;omega⟩
    unfold lH at r4
    refine (a5A (inp:=inp) (by omega) r3 (by unfold fG at hlen;simp at hlen;omega) (fun q=>by unfold fG at hlen;simp at hlen;omega) r1 (by omega) (by omega)).mono fun q v hq=>?_
    obtain ⟨q1,q2,q3,rfl,q5,q6⟩:=hq
    exact ⟨q1,r2.trans q2,q3,by unfold lH;rw [q5,q6];omega⟩
  ·have hlen:=dC hok (by omega)
   rw [hk,show fG 8 = 3 from rfl] at hlen
   have o0:=aB.fD hok (i:=0) (by omega)
   have o1:=aB.fD hok (i:=1) (by omega)
   have o2:=aB.fD hok (i:=2) (by omega)
   rw [iC (by omega)] at o0 o1 o2
   rw [tK h3 hk]
   refine (ih _ _ _ _ _ o0 hf iZ (by omega) henv).then fun r u hr=>?_
   obtain ⟨r1,r2,r3,r4⟩:=hr
   have r4':=r4
   unfold lH at r4'
   have go:∀ (b:Bool) (k:aB),k.ok p funcs env.length→qS (aEM inp S t) (cM p n u k env (r.2.guard ⟨r.1,b⟩)):=fun b k hk=>by
    have he:r.2.ext (r.2.guard ⟨r.1,b⟩):=r.2.kK _
    refine (ih u k env _ _ hk hf (r1.guard r3 (by omega)) (by omega) (henvE (r2.trans he))).mono fun q v hq=>?_
    obtain ⟨q1,q2,q3,q4⟩:=hq
    refine ⟨q1,(r2.trans he).trans q2,q3,?_⟩
    unfold lH at q4 ⊢
    simp only [bY.guard,List.length_append,List.length_singleton] at q4
    omega
   split
   ·exact go _ _ o1
   ·exact go _ _ o2
  ·have hlen:=dC hok (by omega)
   rw [hk,show fG 9 = 2 from rfl] at hlen
   have o0:=aB.fD hok (i:=0) (by omega)
   have o1:=aB.fD hok (i:=1) (by omega)
   rw [iC (by omega)] at o0
   rw [hk,show kG 9 1 (env.length:Int) = env.length + 1 from rfl] at o1
   rw [aEP h3 hk]
   refine (ih _ _ _ _ _ o0 hf iZ (by omega) henv).then fun r u hr=>?_
   obtain ⟨r1,r2,r3,r4⟩:=hr
   refine (ih _ _ (env ++ [r.1]) _ _ (by rw [List.length_append];exact o1) hf r1 r4.2.2.2 fun x hx=>?_).mono fun q v hq=>?_
   ·rcases List.mem_append.1 hx with hx | hx
    ·exact henvE r2 x hx
    ·rw [List.mem_singleton.1 hx];exact r3
   ·obtain ⟨q1,q2,q3,q4⟩:=hq
    exact ⟨q1,r2.trans q2,q3,(r4.trans q4).step⟩
  ·obtain ⟨f,F⟩:=nM hp hok hf (.inl hk)
   have f2:=F.hi
   have f4:=F.pk2
   rw [tL h3 hk]
   refine (jR _ _ S iZ (by omega) fun x hx u S' a b c=>ih u x env S' funcs (eQ hok (by omega) x hx) hf a c.2.2.2 (henvE b)).then fun r u hr=>?_
   obtain ⟨r1,r2,r3,r4⟩:=hr
   refine (ih _ _ r.1 _ e.aW (by rw [r3.1,F.kids];exact F.oks _ (List.mem_of_getElem? F.out)) (by omega) r1 r4.2.2.2 r3.2).mono fun q v hq=>?_
   obtain ⟨q1,q2,q3,q4⟩:=hq
   exact ⟨q1,r2.trans q2,q3,(r4.trans q4).step⟩
  ·obtain ⟨f,F⟩:=nM hp hok hf (.inr hk)
   have f2:=F.hi
   have f4:=F.pk2
   have f9:=F.loop hk
   rw [tM h3 hk]
   refine (jR _ _ S iZ (by omega) fun x hx u S' a b c=>ih u x env S' funcs (eQ hok (by omega) x hx) hf a c.2.2.2 (henvE b)).then fun r u hr=>?_
   obtain ⟨r1,r2,r3,r4⟩:=hr
   refine (qI (inp:=inp) (m:=f.aL.length) (fun vs w S' hg' hv hw=>?_) _ _ _ _ r1 ⟨by have:=r3.1;have:=F.kids;omega,r3.2⟩ r4.2.2.2).then fun q v hq=>?_
   ·rw [F.eq]
    exact jR _ _ S' hg' hw fun x hx u S'' a b c=>ih u x vs S'' e.aW (by rw [hv.1,f9.2.2];exact F.oks x hx) (by omega) a c.2.2.2 fun y hy=>(hv.2 y hy).ext b
   ·obtain ⟨q1,q2,q3,q4⟩:=hq
    refine qS.pure ⟨q1,r2.trans q2,?_,(r4.trans q4).step⟩
    simp only [List.getD_eq_getElem?_getD]
    rw [List.getElem?_eq_getElem (by rw [q3.1];exact f4)]
    exact q3.2 _ (List.getElem_mem _)
def k7 {α β:Type} (R:α→β→Prop) (X:Out α) (Y:Out β):Prop:=match X,Y with
 | .ok (v,t),.ok (v',t')=>R v v'∧t = t'
 | .error c,.error c'=>c = c'
 | _,_=>False
theorem k7.bind {α β γ δ:Type} {R:α→β→Prop} {R':γ→δ→Prop} {P:α→Nat→Prop} {X:Out α} {Y:Out β} {F:α→Nat→Out γ} {G:β→Nat→Out δ} (hp:qS P X) (h:k7 R X Y) (hf:∀ v v' t,P v t→R v v'→k7 R' (F v t) (G v' t)):k7 R' (X.andThen F) (Y.andThen G):=by
 cases X with
 |ok p =>
  cases Y with
  |ok q =>
   obtain ⟨v,t⟩:=p
   obtain ⟨v',t'⟩:=q
   obtain ⟨h1,rfl⟩:=h
   exact hf _ _ _ (hp v t rfl) h1
  |error c=>exact h.elim
 |error c =>
  cases Y with
  |ok q=>exact h.elim
  |error d=>exact h
theorem k7.pure {α β:Type} {R:α→β→Prop} {v:α} {v':β} {t:Nat} (h:R v v'):k7 R (.ok (v,t)) (.ok (v',t)):=⟨h,rfl⟩
def sv (S:bY) (l:List Int):List (List Int):=l.map fun k=>[S.val k]
def sR1 (r:Int × bY) (v:List Int):Prop:=v = [r.2.val r.1]
def sRL (r:List Int × bY) (vs:List (List Int)):Prop:=vs = sv r.2 r.1
theorem aEQ {S S':bY} {l:List Int} (h:∀ x∈l,kB S x) (e:S.ext S'):sv S' l = sv S l :=
 List.map_congr_left fun x hx=>by rw [e.val (h x hx).1 (h x hx).2]
theorem sD {ev:Nat→aB→bY→Out (Int × bY)} {ev':Nat→aB→Out (List Int)} {inp:Int}:∀ (l:List aB) (t:Nat) (S:bY),Good inp S t→t≤3000→(∀ e∈l,∀ u S',Good inp S' u→S.ext S'→lH S t S' u→qS (aEM inp S' u) (ev u e S')∧k7 sR1 (ev u e S') (ev' u e))→k7 sRL (jF ev l t S) (lP ev' l t)
 | [],t,S,hg,ht,_=>k7.pure rfl
 |e :: l,t,S,hg,ht,h=>by
  obtain ⟨h1,h2⟩:=h e List.mem_cons_self t S hg S.qH (.refl ht)
  refine k7.bind h1 h2 fun r v u hr hv=>?_
  obtain ⟨r1,r2,r3,r4⟩:=hr
  have hl:=fun x hx u' S' a b c=>h x (List.mem_cons_of_mem _ hx) u' S' a (r2.trans b) (r4.trans c)
  refine k7.bind (jR l u r.2 r1 r4.2.2.2 fun x hx u' S' a b c=>(hl x hx u' S' a b c).1) (sD l u r.2 r1 r4.2.2.2 hl) fun q vs u' hq hvs=>k7.pure ?_
  rw [sR1] at hv
  rw [sRL] at hvs ⊢
  rw [hv,hvs,← hq.2.1.val r3.1 r3.2];rfl
theorem aG6 {f:List Int→Nat→bY→Out (List Int × bY)} {g:List (List Int)→Nat→Out (List (List Int))} {inp:Int} {m:Nat} (h:∀ vs t S,Good inp S t→(vs.length = m∧∀ x∈vs,kB S x)→t≤3000→qS (vP inp S t m) (f vs t S)∧k7 sRL (f vs t S) (g (sv S vs) t)) :
  ∀ (n:Nat) (vs:List Int) (t:Nat) (S:bY),Good inp S t→(vs.length = m∧∀ x∈vs,kB S x)→t≤3000→k7 sRL (mH f n vs t S) (qE g n (sv S vs) t)
 |0,vs,t,S,hg,hv,ht=>k7.pure rfl
 |n + 1,vs,t,S,hg,hv,ht=>by
  obtain ⟨h1,h2⟩:=h vs t S hg hv ht
  refine k7.bind h1 h2 fun r w u hr hw=>?_
  rw [sRL] at hw
  rw [hw]
  exact aG6 h n r.1 u r.2 hr.1 hr.2.2.1 hr.2.2.2.2.2.2
theorem xP {S:bY} {l:List Int} {i:Nat} (hi:i < l.length):(sv S l).getD i [] = [S.val (l.getD i 0)]:=by
 simp [sv,List.getD_eq_getElem?_getD,List.getElem?_eq_getElem hi]
theorem aZT {k:Int} {vs:List Int} {S:bY} {t:Nat} (hk:k = 3∨k = 4∨k = 5∨k = 6∨k = 7) (h1:1≤vs.length) (h2:¬ k = 7→2≤vs.length):k7 sR1 (xO k vs S t) (opE k (sv S vs) t):=by
 have g0:=xP (S:=S) (l:=vs) (i:=0) (by omega)
 have pv:∀ c v,(S.put c v).val (S.dU.length:Int) = v:=fun c v=>by
  rw [bY.val,bY.put,List.getD_eq_getElem?_getD,Int.toNat_natCast,List.getElem?_append_right (Nat.le_refl _),Nat.sub_self];rfl
 unfold xO opE opV
 rcases hk with rfl | rfl | rfl | rfl | rfl
 all_goals simp only [reduceCtorEq,if_true,if_false,Int.reduceEq]
 ·refine k7.pure ?_
  have g1:=xP (S:=S) (l:=vs) (i:=1) (h2 (by decide))
  rw [sR1,pv,g0,g1]
  rfl
 ·refine k7.pure ?_
  have g1:=xP (S:=S) (l:=vs) (i:=1) (h2 (by decide))
  rw [sR1,pv,g0,g1]
  show [(_ + _ * 1000002 % 1000003) % 1000003] = [(_ - S.val (vs.getD 1 0)) % 1000003]
  congr 1
  omega
 ·refine k7.pure ?_
  have g1:=xP (S:=S) (l:=vs) (i:=1) (h2 (by decide))
  rw [sR1,pv,g0,g1]
  show [(0 + _ * _) % 1000003] = [_ * S.val (vs.getD 1 0) % 1000003]
  rw [Int.zero_add];rfl
 ·have g1:=xP (S:=S) (l:=vs) (i:=1) (h2 (by decide))
  rw [g0,g1,show opB 6 vs = vs.getD 1 0 from rfl,show [S.val (vs.getD 1 0)].getD 0 0 = S.val (vs.getD 1 0) from rfl]
  by_cases h:S.val (vs.getD 1 0) = 0
  ·rw [if_pos h,if_pos h];exact rfl
  ·rw [if_neg h,if_neg h]
   refine k7.pure ?_
   rw [sR1,pv];rfl
 ·refine k7.pure ?_
  rw [sR1,pv,g0]
  show [_ * 1000002 % 1000003] = [(0 - S.val (vs.getD 0 0)) % 1000003]
  congr 1
  omega
theorem aL0 {p:aE} (hp:p.ok) {inp:Int}:∀ (n t:Nat) (e:aB) (env:List Int) (S:bY) (funcs:Int),e.ok p funcs env.length→funcs≤p.aJ.length→Good inp S t→t≤3000→(∀ x∈env,kB S x)→k7 sR1 (cM p n t e env S) (jD p 1 n t e (sv S env))
 |0,t,e,env,S,funcs,_,_,_,_,_=>rfl
 |n + 1,t,e,env,S,funcs,hok,hf,hg,ht,henv=>by
  have ih:=aL0 hp (inp:=inp) n
  have io:=lO hp (inp:=inp) n
  have hnode:=((aB.cZ _ _ _ _).1 hok).1
  by_cases h3:t = 3000
  ·rw [cM,jD,if_pos h3,if_pos h3];exact rfl
  have iZ:=hg.kO (Nat.le_succ t)
  have hcap:=hg.cap
  have hgcap:=hg.nC
  have henvE:∀ {S'},S.ext S'→∀ x∈env,kB S' x:=fun e x hx=>(henv x hx).ext e
  have kidsS:¬ e.aR = 9→∀ x∈e.aI,∀ u S',Good inp S' u→S.ext S'→lH S (t + 1) S' u→qS (aEM inp S' u) (cM p n u x env S')∧k7 sR1 (cM p n u x env S') (jD p 1 n u x (sv S env)):=fun h9 x hx u S' a b c =>
   ⟨io u x env S' funcs (eQ hok h9 x hx) hf a c.2.2.2 (henvE b),by
    have:=ih u x env S' funcs (eQ hok h9 x hx) hf a c.2.2.2 (henvE b)
    rwa [aEQ henv b] at this⟩
  rcases pW hnode with hk | hk | hk | hk | hk | hk | hk | hk | hk | hk | hk
  ·rw [aEN h3 hk,aVR h3 hk]
   refine k7.pure ?_
   simp [sR1,bY.val,bY.put,bJ,List.replicate_succ]
  ·rw [aEO h3 hk,aVS h3 hk]
   have hn:=((eO (by omega)).1 hnode).2.2.2.2.1 hk
   exact k7.pure (xP (by omega))
  iterate 5
   ·have hlen:=dC hok (by omega)
    rw [hk] at hlen
    rw [jA h3 (by omega),aIO h3 (by omega)]
    have hs:=kidsS (by omega)
    refine k7.bind (jR _ _ S iZ (by omega) fun x hx u S' a b c=>(hs x hx u S' a b c).1) (sD _ _ S iZ (by omega) hs) fun r vs u hr hv=>?_
    obtain ⟨r1,r2,r3,r4⟩:=hr
    rw [sRL] at hv
    rw [hv]
    exact aZT (by omega) (by unfold fG at hlen;simp at hlen;omega) (fun q=>by unfold fG at hlen;simp at hlen;omega)
  ·have hlen:=dC hok (by omega)
   rw [hk,show fG 8 = 3 from rfl] at hlen
   have o0:=aB.fD hok (i:=0) (by omega)
   have o1:=aB.fD hok (i:=1) (by omega)
   have o2:=aB.fD hok (i:=2) (by omega)
   rw [iC (by omega)] at o0 o1 o2
   rw [tK h3 hk,aQ3 h3 hk]
   refine k7.bind (io _ _ _ _ _ o0 hf iZ (by omega) henv) (ih _ _ _ _ _ o0 hf iZ (by omega) henv) fun r v u hr hv=>?_
   obtain ⟨r1,r2,r3,r4⟩:=hr
   have r4':=r4
   unfold lH at r4'
   rw [sR1] at hv
   subst hv
   rw [show [r.2.val r.1].getD 0 0 = r.2.val r.1 from rfl]
   have go:∀ (b:Bool) (k:aB),k.ok p funcs env.length→k7 sR1 (cM p n u k env (r.2.guard ⟨r.1,b⟩)) (jD p 1 n u k (sv S env)):=fun b k hk=>by
    have he:r.2.ext (r.2.guard ⟨r.1,b⟩):=r.2.kK _
    have:=ih u k env _ _ hk hf (r1.guard (b:=b) r3 (by omega)) (by omega) (henvE (r2.trans he))
    rwa [aEQ henv (r2.trans he)] at this
   by_cases hz:r.2.val r.1 = 0
   ·rw [if_pos hz,if_pos hz];exact go _ _ o1
   ·rw [if_neg hz,if_neg hz];exact go _ _ o2
  ·have hlen:=dC hok (by omega)
   rw [hk,show fG 9 = 2 from rfl] at hlen
   have o0:=aB.fD hok (i:=0) (by omega)
   have o1:=aB.fD hok (i:=1) (by omega)
   rw [iC (by omega)] at o0
   rw [hk,show kG 9 1 (env.length:Int) = env.length + 1 from rfl] at o1
   rw [aEP h3 hk,aVT h3 hk]
   refine k7.bind (io _ _ _ _ _ o0 hf iZ (by omega) henv) (ih _ _ _ _ _ o0 hf iZ (by omega) henv) fun r v u hr hv=>?_
   obtain ⟨r1,r2,r3,r4⟩:=hr
   rw [sR1] at hv
   subst hv
   have:=ih u (e.mC 1) (env ++ [r.1]) r.2 funcs (by rw [List.length_append];exact o1) hf r1 r4.2.2.2 (fun x hx=>by
    rcases List.mem_append.1 hx with hx | hx
    ·exact henvE r2 x hx
    ·rw [List.mem_singleton.1 hx];exact r3)
   rwa [show sv r.2 (env ++ [r.1]) = sv S env ++ [[r.2.val r.1]] by rw [← aEQ henv r2,sv,List.map_append];rfl] at this
  ·obtain ⟨f,F⟩:=nM hp hok hf (.inl hk)
   have f2:=F.hi
   have f4:=F.pk2
   rw [tL h3 hk,aOG h3 hk]
   have hs:=kidsS (by omega)
   refine k7.bind (jR _ _ S iZ (by omega) fun x hx u S' a b c=>(hs x hx u S' a b c).1) (sD _ _ S iZ (by omega) hs) fun r vs u hr hv=>?_
   obtain ⟨r1,r2,r3,r4⟩:=hr
   rw [sRL] at hv
   rw [hv]
   exact ih _ _ r.1 _ e.aW (by rw [r3.1,F.kids];exact F.oks _ (List.mem_of_getElem? F.out)) (by omega) r1 r4.2.2.2 r3.2
  ·obtain ⟨f,F⟩:=nM hp hok hf (.inr hk)
   have f2:=F.hi
   have f4:=F.pk2
   have f9:=F.loop hk
   rw [tM h3 hk,aOH h3 hk]
   have hs:=kidsS (by omega)
   refine k7.bind (jR _ _ S iZ (by omega) fun x hx u S' a b c=>(hs x hx u S' a b c).1) (sD _ _ S iZ (by omega) hs) fun r vs u hr hv=>?_
   obtain ⟨r1,r2,r3,r4⟩:=hr
   rw [sRL] at hv
   rw [hv]
   have hfl:∀ vs t S,Good inp S t→(vs.length = f.aL.length∧∀ x∈vs,kB S x)→t≤3000→qS (vP inp S t f.aL.length) (jF (fun t e S=>cM p n t e vs S) (p.outs e.aW) t S)∧k7 sRL (jF (fun t e S=>cM p n t e vs S) (p.outs e.aW) t S) (lP (fun t e=>jD p 1 n t e (sv S vs)) (p.outs e.aW) t):=fun vs w S' hg' hv hw=>by
    rw [F.eq]
    have zX:∀ x∈f.aL,∀ u S'',Good inp S'' u→S'.ext S''→lH S' w S'' u→qS (aEM inp S'' u) (cM p n u x vs S'')∧k7 sR1 (cM p n u x vs S'') (jD p 1 n u x (sv S' vs)):=fun x hx u S'' a b c =>
     ⟨io u x vs S'' e.aW (by rw [hv.1,f9.2.2];exact F.oks x hx) (by omega) a c.2.2.2 fun y hy=>(hv.2 y hy).ext b,by
      have:=ih u x vs S'' e.aW (by rw [hv.1,f9.2.2];exact F.oks x hx) (by omega) a c.2.2.2 fun y hy=>(hv.2 y hy).ext b
      rwa [aEQ hv.2 b] at this⟩
    exact ⟨jR _ _ S' hg' hw fun x hx u S'' a b c=>(zX x hx u S'' a b c).1,sD _ _ S' hg' hw zX⟩
   have qQ:r.1.length = f.aL.length∧∀ x∈r.1,kB r.2 x:=⟨by have:=r3.1;have:=F.kids;omega,r3.2⟩
   refine k7.bind (qI (inp:=inp) (m:=f.aL.length) (fun vs t S a b c=>(hfl vs t S a b c).1) _ _ _ _ r1 qQ r4.2.2.2) (aG6 (inp:=inp) (m:=f.aL.length) (g:=fun vs t=>lP (fun t e=>jD p 1 n t e vs) (p.outs e.aW) t) hfl _ _ _ _ r1 qQ r4.2.2.2) fun q vs2 v hq hvs=>?_
   refine k7.pure ?_
   rw [sRL] at hvs
   rw [hvs]
   exact xP (by rw [hq.2.2.1.1];exact f4)
def inS (args:List Int):bY:=⟨(List.range args.length).map fun i:Nat=>⟨1,0,0,(i:Int)⟩,args,[]⟩
def zY (args:List Int):List Int:=(List.range args.length).map fun i:Nat=>(i:Int)
theorem y7 (args:List Int) (ha:hH args) (hl:args.length≤12):Good args.length (inS args) 0:=by
 refine ⟨by simp [inS],ha,fun i c hc=>?_,fun g hg=>(by cases hg),by simpa [inS] using hl,Nat.le_refl _⟩
 obtain ⟨h1,h2⟩:=List.getElem?_eq_some_iff.1 hc
 simp [inS] at h1 h2
 subst h2
 exact .inl ⟨rfl,rfl,rfl,by simp only;omega,by simp only;omega⟩
theorem aIR (args:List Int):∀ x∈zY args,kB (inS args) x:=fun x hx=>by
 obtain ⟨i,hi,rfl⟩:=List.mem_map.1 hx
 have:=List.mem_range.1 hi
 exact ⟨by omega,by simp [inS];omega⟩
theorem a5B (args:List Int):sv (inS args) (zY args) = args.map fun n=>[n]:=by
 apply List.ext_getElem
 ·simp [sv,zY]
 ·intro i h1 h2
  simp [sv,zY,inS,bY.val]
  simp at h2
  rw [List.getElem?_eq_getElem h2];rfl
def rP (p:aE) (f:Int) (args:List Int):Out (List Int × bY):=jF (fun t e S=>cM p 3001 t e (zY args) S) (p.outs f) 0 (inS args)
theorem aIS {p:aE} (hp:p.ok) (f:Int) (hf:0≤f∧f < p.aJ.length) (args:List Int) (ha:hH args) (hl:∀ F,p.aJ[f.toNat]? = some F→(args.length:Int) = F.a9) :
  qS (vP args.length (inS args) 0 (p.outs f).length) (rP p f args)∧k7 sRL (rP p f args) (evF p 1 f (args.map fun n=>[n])):=by
 obtain ⟨F,ef,hF1,hF2,hF3,hF4⟩:=wH hp hf
 have hla:=hl F ef
 have hg:=y7 args ha (by omega)
 have hin:=aIR args
 have hel:(zY args).length = args.length:=by simp [zY]
 have zX:∀ x∈p.outs f,∀ u S'',Good args.length S'' u→(inS args).ext S''→lH (inS args) 0 S'' u→qS (aEM args.length S'' u) (cM p 3001 u x (zY args) S'')∧k7 sR1 (cM p 3001 u x (zY args) S'') (jD p 1 3001 u x (args.map fun n=>[n])):=fun x hx u S'' a b c=>by
  have hxo:x.ok p f (zY args).length:=by rw [hel,hla];exact hF4 x (by rw [← hF3];exact hx)
  refine ⟨lO hp _ u x _ S'' f hxo (by omega) a c.2.2.2 fun y hy=>(hin y hy).ext b,?_⟩
  have:=aL0 hp 3001 u x (zY args) S'' f hxo (by omega) a c.2.2.2 fun y hy=>(hin y hy).ext b
  rwa [aEQ hin b,a5B] at this
 exact ⟨jR _ _ _ hg (by omega) fun x hx u S'' a b c=>(zX x hx u S'' a b c).1,sD _ _ _ hg (by omega) zX⟩
def cA (p:aE) (inp:Int) (S:bY) (om og ov:Option Nat) (st:Nat) (c:Int):bH :=
 .row 8 [[.v (cY 3 aS.c p.aJ),.v (I inp),.v (mQ 4 S.code.length om),.v (mQ 2 S.guards.length og),.v .bO,.v (mQ 1 S.dU.length ov),.v (I st),.v (I c)]]
def aER (h:aA) (sz:Nat) (rows:List (List Cell)):Option Nat→Prop
 |none=>rows = []
 |some m=>rows≠[]∧h m = some (.row sz rows)
def rowsOf {α:Type} (c:α→List aC) (l:List α):List (List Cell):=(l.map c).map (List.map .v)
theorem dD {α:Type} (c:α→List aC) (l:List α):(rowsOf c l).length = l.length:=by simp [rowsOf]
theorem kP {α:Type} (c:α→List aC) (l:List α) (x:α):rowsOf c (l ++ [x]) = rowsOf c l ++ [(c x).map .v]:=by simp [rowsOf]
theorem fY {α:Type} {c:α→List aC} {l:List α}:rowsOf c l = [] ↔ l = []:=by simp [rowsOf]
structure qT (bx:bY→Option Nat→Option Nat→Option Nat→bH) (h0:aA) (nb:Nat) (S:bY) (om og ov:Option Nat) (h:aA):Prop where
 box:h nb = some (bx S om og ov)
 odd:∀ S om og ov,∃ sz cs,bx S om og ov = .row sz cs∧¬ sz = 1∧¬ sz = 2∧¬ sz = 4
 code:aER h 4 (rowsOf aY.c S.code) om
 gds:aER h 2 (rowsOf dT.c S.guards) og
 dU:aER h 1 (rowsOf (fun n=>[I n]) S.dU) ov
 fresh:∀ n,n = nb∨some n = om∨some n = og∨some n = ov→h0 n = none
 upto:∀ n,¬ n = nb→¬ some n = om→¬ some n = og→¬ some n = ov→h n = h0 n
def cC (bx:bY→Option Nat→Option Nat→Option Nat→bH) (h0:aA) (nb:Nat) (S:bY) (h:aA):Prop:=∃ om og ov,qT bx h0 nb S om og ov h
abbrev a2Q (h0:aA) (nb:Nat) (p:aE) (inp:Int) (S:bY) (st:Nat) (c:Int) (om og ov:Option Nat) (h:aA):Prop:=qT (fun S om og ov=>cA p inp S om og ov st c) h0 nb S om og ov h
abbrev g7 (h0:aA) (nb:Nat) (p:aE) (inp:Int) (S:bY) (st:Nat) (c:Int) (h:aA):Prop:=cC (fun S om og ov=>cA p inp S om og ov st c) h0 nb S h
theorem aES (p:aE) (inp:Int) (st:Nat) (c:Int):∀ S om og ov,∃ sz cs,cA p inp S om og ov st c = .row sz cs∧¬ sz = 1∧¬ sz = 2∧¬ sz = 4:=fun S om og ov=>⟨8,_,rfl,by decide,by decide,by decide⟩
theorem qT.kinds {h0 h:aA} {nb:Nat} {bx:bY→Option Nat→Option Nat→Option Nat→bH} {S:bY} {om og ov:Option Nat} (H:qT bx h0 nb S om og ov h) (n:Nat) :
  (n = nb→h n = some (bx S om og ov))∧(some n = om→h n = some (.row 4 (rowsOf aY.c S.code)))∧(some n = og→h n = some (.row 2 (rowsOf dT.c S.guards)))∧(some n = ov→h n = some (.row 1 (rowsOf (fun n=>[I n]) S.dU))) :=
 ⟨fun e=>e ▸ H.box,fun e=>by have:=H.code;rw [← e] at this;exact this.2,fun e=>by have:=H.gds;rw [← e] at this;exact this.2,fun e=>by have:=H.dU;rw [← e] at this;exact this.2⟩
theorem qT.apart {h0 h:aA} {nb:Nat} {bx:bY→Option Nat→Option Nat→Option Nat→bH} {S:bY} {om og ov:Option Nat} (H:qT bx h0 nb S om og ov h) (n:Nat) :
  (n = nb→¬ some n = om∧¬ some n = og∧¬ some n = ov)∧(some n = om→¬ some n = og∧¬ some n = ov)∧(some n = og→¬ some n = ov)∧(h n = none→¬ n = nb∧¬ some n = om∧¬ some n = og∧¬ some n = ov):=by
 obtain ⟨k1,k2,k3,k4⟩:=H.kinds n
 obtain ⟨sz,cs,hB,o1,o2,o4⟩:=H.odd S om og ov
 rw [hB] at k1
 refine ⟨fun e=>⟨fun q=>?_,fun q=>?_,fun q=>?_⟩,fun e=>⟨fun q=>?_,fun q=>?_⟩,fun e q=>?_,fun e=>⟨fun q=>?_,fun q=>?_,fun q=>?_,fun q=>?_⟩⟩
 ·have:=(k1 e).symm.trans (k2 q);simp at this;exact o4 this.1
 ·have:=(k1 e).symm.trans (k3 q);simp at this;exact o2 this.1
 ·have:=(k1 e).symm.trans (k4 q);simp at this;exact o1 this.1
 ·have:=(k2 e).symm.trans (k3 q);simp at this
 ·have:=(k2 e).symm.trans (k4 q);simp at this
 ·have:=(k3 e).symm.trans (k4 q);simp at this
 ·have:=(k1 q);rw [e] at this;cases this
 ·have:=(k2 q);rw [e] at this;cases this
 ·have:=(k3 q);rw [e] at this;cases this
 ·have:=(k4 q);rw [e] at this;cases this
theorem qT.put {h0 h F:aA} {nb:Nat} {bx:bY→Option Nat→Option Nat→Option Nat→bH} {S:bY} {om og ov:Option Nat} (H:qT bx h0 nb S om og ov h) (x:aY) (v:Int) {b b2:Nat} (hb:h b = none) (jG:h b2 = none) (hne:¬ b2 = b)
  (f1:F nb = some (bx (S.put x v) (some b) og (some b2))) (f2:F b = some (.row 4 (rowsOf aY.c (S.code ++ [x])))) (f3:F b2 = some (.row 1 (rowsOf (fun n=>[I n]) (S.dU ++ [v]))))
  (f4:∀ n,¬ n = nb→¬ n = b→¬ n = b2→¬ some n = om→¬ some n = ov→F n = h n):∃ g:aA,g.le F∧cC bx h0 nb (S.put x v) g:=by
 have a1:=(H.apart nb).1 rfl
 have a2:=(H.apart b).2.2.2 hb
 have a3:=(H.apart b2).2.2.2 jG
 have g1:∀ n,some n = om∨some n = ov→h0 n = none:=fun n hn=>H.fresh n (by rcases hn with hn | hn;exact .inr (.inl hn);exact .inr (.inr (.inr hn)))
 have g2:h0 b = none:=(H.upto b a2.1 a2.2.1 a2.2.2.1 a2.2.2.2).symm.trans hb
 have g3:h0 b2 = none:=(H.upto b2 a3.1 a3.2.1 a3.2.2.1 a3.2.2.2).symm.trans jG
 have get:∀ n,¬ some n = om→¬ some n = ov→(fun n=>if some n = om∨some n = ov then none else F n) n = F n:=fun n h1 h2=>if_neg (by rintro (q | q);exact h1 q;exact h2 q)
 refine ⟨fun n=>if some n = om∨some n = ov then none else F n,fun n=>?_,some b,og,some b2,⟨?_,H.odd,⟨by simp [rowsOf,bY.put],?_⟩,?_,⟨by simp [rowsOf,bY.put],?_⟩,fun n hn=>?_,fun n h1 h2 h3 h4=>?_⟩⟩
 ·by_cases e:some n = om∨some n = ov
  ·exact .inl (if_pos e)
  ·exact .inr (if_neg e)
 ·exact (get nb a1.1 a1.2.2).trans f1
 ·exact (get b a2.2.1 a2.2.2.2).trans f2
 ·have hg:=H.gds
  cases og with
  |none=>exact hg
  |some k =>
   have ak:=(H.apart k)
   have hk:=hg.2
   refine ⟨hg.1,(get k (fun q=>ak.2.1 q |>.1 rfl) (fun q=>ak.2.2.1 rfl q)).trans ?_⟩
   rw [f4 k (fun q=>(ak.1 q).2.1 rfl) (fun q=>by rw [q,hb] at hk;cases hk) (fun q=>by rw [q,jG] at hk;cases hk) (fun q=>ak.2.1 q |>.1 rfl) (fun q=>ak.2.2.1 rfl q)]
   exact hk
 ·exact (get b2 a3.2.1 a3.2.2.2).trans f3
 ·rcases hn with rfl | hn | hn | hn
  ·exact H.fresh _ (.inl rfl)
  ·obtain rfl:=Option.some.inj hn;exact g2
  ·exact H.fresh n (.inr (.inr (.inl hn)))
  ·obtain rfl:=Option.some.inj hn;exact g3
 ·have h2':¬ n = b:=fun q=>h2 (by rw [q])
  have h4':¬ n = b2:=fun q=>h4 (by rw [q])
  by_cases e:some n = om∨some n = ov
  ·exact (if_pos e).trans (g1 n e).symm
  ·have e1:¬ some n = om:=fun q=>e (.inl q)
   have e2:¬ some n = ov:=fun q=>e (.inr q)
   exact ((get n e1 e2).trans (f4 n h1 h2' h4' e1 e2)).trans (H.upto n h1 e1 h3 e2)
@[go_sem] def a2R:List Nat:=[4,15,22]
@[go_sem] def a2S:Marks:=fun id=>match id with | 1=>([6,9,13,16,20,23],(.op 0 (.op 1 (.op 2 (.op 3 (.op 4 (.op 5 (.op 7 (.op 8 (.op 10 (.op 11 (.op 12 (.op 14 (.op 15 (.op 6 (.op 13 (.op 9 (.op 16 (.op 17 (.op 18 (.op 19 (.op 20 (.op 21 (.op 22 (.op 23 .nil)))))))))))))))))))))))),[(13,9)]) | _=>([],.nil,[])
theorem aET {h0 h:aA} {nb:Nat} {p:aE} {inp:Int} {S:bY} {st:Nat} {c:Int} (H:g7 h0 nb p inp S st c h) (x:aY) (v:Int) (hl:S.code.length = S.dU.length) (hcap:S.dU.length≤1048576) :
  fE Tryz.prog 100 [.op nb 8 0 0,.agg x.c,I v] h fun r h'=>r = I S.dU.length∧g7 h0 nb p inp (S.put x v) st c h':=by
 obtain ⟨om,og,ov,H⟩:=H
 have hb:=H.box
 have hc:=H.code
 have hv:=H.dU
 unfold cA at hb
 rw [aY.aQ]
 cases om with
 |none =>
  have pC:S.code = []:=fY.1 hc
  cases ov with
  |some v =>
   have qQ:S.dU = []:=List.eq_nil_of_length_eq_zero (by rw [← hl,pC];rfl)
   exact absurd (by rw [qQ];rfl) hv.1
  |none =>
   have qQ:S.dU = []:=fY.1 hv
   refine iY 35 aQN a2R a2S mix Tryz.func100 rfl (by kernel_rfl) (by simp) ?_
   simp -dsimp -implicitDefEqProofs only [go_sem,↓reduceIte,Tryz.f100,hb,sA]
   refine ⟨by decide,by decide,by decide,by decide,by decide,fun m hm=>?_⟩
   have eI:¬ m = nb:=fun e=>by rw [e,hb] at hm;cases hm
   have dM:¬ nb = m:=Ne.symm eI
   have dY:(m = nb) = False:=eq_false eI
   have dZ:(nb = m) = False:=eq_false dM
   refine ⟨by rw [aF _ _ _ _ dM,hb];rfl,by decide,fun w ⟨hwm,hw⟩=>?_⟩
   have mE:¬ w = nb:=fun e=>by rw [e,hb] at hw;cases hw
   have tN:¬ nb = w:=Ne.symm mE
   have kT:(w = nb) = False:=eq_false mE
   have kU:(nb = w) = False:=eq_false tN
   have sE:¬ w = m:=hwm
   have y8:¬ m = w:=Ne.symm sE
   have rG:(w = m) = False:=eq_false sE
   have rH:(m = w) = False:=eq_false y8
   try simp -dsimp -implicitDefEqProofs only [go_sem,↓reduceIte,Tryz.f100,hb,dY,rH,dZ,kU,rG,kT,aF]
   obtain ⟨g,hg,hR⟩:=H.put x v hm hw sE (F:=a7 (a7 (a7 h m (.row 4 [x.c.map .v])) w (.row 1 [[.v (I v)]])) nb (cA p inp (S.put x v) (some m) og (some w) st c)) (aH _ _ _)
    (by rw [aF _ _ _ _ eI,aF _ _ _ _ y8,aH,pC];rfl) (by rw [aF _ _ _ _ mE,aH,qQ];rfl) (fun n h1 h2 h3 _ _=>by rw [aF _ _ _ _ h1,aF _ _ _ _ h3,aF _ _ _ _ h2])
   refine ⟨_,g,cG ?_,by rw [qQ];rfl,hR⟩
   rw [aO]
   unfold cA at hg
   simp only [bY.put,pC,qQ,cW,aY.aQ] at hg
   exact hg
 |some m =>
  cases ov with
  |none =>
   have qQ:S.dU = []:=fY.1 hv
   have pC:S.code = []:=List.eq_nil_of_length_eq_zero (by rw [hl,qQ];rfl)
   exact absurd (by rw [pC];rfl) hc.1
  |some w =>
   have hm:=hc.2
   have hw:=hv.2
   have eI:¬ m = nb:=fun e=>by rw [e,hb] at hm;cases hm
   have dM:¬ nb = m:=Ne.symm eI
   have dY:(m = nb) = False:=eq_false eI
   have dZ:(nb = m) = False:=eq_false dM
   have mE:¬ w = nb:=fun e=>by rw [e,hb] at hw;cases hw
   have tN:¬ nb = w:=Ne.symm mE
   have kT:(w = nb) = False:=eq_false mE
   have kU:(nb = w) = False:=eq_false tN
   have sE:¬ w = m:=fun e=>by rw [e,hm] at hw;cases hw
   have y8:¬ m = w:=Ne.symm sE
   have rG:(w = m) = False:=eq_false sE
   have rH:(m = w) = False:=eq_false y8
   refine iY 35 aQN a2R a2S mix Tryz.func100 rfl (by kernel_rfl) (by simp) ?_
   simp -dsimp -implicitDefEqProofs only [go_sem,↓reduceIte,Tryz.f100,hb,cW,hm,hw,dY,rH,dZ,kU,rG,kT,aF]
   refine ⟨by decide,by decide,by decide,by decide,by decide,by rw [dD];exact Nat.le_refl _,by omega,by omega,fun b jP=>?_⟩
   have bV:¬ b = nb:=fun e=>by rw [e,hb] at jP;cases jP
   have dS:¬ nb = b:=Ne.symm bV
   have cT:(b = nb) = False:=eq_false bV
   have cU:(nb = b) = False:=eq_false dS
   have gU:¬ b = m:=fun e=>by rw [e,hm] at jP;cases jP
   have j5:¬ m = b:=Ne.symm gU
   have k5:(b = m) = False:=eq_false gU
   have k6:(m = b) = False:=eq_false j5
   have aEU:¬ b = w:=fun e=>by rw [e,hw] at jP;cases jP
   have aV6:¬ w = b:=Ne.symm aEU
   have aEV:(b = w) = False:=eq_false aEU
   have aEW:(w = b) = False:=eq_false aV6
   refine ⟨by rw [aF _ _ _ _ dS,aF _ _ _ _ dM,hb];rfl,by decide,?_⟩
   try simp -dsimp -implicitDefEqProofs only [go_sem,↓reduceIte,Tryz.f100,hb,hw,dY,rH,k6,dZ,kU,cU,rG,kT,aEW,k5,cT,aEV,aF]
   refine ⟨by rw [dD];exact Nat.le_refl _,by omega,by omega,fun b2 ⟨a5C,a5D,jG⟩=>?_⟩
   have tO:¬ b2 = nb:=fun e=>by rw [e,hb] at jG;cases jG
   have aIT:¬ nb = b2:=Ne.symm tO
   have aCO:(b2 = nb) = False:=eq_false tO
   have aCP:(nb = b2) = False:=eq_false aIT
   have aEX:¬ b2 = m:=a5D
   have aOJ:¬ m = b2:=Ne.symm aEX
   have aIU:(b2 = m) = False:=eq_false aEX
   have aIV:(m = b2) = False:=eq_false aOJ
   have aEY:¬ b2 = w:=fun e=>by rw [e,hw] at jG;cases jG
   have aOK:¬ w = b2:=Ne.symm aEY
   have aIW:(b2 = w) = False:=eq_false aEY
   have aIX:(w = b2) = False:=eq_false aOK
   have xQ:¬ b2 = b:=a5C
   have aEZ:¬ b = b2:=Ne.symm xQ
   have aIY:(b2 = b) = False:=eq_false xQ
   have aIZ:(b = b2) = False:=eq_false aEZ
   simp -dsimp -implicitDefEqProofs only [go_sem,↓reduceIte,Tryz.f100,hb,hw,dY,rH,k6,aIV,dZ,kU,cU,aCP,rG,kT,aEW,aIX,k5,cT,aEV,aIZ,aIU,aCO,aIW,aIY,aF]
   rw [List.take_of_length_le (by rw [dD];exact Nat.le_refl _),List.take_of_length_le (by rw [dD];exact Nat.le_refl _)]
   obtain ⟨g,hg,hR⟩:=H.put x v jP jG xQ (F:=a7 (a7 (a7 (a7 (a7 h m .gone) b (.row 4 (rowsOf aY.c S.code ++ [x.c.map .v]))) w .gone) b2 (.row 1 (rowsOf (fun n=>[I n]) S.dU ++ [[.v (I v)]]))) nb (cA p inp (S.put x v) (some b) og (some b2) st c)) (aH _ _ _)
    (by rw [aF _ _ _ _ bV,aF _ _ _ _ aEZ,aF _ _ _ _ aEU,aH,kP]) (by rw [aF _ _ _ _ tO,aH,kP];rfl)
    (fun n h1 h2 h3 h4 h5=>by rw [aF _ _ _ _ h1,aF _ _ _ _ h3,aF _ _ _ _ (fun q=>h5 (by rw [q])),aF _ _ _ _ h2,aF _ _ _ _ (fun q=>h4 (by rw [q]))])
   refine fun _=>⟨_,g,cG ?_,?_,hR⟩
   ·rw [aO]
    unfold cA at hg
    simp only [bY.put,cW,aY.aQ,List.length_append,List.length_singleton] at hg
    exact hg
   ·rw [IntWalk.i64_in _ (by omega)]
    congr 1
    omega
theorem qT.set {h0 h:aA} {nb:Nat} {p:aE} {inp:Int} {S:bY} {st:Nat} {c:Int} {om og ov:Option Nat} (H:a2Q h0 nb p inp S st c om og ov h) (st':Nat) (c':Int):a2Q h0 nb p inp S st' c' om og ov (a7 h nb (cA p inp S om og ov st' c')):=by
 have a1:=(H.apart nb).1 rfl
 have hr:∀ (o:Option Nat) (sz:Nat) (rows:List (List Cell)),¬ some nb = o→aER h sz rows o→aER (a7 h nb (cA p inp S om og ov st' c')) sz rows o:=fun o sz rows hn ho=>by
  cases o with
  |none=>exact ho
  |some m=>exact ⟨ho.1,(aF _ _ _ _ fun q=>hn (by rw [q])).trans ho.2⟩
 exact ⟨aH _ _ _,aES _ _ _ _,hr _ _ _ a1.1 H.code,hr _ _ _ a1.2.1 H.gds,hr _ _ _ a1.2.2 H.dU,H.fresh,fun n h1 h2 h3 h4=>(aF _ _ _ _ h1).trans (H.upto n h1 h2 h3 h4)⟩
theorem cC.uM {h0 h:aA} {nb:Nat} {bx:bY→Option Nat→Option Nat→Option Nat→bH} {S:bY} (H:cC bx h0 nb S h) {m:Nat} {o:bH} (hm:h m = none):cC bx (a7 h0 m o) nb S (a7 h m o):=by
 obtain ⟨om,og,ov,H⟩:=H
 have a:=(H.apart m).2.2.2 hm
 have hr:∀ (q:Option Nat) (sz:Nat) (rows:List (List Cell)),¬ some m = q→aER h sz rows q→aER (a7 h m o) sz rows q:=fun q sz rows hn ho=>by
  cases q with
  |none=>exact ho
  |some k=>exact ⟨ho.1,(aF _ _ _ _ fun e=>hn (by rw [e])).trans ho.2⟩
 refine ⟨om,og,ov,(aF _ _ _ _ fun e=>a.1 e.symm).trans H.box,H.odd,hr _ _ _ a.2.1 H.code,hr _ _ _ a.2.2.1 H.gds,hr _ _ _ a.2.2.2 H.dU,fun n hn=>?_,fun n h1 h2 h3 h4=>?_⟩
 ·have hnm:¬ n = m:=fun e=>by
   subst e
   rcases hn with hn | hn | hn | hn
   ·exact a.1 hn
   ·exact a.2.1 hn
   ·exact a.2.2.1 hn
   ·exact a.2.2.2 hn
  exact (aF _ _ _ _ hnm).trans (H.fresh n hn)
 ·by_cases e:n = m
  ·rw [e,aH,aH]
  ·rw [aF _ _ _ _ e,aF _ _ _ _ e];exact H.upto n h1 h2 h3 h4
theorem cC.base {h0 h:aA} {nb:Nat} {bx:bY→Option Nat→Option Nat→Option Nat→bH} {S:bY} {m:Nat} {o:bH} (H:cC bx (a7 h0 m o) nb S h) (hm:h0 m = none):∃ g,h = a7 g m o∧g m = none∧cC bx h0 nb S g:=by
 obtain ⟨om,og,ov,H⟩:=H
 have hne:∀ n,(n = nb∨some n = om∨some n = og∨some n = ov)→¬ n = m:=fun n hn e=>by
  have:=H.fresh n hn
  rw [e,aH] at this;cases this
 have hmo:h m = some o:=(H.upto m (fun e=>hne m (.inl e) rfl) (fun e=>hne m (.inr (.inl e)) rfl) (fun e=>hne m (.inr (.inr (.inl e))) rfl) (fun e=>hne m (.inr (.inr (.inr e))) rfl)).trans (aH _ _ _)
 have get:∀ n,¬ n = m→(fun n=>if n = m then none else h n) n = h n:=fun n hn=>if_neg hn
 have hr:∀ (q:Option Nat) (sz:Nat) (rows:List (List Cell)),(∀ n,some n = q→¬ n = m)→aER h sz rows q→aER (fun n=>if n = m then none else h n) sz rows q:=fun q sz rows hn ho=>by
  cases q with
  |none=>exact ho
  |some k=>exact ⟨ho.1,(get k (hn k rfl)).trans ho.2⟩
 refine ⟨fun n=>if n = m then none else h n,?_,if_pos rfl,om,og,ov,(get nb (hne nb (.inl rfl))).trans H.box,H.odd,hr _ _ _ (fun n e=>hne n (.inr (.inl e))) H.code,hr _ _ _ (fun n e=>hne n (.inr (.inr (.inl e)))) H.gds,hr _ _ _ (fun n e=>hne n (.inr (.inr (.inr e)))) H.dU,fun n hn=>?_,fun n h1 h2 h3 h4=>?_⟩
 ·funext n
  by_cases e:n = m
  ·rw [e,aH,hmo]
  ·rw [aF _ _ _ _ e];exact (get n e).symm
 ·have:=H.fresh n hn
  rwa [aF _ _ _ _ (hne n hn)] at this
 ·by_cases e:n = m
  ·subst e;exact (if_pos rfl).trans hm.symm
  ·have:=H.upto n h1 h2 h3 h4
   rw [aF _ _ _ _ e] at this
   exact (get n e).trans this
theorem cC.none {h0 h:aA} {nb:Nat} {bx:bY→Option Nat→Option Nat→Option Nat→bH} {S:bY} (H:cC bx h0 nb S h) {m:Nat} (hm:h m = none):h0 m = none:=by
 obtain ⟨om,og,ov,H⟩:=H
 have a:=(H.apart m).2.2.2 hm
 exact (H.upto m a.1 a.2.1 a.2.2.1 a.2.2.2).symm.trans hm
theorem qT.guard {h0 h F:aA} {nb:Nat} {bx:bY→Option Nat→Option Nat→Option Nat→bH} {S:bY} {om og ov:Option Nat} (H:qT bx h0 nb S om og ov h) (x:dT) {b:Nat} (hb:h b = none)
  (f1:F nb = some (bx (S.guard x) om (some b) ov)) (f2:F b = some (.row 2 (rowsOf dT.c (S.guards ++ [x]))))
  (f4:∀ n,¬ n = nb→¬ n = b→¬ some n = og→F n = h n):∃ g:aA,g.le F∧qT bx h0 nb (S.guard x) om (some b) ov g:=by
 have a1:=(H.apart nb).1 rfl
 have a2:=(H.apart b).2.2.2 hb
 have g2:h0 b = none:=(H.upto b a2.1 a2.2.1 a2.2.2.1 a2.2.2.2).symm.trans hb
 have get:∀ n,¬ some n = og→(fun n=>if some n = og then none else F n) n = F n:=fun n h1=>if_neg h1
 have hr:∀ (q:Option Nat) (sz:Nat) (rows:List (List Cell)),(∀ n,some n = q→¬ n = nb∧¬ n = b∧¬ some n = og)→aER h sz rows q→aER (fun n=>if some n = og then none else F n) sz rows q:=fun q sz rows hn ho=>by
  cases q with
  |none=>exact ho
  |some k =>
   obtain ⟨e1,e2,e3⟩:=hn k rfl
   exact ⟨ho.1,((get k e3).trans (f4 k e1 e2 e3)).trans ho.2⟩
 refine ⟨fun n=>if some n = og then none else F n,fun n=>?_,⟨?_,H.odd,hr _ _ _ (fun n e=>⟨fun q=>((H.apart n).1 q).1 e,fun q=>a2.2.1 (by rw [← q];exact e),((H.apart n).2.1 e).1⟩) H.code,⟨by simp [rowsOf,bY.guard],?_⟩,hr _ _ _ (fun n e=>⟨fun q=>((H.apart n).1 q).2.2 e,fun q=>a2.2.2.2 (by rw [← q];exact e),fun q=>(H.apart n).2.2.1 q e⟩) H.dU,fun n hn=>?_,fun n h1 h2 h3 h4=>?_⟩⟩
 ·by_cases e:some n = og
  ·exact .inl (if_pos e)
  ·exact .inr (if_neg e)
 ·exact (get nb a1.2.1).trans f1
 ·exact (get b a2.2.2.1).trans f2
 ·rcases hn with rfl | hn | hn | hn
  ·exact H.fresh _ (.inl rfl)
  ·exact H.fresh n (.inr (.inl hn))
  ·obtain rfl:=Option.some.inj hn;exact g2
  ·exact H.fresh n (.inr (.inr (.inr hn)))
 ·have h3':¬ n = b:=fun q=>h3 (by rw [q])
  by_cases e:some n = og
  ·exact (if_pos e).trans (H.fresh n (.inr (.inr (.inl e)))).symm
  ·exact ((get n e).trans (f4 n h1 h3' e)).trans (H.upto n h1 h2 e h4)
theorem vQ (a b:Int) (ha:fP a) (hb:fP b):dI Tryz.prog 230 [I a,I b] (I (a * b % 1000003)):=by
 have h1:=num_mul ha hb
 unfold fP at ha hb
 refine dJ 11 aBZ bM bC mix Tryz.func230 rfl (by kernel_rfl) (by simp) fun h=>?_
 simp -dsimp -implicitDefEqProofs only [go_sem,↓reduceIte,Tryz.f230]
 first | refine aG.mk (gE a) ?_ | refine aD.mk (gE a) ?_ | refine aG.a5 (gE a) ?_ | refine aD.mk (aX.cD (gE a)) ?_
 simp -dsimp -implicitDefEqProofs only [go_sem,↓reduceIte,Tryz.f230]
 first | refine aG.mk (gE b) ?_ | refine aD.mk (gE b) ?_ | refine aG.a5 (gE b) ?_ | refine aD.mk (aX.cD (gE b)) ?_
 simp -dsimp -implicitDefEqProofs only [go_sem,↓reduceIte,Tryz.f230]
 rw [Int.emod_eq_of_lt ha.1 (by omega),Int.emod_eq_of_lt hb.1 (by omega),aOF h1.1 (by omega)]
@[go_sem] def aZV:List Nat:=[0,1,2,3,6,7,9,10,15,20,25,30]
theorem aV7 (x:aY) (a b:Int) (ha:fP a) (hb:fP b) (hk:x.fX = 3∨x.fX = 4∨x.fX = 5∨x.fX = 6∨x.fX = 7):dI Tryz.prog 223 [.agg x.c,I a,I b] (.gW [I ((opV x.fX a b).getD 0),.bool (opV x.fX a b).isSome]):=by
 rw [aY.aQ]
 have hni:fP (gG b):=num_inv b
 refine dJ 35 aZV aD7 bC mix Tryz.func223 rfl (by kernel_rfl) (by simp) fun h=>?_
 simp -dsimp -implicitDefEqProofs only [go_sem,↓reduceIte,Tryz.f223]
 refine ⟨fun q=>?_,fun q=>⟨fun q4=>?_,fun q4=>⟨fun q5=>?_,fun q5=>⟨fun q7=>?_,fun q7=>⟨fun qb=>?_,fun qb=>?_⟩⟩⟩⟩⟩
 ·first | refine aG.mk (aIN a b) ?_ | refine aD.mk (aIN a b) ?_ | refine aG.a5 (aIN a b) ?_ | refine aD.mk (aX.cD (aIN a b)) ?_
  simp -dsimp -implicitDefEqProofs only [go_sem,↓reduceIte,Tryz.f223]
  unfold opV;rw [if_pos q];rfl
 ·first | refine aG.mk (minus a b) ?_ | refine aD.mk (minus a b) ?_ | refine aG.a5 (minus a b) ?_ | refine aD.mk (aX.cD (minus a b)) ?_
  simp -dsimp -implicitDefEqProofs only [go_sem,↓reduceIte,Tryz.f223]
  unfold opV;rw [if_neg q,if_pos q4];rfl
 ·first | refine aG.mk (vQ a b ha hb) ?_ | refine aD.mk (vQ a b ha hb) ?_ | refine aG.a5 (vQ a b ha hb) ?_ | refine aD.mk (aX.cD (vQ a b ha hb)) ?_
  simp -dsimp -implicitDefEqProofs only [go_sem,↓reduceIte,Tryz.f223]
  unfold opV;rw [if_neg q,if_neg q4,if_pos q5];rfl
 ·first | refine aG.mk (minus 0 a) ?_ | refine aD.mk (minus 0 a) ?_ | refine aG.a5 (minus 0 a) ?_ | refine aD.mk (aX.cD (minus 0 a)) ?_
  simp -dsimp -implicitDefEqProofs only [go_sem,↓reduceIte,Tryz.f223]
  unfold opV;rw [if_neg q,if_neg q4,if_neg q5,if_pos q7];rfl
 ·unfold opV;rw [if_neg q,if_neg q4,if_neg q5,if_neg q7,if_pos qb];rfl
 ·first | refine aG.mk (rF b) ?_ | refine aD.mk (rF b) ?_ | refine aG.a5 (rF b) ?_ | refine aD.mk (aX.cD (rF b)) ?_
  simp -dsimp -implicitDefEqProofs only [go_sem,↓reduceIte,Tryz.f223]
  first | refine aG.mk (vQ a (gG b) ha hni) ?_ | refine aD.mk (vQ a (gG b) ha hni) ?_ | refine aG.a5 (vQ a (gG b) ha hni) ?_ | refine aD.mk (aX.cD (vQ a (gG b) ha hni)) ?_
  simp -dsimp -implicitDefEqProofs only [go_sem,↓reduceIte,Tryz.f223]
  unfold opV;rw [if_neg q,if_neg q4,if_neg q5,if_neg q7,if_neg qb];rfl
theorem Good.val {inp:Int} {S:bY} {t:Nat} (h:Good inp S t) (k:Int):fP (S.val k):=h.aZR.get _
theorem qT.row {h0 h:aA} {nb:Nat} {bx:bY→Option Nat→Option Nat→Option Nat→bH} {S:bY} {om og ov:Option Nat} (H:qT bx h0 nb S om og ov h) {k:Int} (hk:kB S k):∃ w,ov = some w∧h w = some (.row 1 (rowsOf (fun n=>[I n]) S.dU))∧¬ w = nb:=by
 have hv:=H.dU
 cases ov with
 |none=>have:=fY.1 hv;have h2:=hk.1;have h3:=hk.2;rw [this] at h3;simp at h3;omega
 |some w=>exact ⟨w,rfl,hv.2,fun e=>((H.apart w).1 e).2.2 rfl⟩
theorem gY {S:bY} {k:Int} (hk:kB S k):(rowsOf (fun n=>[I n]) S.dU)[k.toNat]? = some [.v (I (S.val k))]:=by
 have h1:=hk.1
 have h2:=hk.2
 rw [rowsOf,List.getElem?_map,List.getElem?_map,List.getElem?_eq_getElem (by omega),bY.val,List.getD_eq_getElem?_getD,List.getElem?_eq_getElem (by omega)];rfl
@[go_sem] def aZW:List Nat:=[0,1,2,6,7,8,9,16,43]
@[go_sem] def bAZ:Marks:=fun id=>match id with | 4=>([0,4,6,8,12,14,16],(.op 1 (.op 2 (.op 3 (.op 5 (.op 9 (.op 10 (.op 11 (.op 13 (.op 0 (.op 4 (.op 6 (.op 7 (.op 8 (.op 12 (.op 14 (.op 15 (.op 16 (.op 17 (.op 18 (.op 19 (.op 20 (.op 21 (.op 22 .nil))))))))))))))))))))))),[]) | _=>([],.nil,[])
theorem nP {h0 h:aA} {nb:Nat} {p:aE} {inp:Int} {S:bY} {st:Nat} (H:g7 h0 nb p inp S st 0 h) (hg:Good inp S st) (hst:st≤3000) (k:Int) (vs:List Int) (hk:k = 3∨k = 4∨k = 5∨k = 6∨k = 7) (h1:1≤vs.length) (h2:¬ k = 7→2≤vs.length) (hv:∀ x∈vs,kB S x) (hl:vs.length≤1048576) :
  fE Tryz.prog 204 [.op nb 8 0 0,I k,ints vs] h fun r h'=>∃ j S' c',r = I j∧g7 h0 nb p inp S' st c' h'∧j9 (xO k vs S st) (j,S') st c':=by
 obtain ⟨om,og,ov,H⟩:=H
 have at_:∀ i,i < vs.length→kB S (vs.getD i 0):=fun i hi=>by
  rw [List.getD_eq_getElem?_getD,List.getElem?_eq_getElem hi]
  exact hv _ (List.getElem_mem _)
 have i0:=at_ 0 (by omega)
 have iB:kB S (opB k vs):=by
  unfold opB
  split
  ·have a:=i0.1;have b:=i0.2;exact ⟨Int.le_refl _,by omega⟩
  ·exact at_ 1 (h2 (by assumption))
 obtain ⟨w,rfl,hw,dw⟩:=H.row i0
 have hb:=H.box
 unfold cA at hb
 rw [cW] at hb
 have g0:vs[Int.toNat 0]? = some (vs.getD 0 0):=b9 (by omega)
 have r0:=gY i0
 have rB:=gY iB
 have mE:¬ w = nb:=dw
 have tN:¬ nb = w:=Ne.symm mE
 have kT:(w = nb) = False:=eq_false mE
 have kU:(nb = w) = False:=eq_false tN
 have hva:=hg.val (vs.getD 0 0)
 have hvb:=hg.val (opB k vs)
 have hop:=aV7 ⟨k,vs.getD 0 0,opB k vs,0⟩ _ _ hva hvb hk
 simp only [aY.aQ] at hop
 have b0:=iB.1
 have b1:=i0.1
 have lw:=dD (fun n=>[I n]) S.dU
 have i0b:=i0.2
 have iBb:=iB.2
 refine iY 51 aZW bM bAZ mix Tryz.func204 rfl (by kernel_rfl) (by simp) ?_
 simp -dsimp -implicitDefEqProofs only [go_sem,↓reduceIte,Tryz.f204,hb,g0]
 refine ⟨by omega,fun n hn=>⟨fun h7=>⟨by have:=h2 h7;omega,?_⟩,fun h7=>?_⟩⟩
 ·have lZ:¬ n = nb:=fun e=>by rw [e,hb] at hn;cases hn
  have l4:¬ nb = n:=Ne.symm lZ
  have iL:(n = nb) = False:=eq_false lZ
  have iM:(nb = n) = False:=eq_false l4
  have aL1:¬ n = w:=fun e=>by rw [e,hw] at hn;cases hn
  have aV8:¬ w = n:=Ne.symm aL1
  have aL2:(n = w) = False:=eq_false aL1
  have aL3:(w = n) = False:=eq_false aV8
  have eB:opB k vs = vs.getD 1 0:=if_neg h7
  have g1:vs[Int.toNat 1]? = some (vs.getD 1 0):=b9 (h2 h7)
  rw [eB] at rB hop b0 iBb
  simp -dsimp -implicitDefEqProofs only [go_sem,↓reduceIte,Tryz.f204,g1,hb,hw,r0,rB,iL,aL2,iM,kU,aL3,kT,aF]
  refine ⟨b1,i0b,b0,iBb,?_⟩
  cases hv:opV k (S.val (vs.getD 0 0)) (S.val ((vs.getD 1 0))) with
  |none =>
   rw [hv] at hop
   first | refine aG.mk (hop) ?_ | refine aD.mk (hop) ?_ | refine aG.a5 (hop) ?_ | refine aD.mk (aX.cD (hop)) ?_
   simp -dsimp -implicitDefEqProofs only [go_sem,↓reduceIte,Tryz.f204]
   refine ⟨fun _=>?_,fun q=>absurd q (by simp)⟩
   simp -dsimp -implicitDefEqProofs only [go_sem,↓reduceIte,Tryz.f204,hb,iL,aL2,iM,kU,aL3,kT,aF]
   refine ⟨_,_,cG (?_:(a7 h nb (cA p inp S om og (some w) st 6)).le _),0,S,6,rfl,⟨_,_,_,H.set st 6⟩,by unfold xO;rw [eB,hv];exact gT _ _ (by decide)⟩
   unfold cA
   rw [cW]
   exact (lL (by repeat' (first | exact jN _ _ | refine lM (by simp only [dX,↓reduceIte,eq_self,if_true,iL,iM]) ?_ | refine iG (by first | exact .inr (by assumption) | exact .inl (by simp)) ?_)))
  |some v =>
   rw [hv] at hop
   first | refine aG.mk (hop) ?_ | refine aD.mk (hop) ?_ | refine aG.a5 (hop) ?_ | refine aD.mk (aX.cD (hop)) ?_
   simp -dsimp -implicitDefEqProofs only [go_sem,↓reduceIte,Tryz.f204]
   refine ⟨fun q=>absurd q (by simp),fun _=>?_⟩
   simp only [aO]
   refine aG.gQ (aET (cC.uM ⟨om,og,some w,H⟩ hn) ⟨k,vs.getD 0 0,(vs.getD 1 0),0⟩ v hg.len (by have:=hg.cap;omega)) ?_
   rintro r h' ⟨rfl,hR⟩
   obtain ⟨g,rfl,hgn,hR⟩:=hR.base (cC.none ⟨om,og,some w,H⟩ hn)
   simp -dsimp -implicitDefEqProofs only [go_sem,↓reduceIte,Tryz.f204]
   exact ⟨_,g,cG (aA.bI hgn (aA.le_refl _)),_,_,0,rfl,hR,by unfold xO;rw [eB,hv];exact pK _ _⟩
 ·have lZ:¬ n = nb:=fun e=>by rw [e,hb] at hn;cases hn
  have l4:¬ nb = n:=Ne.symm lZ
  have iL:(n = nb) = False:=eq_false lZ
  have iM:(nb = n) = False:=eq_false l4
  have aL1:¬ n = w:=fun e=>by rw [e,hw] at hn;cases hn
  have aV8:¬ w = n:=Ne.symm aL1
  have aL2:(n = w) = False:=eq_false aL1
  have aL3:(w = n) = False:=eq_false aV8
  have eB:opB k vs = 0:=if_pos h7
  rw [eB] at rB hop b0 iBb
  simp -dsimp -implicitDefEqProofs only [go_sem,↓reduceIte,Tryz.f204,hb,hw,r0,rB,iL,aL2,iM,kU,aL3,kT,aF]
  refine ⟨b1,i0b,iBb,?_⟩
  cases hv:opV k (S.val (vs.getD 0 0)) (S.val (0)) with
  |none =>
   rw [hv] at hop
   first | refine aG.mk (hop) ?_ | refine aD.mk (hop) ?_ | refine aG.a5 (hop) ?_ | refine aD.mk (aX.cD (hop)) ?_
   simp -dsimp -implicitDefEqProofs only [go_sem,↓reduceIte,Tryz.f204]
   refine ⟨fun _=>?_,fun q=>absurd q (by simp)⟩
   simp -dsimp -implicitDefEqProofs only [go_sem,↓reduceIte,Tryz.f204,hb,iL,aL2,iM,kU,aL3,kT,aF]
   refine ⟨_,_,cG (?_:(a7 h nb (cA p inp S om og (some w) st 6)).le _),0,S,6,rfl,⟨_,_,_,H.set st 6⟩,by unfold xO;rw [eB,hv];exact gT _ _ (by decide)⟩
   unfold cA
   rw [cW]
   exact (lL (by repeat' (first | exact jN _ _ | refine lM (by simp only [dX,↓reduceIte,eq_self,if_true,iL,iM]) ?_ | refine iG (by first | exact .inr (by assumption) | exact .inl (by simp)) ?_)))
  |some v =>
   rw [hv] at hop
   first | refine aG.mk (hop) ?_ | refine aD.mk (hop) ?_ | refine aG.a5 (hop) ?_ | refine aD.mk (aX.cD (hop)) ?_
   simp -dsimp -implicitDefEqProofs only [go_sem,↓reduceIte,Tryz.f204]
   refine ⟨fun q=>absurd q (by simp),fun _=>?_⟩
   simp only [aO]
   refine aG.gQ (aET (cC.uM ⟨om,og,some w,H⟩ hn) ⟨k,vs.getD 0 0,0,0⟩ v hg.len (by have:=hg.cap;omega)) ?_
   rintro r h' ⟨rfl,hR⟩
   obtain ⟨g,rfl,hgn,hR⟩:=hR.base (cC.none ⟨om,og,some w,H⟩ hn)
   simp -dsimp -implicitDefEqProofs only [go_sem,↓reduceIte,Tryz.f204]
   exact ⟨_,g,cG (aA.bI hgn (aA.le_refl _)),_,_,0,rfl,hR,by unfold xO;rw [eB,hv];exact pK _ _⟩
end Go.Hl

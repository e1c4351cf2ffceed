/-
  Contracts of functions and laws of the layer over the walk.
-/
import Derived.Test.YtoomflalicffnaaGreatVvC
import Derived.Test.YtoomflalicffnaaGreatVvB
import Derived.Test.YtoomflalicffnaaGreatHlD
import Derived.Test.YtoomflalicffnaaGreatVvA
import Derived.Lib.ItoaNum
namespace Go.Hl
set_option maxRecDepth 100000
open Go.Proofs
set_option linter.unusedVariables false
set_option linter.unusedSimpArgs false
theorem j9.ok {α:Type} {c:Int} {X:Out α} {v:α} {t:Nat} {c':Int} (h:j9 (oE c X) v t c') (hc:c' = 0):c = 0∧X = .ok (v,t):=by
 have h0:=h.bAQ hc
 subst h0
 rw [eK] at h
 cases X with
 |ok q=>obtain ⟨w,u⟩:=q;obtain ⟨_,rfl,rfl⟩:=h;exact ⟨rfl,rfl⟩
 |error d=>exact absurd (h.1.symm.trans hc) h.2
def aAW (h0:aA) (nb:Nat) (p:aE) (inp:Int) (st:Nat) (c:Int) (X:Out (Int × bY)):aC→aA→Prop:=fun r h'=>∃ k S' t c',r = I k∧g7 h0 nb p inp S' t c' h'∧st≤t∧t≤3000∧j9 (oE c X) (k,S') t c'
def a2T (h0:aA) (nb:Nat) (p:aE) (inp:Int) (st:Nat) (c:Int) (n:Nat) (X:Out (List Int × bY)):aC→aA→Prop:=fun r h'=>∃ l S' t c',r = ints l∧g7 h0 nb p inp S' t c' h'∧l.length = n∧st≤t∧t≤3000∧j9 (oE c X) (l,S') t c'
@[go_sem] def l7:List Nat:=[0,1,2,4,6,7,8,9,10,15,20,32,33,42,49,62,85,100,128,130,131,150,162]
@[go_sem] def sG:List Nat:=[4,80,116]
@[go_sem] def sH:Marks:=fun id=>match id with | 22=>([6,13,15,16],(.op 0 (.op 1 (.op 2 (.op 3 (.op 4 (.op 5 (.op 7 (.op 8 (.op 9 (.op 10 (.op 11 (.op 12 (.op 6 (.op 13 (.op 14 (.op 15 (.op 16 (.op 17 .nil)))))))))))))))))),[]) | 28=>([5,16],(.op 0 (.op 1 (.op 2 (.op 3 (.op 4 (.op 6 (.op 7 (.op 11 (.op 12 (.op 15 (.op 5 (.op 8 (.op 9 (.op 10 (.op 13 (.op 14 (.op 16 (.op 17 .nil)))))))))))))))))),[]) | 33=>([5,12],(.op 0 (.op 1 (.op 2 (.op 3 (.op 4 (.op 6 (.op 7 (.op 11 (.op 5 (.op 8 (.op 9 (.op 10 (.op 12 (.op 13 .nil)))))))))))))),[]) | _=>([],.nil,[])
def sI (p:aE) (inp:Int) (n:Nat):Prop:=∀ (h0 h:aA) (nb st:Nat) (c:Int) (e:aB) (env:List Int) (S:bY) (funcs:Int),g7 h0 nb p inp S st c h→st≤3000→3001≤n + st→e.ok p funcs env.length→0≤funcs→funcs≤p.aJ.length→(c = 0→Good inp S st∧∀ x∈env,kB S x)→env.length≤412 + st →
 fE Tryz.prog 173 [.op nb 8 0 0,.agg e.c,ints env] h (aAW h0 nb p inp st c (cM p n st e env S))
theorem fV {p:aE} (hp:p.ok) {inp:Int} {n st:Nat} {S:bY} {l:List aB} {env:List Int} {funcs:Int} (hg:Good inp S st) (hst:st≤3000) (henv:∀ x∈env,kB S x) (hok:∀ e∈l,e.ok p funcs env.length) (hf:funcs≤p.aJ.length):qS (vP inp S st l.length) (jF (fun t e S=>cM p n t e env S) l st S) :=
 jR l st S hg hst fun x hx u S' a b c=>lO hp n u x env S' funcs (hok x hx) hf a c.2.2.2 fun y hy=>(henv y hy).ext b
@[go_sem] def aRI:List Nat:=[0,1,2,6,7,9,11,12,13,14]
theorem pL {p:aE} (hp:p.ok) {inp:Int} {n:Nat} (hv:sI p inp n) (h0 h:aA) (nb st:Nat) (c:Int) (l:List aB) (env:List Int) (S:bY) (funcs:Int) (hb:g7 h0 nb p inp S st c h) (hst:st≤3000) (hn:3001≤n + st)
  (hl:l.length≤1048576) (hok:∀ e∈l,e.ok p funcs env.length) (eM:0≤funcs) (hf:funcs≤p.aJ.length) (hgo:c = 0→Good inp S st∧∀ x∈env,kB S x) (hel:env.length≤412 + st) :
  fE Tryz.prog 101 [.op nb 8 0 0,cY 5 aB.c l,ints env] h (a2T h0 nb p inp st c l.length (jF (fun t e S=>cM p n t e env S) l st S)):=by
 refine iY 26 aRI aQO bC mix Tryz.func101 rfl (by kernel_rfl) (by simp) ?_
 simp -dsimp -implicitDefEqProofs only [go_sem,↓reduceIte,Tryz.f101]
 refine ⟨Nat.zero_lt_one,fun _=>?_⟩
 refine bQ (keep:=aRI) (ib:=aQO) (mk:=bC) mix (by kernel_rfl) (fun x:Nat × List Int × Nat × Int × bY × aA × Option Nat=>[(0,.op nb 8 0 0),(2,ints env),(7,eU 1 x.2.1.length x.2.2.2.2.2.2),(11,cY 5 aB.c l),(12,I l.length),(13,I x.1)]) (fun x=>gB x.2.2.2.2.2.1 (.row 1 ((x.2.1.map fun n=>[I n]).map (List.map .v))) x.2.2.2.2.2.2) (fun x=>x.1≤l.length∧x.2.1.length = x.1∧st≤x.2.2.1∧x.2.2.1≤3000∧j9 (oE c (jF (fun t e S=>cM p n t e env S) (l.take x.1) st S)) (x.2.1,x.2.2.2.2.1) x.2.2.1 x.2.2.2.1∧g7 h0 nb p inp x.2.2.2.2.1 x.2.2.1 x.2.2.2.1 x.2.2.2.2.2.1∧eF x.2.2.2.2.2.1 x.2.1 x.2.2.2.2.2.2) (fun x=>l.length - x.1) (0,[],st,c,S,h,none) ⟨by simp [bU,bF,eU],by simp only [aP];exact aA.le_refl _,Nat.zero_le _,rfl,Nat.le_refl _,hst,gX _ _ _,hb,rfl⟩ ?_
 rintro ⟨k,vs,t,c',S1,g,o⟩ ⟨hk,hvl,ht0,ht,ho,hR,hos⟩
 simp only at hk hvl ht0 ht ho hR hos ⊢
 rcases Nat.lt_or_ge k l.length with hlt | hge
 ·have ek:l[k]? = some l[k]:=List.getElem?_eq_getElem hlt
  have hnext:∀ (j:Int) (S2:bY) (t2:Nat) (c2:Int),j9 (oE c' (cM p n t l[k] env S1)) (j,S2) t2 c2→j9 (oE c (jF (fun t e S=>cM p n t e env S) (l.take (k + 1)) st S)) (vs ++ [j],S2) t2 c2:=fun j S2 t2 c2 h3=>by
   rw [List.take_succ_eq_append_getElem hlt,aAV]
   exact ho.eY (h3.eY (gX _ _ _))
  have bA0:c' = 0→Good inp S1 t∧∀ x∈env,kB S1 x:=fun hc=>by
   obtain ⟨e1,e2⟩:=ho.ok hc
   obtain ⟨a1,a2⟩:=hgo e1
   obtain ⟨b1,b2,b3,b4⟩:=fV hp (l:=l.take k) a1 hst a2 (fun x hx=>hok x (List.mem_of_mem_take hx)) hf _ _ e2
   exact ⟨b1,fun x hx=>(a2 x hx).ext b2⟩
  cases o with
  |none =>
   rw [a6] at hos
   subst hos
   simp -dsimp -implicitDefEqProofs only [go_sem,↓reduceIte,Tryz.f101,a8,aP,hlt,ek,aB.aQ]
   intro m9 z9
   rw [aO]
   have hvk:=hv (a7 h0 m9 (.row 5 [l[k].c.map .v])) (a7 g m9 (.row 5 [l[k].c.map .v])) nb t c' l[k] env S1 funcs (hR.uM z9) ht (by omega) (hok _ (List.getElem_mem _)) eM hf bA0 (by omega)
   rw [aB.aQ] at hvk
   refine aG.gQ hvk ?_
   rintro r h' ⟨j,S2,t2,c2,rfl,lD,h1,h2,h3⟩
   obtain ⟨g2,rfl,hg2,lD⟩:=lD.base (hR.none z9)
   simp -dsimp -implicitDefEqProofs only [go_sem,↓reduceIte,Tryz.f101]
   refine ⟨Nat.zero_lt_one,Nat.zero_lt_one,Nat.zero_lt_one,fun b ⟨hb9,jG⟩=>?_⟩
   refine ⟨(k + 1,[j],t2,c2,S2,g2,some b),⟨rfl,by rw [IntWalk.i64_in _ (by omega)];rfl⟩,?_,⟨by omega,by simp only [List.length_nil] at hvl;subst hvl;rfl,Nat.le_trans ht0 h1,h2,hnext j S2 t2 c2 h3,lD,jG⟩,by simp only;omega⟩
   simp only [aK]
   exact (lL (by repeat' (first | exact jN _ _ | refine lM (by simp only [dX,↓reduceIte,eq_self,if_true,hb9,hg2,List.map_cons,List.map_nil]) ?_ | refine iG (by first | exact .inr (by assumption) | exact .inl (by simp)) ?_)))
  |some m =>
   rw [aU] at hos
   simp -dsimp -implicitDefEqProofs only [go_sem,↓reduceIte,Tryz.f101,aT,aK,hlt,ek,aB.aQ]
   intro m9 ⟨h9m,z9⟩
   rw [aO]
   have aI0:¬ m9 = m:=h9m
   have a5E:¬ m = m9:=Ne.symm aI0
   have aV9:(m9 = m) = False:=eq_false aI0
   have aWA:(m = m9) = False:=eq_false a5E
   have z9':(a7 g m (.row 1 ((vs.map fun n=>[I n]).map (List.map .v)))) m9 = none:=by rw [aF _ _ _ _ aI0];exact z9
   have hRo:=hR.uM (o:=.row 1 ((vs.map fun n=>[I n]).map (List.map .v))) hos
   have hvk:=hv _ _ nb t c' l[k] env S1 funcs (hRo.uM (o:=.row 5 [l[k].c.map .v]) z9') ht (by omega) (hok _ (List.getElem_mem _)) eM hf bA0 (by omega)
   rw [aB.aQ] at hvk
   refine aG.gQ hvk ?_
   rintro r h' ⟨j,S2,t2,c2,rfl,lD,h1,h2,h3⟩
   obtain ⟨g1,rfl,iZ,lD⟩:=lD.base (hRo.none z9')
   obtain ⟨g2,rfl,hg2,lD⟩:=lD.base (hR.none hos)
   rw [aF _ _ _ _ aI0] at iZ
   simp -dsimp -implicitDefEqProofs only [go_sem,↓reduceIte,Tryz.f101,aF,aWA,aV9]
   refine ⟨Nat.zero_lt_one,Nat.zero_lt_one,Nat.zero_lt_one,Nat.le_refl _,by omega,by omega,fun b ⟨hb9,hbm,jG⟩=>?_⟩
   have gU:¬ b = m:=hbm
   have j5:¬ m = b:=Ne.symm gU
   have k5:(b = m) = False:=eq_false gU
   have k6:(m = b) = False:=eq_false j5
   have aWB:¬ b = m9:=hb9
   have a5F:¬ m9 = b:=Ne.symm aWB
   have a5G:(b = m9) = False:=eq_false aWB
   have a5H:(m9 = b) = False:=eq_false a5F
   refine ⟨(k + 1,vs ++ [j],t2,c2,S2,g2,some b),⟨by rw [aT,List.length_append];rfl,by rw [IntWalk.i64_in _ (by omega)];rfl⟩,?_,⟨by omega,by rw [List.length_append,hvl];rfl,Nat.le_trans ht0 h1,h2,hnext j S2 t2 c2 h3,lD,jG⟩,by simp only;omega⟩
   simp only [aK]
   rw [← dQ]
   exact (lL (by repeat' (first | exact jN _ _ | refine lM (by simp only [dX,↓reduceIte,eq_self,if_true,k5,a5G,k6,aWA,a5H,aV9]) ?_ | refine iG (by first | exact .inr (by assumption) | exact .inl (by simp)) ?_)))
 ·have hk':k = l.length:=by omega
  subst hk'
  rw [List.take_length] at ho
  cases o with
  |none =>
   rw [a6] at hos
   subst hos
   simp -dsimp -implicitDefEqProofs only [go_sem,↓reduceIte,Tryz.f101,a8,aP,Nat.lt_irrefl]
   exact ⟨ints [],_,Shift.of (Sub.loose _ _ _) (aA.le_refl _),[],S1,t,c',rfl,hR,hvl,ht0,ht,ho⟩
  |some m =>
   rw [aU] at hos
   simp -dsimp -implicitDefEqProofs only [go_sem,↓reduceIte,Tryz.f101,aT,aK,Nat.lt_irrefl]
   exact ⟨ints vs,g,fS vs hos (aA.le_refl _) rfl,vs,S1,t,c',rfl,hR,hvl,ht0,ht,ho⟩
theorem aWC {p:aE} {inp:Int} {n:Nat} {h0 h:aA} {nb st:Nat} {c:Int} {e:aB} {env:List Int} {S:bY} (hR:g7 h0 nb p inp S st c h) (hst:st≤3000) (hs:¬ c = 0∨st = 3000) :
  fE Tryz.prog 173 [.op nb 8 0 0,.agg e.c,ints env] h (aAW h0 nb p inp st c (cM p (n + 1) st e env S)):=by
 obtain ⟨om,og,ov,H⟩:=hR
 have hb:=H.box
 unfold cA at hb
 rw [aB.aQ]
 refine iY 190 l7 sG sH mix Tryz.func173 rfl (by kernel_rfl) (by simp) ?_
 simp -dsimp -implicitDefEqProofs only [go_sem,↓reduceIte,Tryz.f173,hb]
 refine ⟨fun hc=>?_,fun hc=>?_⟩
 ·exact ⟨_,_,aZ _ _,0,S,st,c,rfl,⟨_,_,_,H⟩,Nat.le_refl _,hst,by rw [kA _ hc];exact gT _ _ hc⟩
 ·subst hc
  have h3:st = 3000:=by rcases hs with hs | hs;exact absurd rfl hs;exact hs
  subst h3
  try simp -dsimp -implicitDefEqProofs only [go_sem,↓reduceIte,Tryz.f173,hb]
  refine ⟨fun _=>?_,fun q=>absurd q (by simp)⟩
  refine ⟨_,_,aZ _ _,0,S,3000,7,rfl,⟨_,_,_,H.set 3000 7⟩,Nat.le_refl _,hst,?_⟩
  rw [eK,cM,if_pos rfl]
  exact gT _ _ (by decide)
theorem aRJ (l:List Int) (hl:l.length≤1048576):dI Tryz.prog 203 [ints l] (.sl 1 (l.map fun n=>[I n]) true):=by
 refine dJ 9 aAN bM bC mix Tryz.func203 rfl (by kernel_rfl) (by simp) fun h=>?_
 simp -dsimp -implicitDefEqProofs only [go_sem,↓reduceIte,Tryz.f203]
 repeat' (with_reducible first | intro _ | refine And.intro ?_ ?_)
 all_goals try omega
 rw [List.take_of_length_le (by rw [List.length_map];exact Nat.le_refl _)]
theorem bA1 {p:aE} (hp:p.ok) {inp:Int} {n:Nat} (hv:sI p inp n) {h0 h:aA} {nb st:Nat} {e:aB} {env:List Int} {S:bY} {funcs:Int} (hR:g7 h0 nb p inp S st 0 h) (hst:st < 3000) (hn:3001≤n + 1 + st)
  (hok:e.ok p funcs env.length) (eM:0≤funcs) (hf:funcs≤p.aJ.length) (hg:Good inp S st) (henv:∀ x∈env,kB S x) (hel:env.length≤412 + st) (hk:e.aR = 1) :
  fE Tryz.prog 173 [.op nb 8 0 0,.agg e.c,ints env] h (aAW h0 nb p inp st 0 (cM p (n + 1) st e env S)):=by
 obtain ⟨om,og,ov,H⟩:=hR
 rw [aB.aQ]
 have hb:=H.box
 unfold cA at hb
 have e3:((st:Int) = 3000) = False:=eq_false (by omega)
 have ew:IntKind.i64.wrap ((st:Int) + 1) = ((st + 1:Nat):Int):=by rw [IntWalk.i64_in _ (by omega)];rfl
 have hnode:=(aB.cZ _ _ _ _).1 hok
 have h3:¬ st = 3000:=by omega
 have hcap:=hg.cap
 have hgcap:=hg.nC
 have iZ:=hg.kO (Nat.le_succ st)
 have y9:g7 h0 nb p inp S (st + 1) 0 (a7 h nb (cA p inp S om og ov (st + 1) 0)):=⟨_,_,_,H.set (st + 1) 0⟩
 refine iY 190 l7 sG sH mix Tryz.func173 rfl (by kernel_rfl) (by simp) ?_
 simp -dsimp -implicitDefEqProofs only [go_sem,↓reduceIte,Tryz.f173,hb,e3,ew,hk]
 refine aG.gQ (aET y9 ⟨2,0,0,e.aW⟩ e.aW hg.len (by omega)) ?_
 rintro r h' ⟨rfl,lD⟩
 simp -dsimp -implicitDefEqProofs only [go_sem,↓reduceIte,Tryz.f173]
 refine ⟨_,_,aZ _ _,_,_,st + 1,0,rfl,lD,Nat.le_succ _,hst,?_⟩
 rw [eK,aEN h3 hk]
 exact pK _ _
theorem bA2 {p:aE} (hp:p.ok) {inp:Int} {n:Nat} (hv:sI p inp n) {h0 h:aA} {nb st:Nat} {e:aB} {env:List Int} {S:bY} {funcs:Int} (hR:g7 h0 nb p inp S st 0 h) (hst:st < 3000) (hn:3001≤n + 1 + st)
  (hok:e.ok p funcs env.length) (eM:0≤funcs) (hf:funcs≤p.aJ.length) (hg:Good inp S st) (henv:∀ x∈env,kB S x) (hel:env.length≤412 + st) (hk:e.aR = 2) :
  fE Tryz.prog 173 [.op nb 8 0 0,.agg e.c,ints env] h (aAW h0 nb p inp st 0 (cM p (n + 1) st e env S)):=by
 obtain ⟨om,og,ov,H⟩:=hR
 rw [aB.aQ]
 have hb:=H.box
 unfold cA at hb
 have e3:((st:Int) = 3000) = False:=eq_false (by omega)
 have ew:IntKind.i64.wrap ((st:Int) + 1) = ((st + 1:Nat):Int):=by rw [IntWalk.i64_in _ (by omega)];rfl
 have hnode:=(aB.cZ _ _ _ _).1 hok
 have h3:¬ st = 3000:=by omega
 have hcap:=hg.cap
 have hgcap:=hg.nC
 have iZ:=hg.kO (Nat.le_succ st)
 have y9:g7 h0 nb p inp S (st + 1) 0 (a7 h nb (cA p inp S om og ov (st + 1) 0)):=⟨_,_,_,H.set (st + 1) 0⟩
 have hnum:=((eO (by omega)).1 hnode.1).2.2.2.2.1 hk
 have hlt:e.aW.toNat < env.length:=by omega
 refine iY 190 l7 sG sH mix Tryz.func173 rfl (by kernel_rfl) (by simp) ?_
 simp -dsimp -implicitDefEqProofs only [go_sem,↓reduceIte,Tryz.f173,hb,e3,ew,hk,b9 hlt]
 refine ⟨hnum.1,by omega,_,_,aZ _ _,_,S,st + 1,0,rfl,y9,Nat.le_succ _,hst,?_⟩
 rw [eK,aEO h3 hk]
 exact pK _ _
theorem bA3 {p:aE} (hp:p.ok) {inp:Int} {n:Nat} (hv:sI p inp n) {h0 h:aA} {nb st:Nat} {e:aB} {env:List Int} {S:bY} {funcs:Int} (hR:g7 h0 nb p inp S st 0 h) (hst:st < 3000) (hn:3001≤n + 1 + st)
  (hok:e.ok p funcs env.length) (eM:0≤funcs) (hf:funcs≤p.aJ.length) (hg:Good inp S st) (henv:∀ x∈env,kB S x) (hel:env.length≤412 + st) (hk:e.aR = 9) :
  fE Tryz.prog 173 [.op nb 8 0 0,.agg e.c,ints env] h (aAW h0 nb p inp st 0 (cM p (n + 1) st e env S)):=by
 obtain ⟨om,og,ov,H⟩:=hR
 rw [aB.aQ]
 have hb:=H.box
 unfold cA at hb
 have e3:((st:Int) = 3000) = False:=eq_false (by omega)
 have ew:IntKind.i64.wrap ((st:Int) + 1) = ((st + 1:Nat):Int):=by rw [IntWalk.i64_in _ (by omega)];rfl
 have hnode:=(aB.cZ _ _ _ _).1 hok
 have h3:¬ st = 3000:=by omega
 have hcap:=hg.cap
 have hgcap:=hg.nC
 have iZ:=hg.kO (Nat.le_succ st)
 have y9:g7 h0 nb p inp S (st + 1) 0 (a7 h nb (cA p inp S om og ov (st + 1) 0)):=⟨_,_,_,H.set (st + 1) 0⟩
 have hlen:=dC hok (by omega)
 rw [hk,show fG 9 = 2 from rfl] at hlen
 have g0:e.aI[Int.toNat 0]? = some (e.mC 0):=aB.gR (by omega)
 have g1:e.aI[Int.toNat 1]? = some (e.mC 1):=aB.gR (by omega)
 have o0:=aB.fD hok (i:=0) (by omega)
 have o1:=aB.fD hok (i:=1) (by omega)
 rw [iC (by omega)] at o0
 rw [hk,show kG 9 1 (env.length:Int) = env.length + 1 from rfl] at o1
 refine iY 190 l7 sG sH mix Tryz.func173 rfl (by kernel_rfl) (by simp) ?_
 simp -dsimp -implicitDefEqProofs only [go_sem,↓reduceIte,Tryz.f173,hb,e3,ew,hk,g0,g1,aB.ld5]
 refine ⟨by omega,by omega,?_⟩
 first | refine aG.mk (aRJ env (by omega)) ?_ | refine aD.mk (aRJ env (by omega)) ?_ | refine aG.a5 (aRJ env (by omega)) ?_ | refine aD.mk (aX.cD (aRJ env (by omega))) ?_
 simp -dsimp -implicitDefEqProofs only [go_sem,↓reduceIte,Tryz.f173]
 refine aG.gQ (hv _ _ nb (st + 1) 0 (e.mC 0) env S funcs y9 (by omega) (by omega) o0 eM hf (fun _=>⟨iZ,henv⟩) (by omega)) ?_
 rintro r h' ⟨k1,S1,t1,c1,rfl,lD,a1,a2,a3⟩
 simp -dsimp -implicitDefEqProofs only [go_sem,↓reduceIte,Tryz.f173]
 refine ⟨Nat.zero_lt_one,Nat.zero_lt_one,Nat.zero_lt_one,by omega,by omega,fun m hm=>?_⟩
 have dM:¬ nb = m:=fun e=>by obtain ⟨_,_,_,H2⟩:=lD;have:=H2.box;rw [e,hm] at this;cases this
 have eI:¬ m = nb:=Ne.symm dM
 have dZ:(nb = m) = False:=eq_false dM
 have dY:(m = nb) = False:=eq_false eI
 have hrow:env.map (fun n=>[I n]) ++ [[aC.int .i64 k1]] = (env ++ [k1]).map fun n=>[I n]:=by rw [List.map_append];rfl
 rw [hrow]
 refine aG.aZK dM (by rw [List.length_map,List.length_append];rfl) hm ?_
 refine fE.mono (hv _ _ nb t1 c1 (e.mC 1) (env ++ [k1]) S1 funcs (lD.uM (o:=.gone) hm) (by omega) (by omega) (by rw [List.length_append];exact o1) eM hf (fun hc=>?_) (by rw [List.length_append];show env.length + 1≤_;omega)) ?_
 ·obtain ⟨_,e2⟩:=a3.ok hc
  obtain ⟨b1,b2,b3,b4⟩:=lO hp n (st + 1) (e.mC 0) env S funcs o0 hf iZ (by omega) henv _ _ e2
  refine ⟨b1,fun x hx=>?_⟩
  rcases List.mem_append.1 hx with hx | hx
  ·exact (henv x hx).ext b2
  ·rw [List.mem_singleton.1 hx];exact b3
 rintro r h2 ⟨k2,S2,t2,c2,rfl,nT,b1,b2,b3⟩
 obtain ⟨g,rfl,hgm,nT⟩:=nT.base (lD.none hm)
 simp -dsimp -implicitDefEqProofs only [go_sem,↓reduceIte,Tryz.f173]
 refine ⟨_,g,cG (aA.bI hgm (aA.le_refl _)),k2,S2,t2,c2,rfl,nT,by omega,b2,?_⟩
 rw [aEP h3 hk]
 exact a3.eY b3
theorem bA4 {p:aE} (hp:p.ok) {inp:Int} {n:Nat} (hv:sI p inp n) {h0 h:aA} {nb st:Nat} {e:aB} {env:List Int} {S:bY} {funcs:Int} (hR:g7 h0 nb p inp S st 0 h) (hst:st < 3000) (hn:3001≤n + 1 + st)
  (hok:e.ok p funcs env.length) (eM:0≤funcs) (hf:funcs≤p.aJ.length) (hg:Good inp S st) (henv:∀ x∈env,kB S x) (hel:env.length≤412 + st) (hk:e.aR = 8) :
  fE Tryz.prog 173 [.op nb 8 0 0,.agg e.c,ints env] h (aAW h0 nb p inp st 0 (cM p (n + 1) st e env S)):=by
 obtain ⟨om,og,ov,H⟩:=hR
 rw [aB.aQ]
 have hb:=H.box
 unfold cA at hb
 have e3:((st:Int) = 3000) = False:=eq_false (by omega)
 have ew:IntKind.i64.wrap ((st:Int) + 1) = ((st + 1:Nat):Int):=by rw [IntWalk.i64_in _ (by omega)];rfl
 have hnode:=(aB.cZ _ _ _ _).1 hok
 have h3:¬ st = 3000:=by omega
 have hcap:=hg.cap
 have hgcap:=hg.nC
 have iZ:=hg.kO (Nat.le_succ st)
 have y9:g7 h0 nb p inp S (st + 1) 0 (a7 h nb (cA p inp S om og ov (st + 1) 0)):=⟨_,_,_,H.set (st + 1) 0⟩
 have hlen:=dC hok (by omega)
 rw [hk,show fG 8 = 3 from rfl] at hlen
 have g0:e.aI[Int.toNat 0]? = some (e.mC 0):=aB.gR (by omega)
 have g1:e.aI[Int.toNat 1]? = some (e.mC 1):=aB.gR (by omega)
 have g2:e.aI[Int.toNat 2]? = some (e.mC 2):=aB.gR (by omega)
 have o0:=aB.fD hok (i:=0) (by omega)
 have o1:=aB.fD hok (i:=1) (by omega)
 have o2:=aB.fD hok (i:=2) (by omega)
 rw [iC (by omega)] at o0 o1 o2
 refine iY 190 l7 sG sH mix Tryz.func173 rfl (by kernel_rfl) (by simp) ?_
 simp -dsimp -implicitDefEqProofs only [go_sem,↓reduceIte,Tryz.f173,hb,e3,ew,hk,g0,aB.ld5]
 refine ⟨by omega,?_⟩
 refine aG.gQ (hv _ _ nb (st + 1) 0 (e.mC 0) env S funcs y9 (by omega) (by omega) o0 eM hf (fun _=>⟨iZ,henv⟩) (by omega)) ?_
 rintro r h' ⟨k1,S1,t1,c1,rfl,⟨om1,og1,ov1,H1⟩,a1,a2,a3⟩
 have jP:=H1.box
 unfold cA at jP
 simp -dsimp -implicitDefEqProofs only [go_sem,↓reduceIte,Tryz.f173,jP]
 refine ⟨fun hc=>?_,fun hc=>?_⟩
 ·refine ⟨_,_,aZ _ _,0,S1,t1,c1,rfl,⟨_,_,_,H1⟩,by omega,a2,?_⟩
  rw [tK h3 hk]
  exact a3.eY (by rw [kA _ hc];exact gT _ _ hc)
 subst hc
 obtain ⟨_,e2⟩:=a3.ok rfl
 obtain ⟨q1,q2,q3,q4⟩:=lO hp n (st + 1) (e.mC 0) env S funcs o0 hf iZ (by omega) henv _ _ e2
 unfold lH at q4
 simp only at q1 q2 q3 q4
 obtain ⟨w,rfl,hw,dw⟩:=H1.row q3
 have rk:=gY q3
 have k0:=q3.1
 have k2:=q3.2
 have lw:=dD (fun n=>[I n]) S1.dU
 have hgc:=q1.nC
 rw [cW] at jP
 try simp -dsimp -implicitDefEqProofs only [go_sem,↓reduceIte,Tryz.f173,jP,hw,rk,cW]
 refine ⟨k0,by omega,?_⟩
 have hgd:=H1.gds
 cases og1 with
 |none =>
  have hg0:S1.guards = []:=fY.1 hgd
  rw [sA]
  simp -dsimp -implicitDefEqProofs only [go_sem,↓reduceIte,Tryz.f173,jP]
  refine ⟨by decide,by decide,by decide,fun b jG=>?_⟩
  have bV:¬ b = nb:=fun e=>by rw [e,jP] at jG;cases jG
  have dS:¬ nb = b:=Ne.symm bV
  have cT:(b = nb) = False:=eq_false bV
  have cU:(nb = b) = False:=eq_false dS
  simp -dsimp -implicitDefEqProofs only [go_sem,↓reduceIte,Tryz.f173,jP,cT,cU,aF,g1,g2,aB.ld5]
  refine ⟨fun hz=>⟨by omega,?_⟩,fun hz=>⟨by omega,?_⟩⟩
  ·rw [decide_eq_true hz]
   obtain ⟨g,hgl,hG⟩:=H1.guard ⟨k1,true⟩ jG (F:=a7 (a7 h' b (.row 2 [[.v (I k1),.v (.bool true)]])) nb (cA p inp (S1.guard ⟨k1,true⟩) om1 (some b) (some w) t1 0)) (aH _ _ _) (by rw [aF _ _ _ _ bV,aH,hg0];rfl) (fun n h1 h2 _=>by rw [aF _ _ _ _ h1,aF _ _ _ _ h2])
   unfold cA at hgl
   simp only [bY.guard,hg0,cW,List.nil_append,List.length_singleton] at hgl
   refine aG.wk (aA.kF hgl) ?_
   have hgG:=q1.guard (b:=true) q3 (by omega)
   have heG:=q2.trans (S1.kK ⟨k1,true⟩)
   refine aG.gQ (hv h0 g nb t1 0 (e.mC 1) env (S1.guard ⟨k1,true⟩) funcs ⟨_,_,_,hG⟩ (by omega) (by omega) o1 eM hf (fun _=>⟨hgG,fun x hx=>(henv x hx).ext heG⟩) (by omega)) ?_
   rintro r h2 ⟨k2,S2,t2,c2,rfl,nT,b1,b2,b3⟩
   simp -dsimp -implicitDefEqProofs only [go_sem,↓reduceIte,Tryz.f173]
   refine ⟨_,_,aZ _ _,k2,S2,t2,c2,rfl,nT,by omega,b2,?_⟩
   rw [tK h3 hk]
   refine a3.eY ?_
   rw [if_pos hz]
   exact b3
  ·rw [decide_eq_false hz]
   obtain ⟨g,hgl,hG⟩:=H1.guard ⟨k1,false⟩ jG (F:=a7 (a7 h' b (.row 2 [[.v (I k1),.v (.bool false)]])) nb (cA p inp (S1.guard ⟨k1,false⟩) om1 (some b) (some w) t1 0)) (aH _ _ _) (by rw [aF _ _ _ _ bV,aH,hg0];rfl) (fun n h1 h2 _=>by rw [aF _ _ _ _ h1,aF _ _ _ _ h2])
   unfold cA at hgl
   simp only [bY.guard,hg0,cW,List.nil_append,List.length_singleton] at hgl
   refine aG.wk (aA.kF hgl) ?_
   have hgG:=q1.guard (b:=false) q3 (by omega)
   have heG:=q2.trans (S1.kK ⟨k1,false⟩)
   refine aG.gQ (hv h0 g nb t1 0 (e.mC 2) env (S1.guard ⟨k1,false⟩) funcs ⟨_,_,_,hG⟩ (by omega) (by omega) o2 eM hf (fun _=>⟨hgG,fun x hx=>(henv x hx).ext heG⟩) (by omega)) ?_
   rintro r h2 ⟨k2,S2,t2,c2,rfl,nT,b1,b2,b3⟩
   simp -dsimp -implicitDefEqProofs only [go_sem,↓reduceIte,Tryz.f173]
   refine ⟨_,_,aZ _ _,k2,S2,t2,c2,rfl,nT,by omega,b2,?_⟩
   rw [tK h3 hk]
   refine a3.eY ?_
   rw [if_neg hz]
   exact b3
 |some gm =>
  have hgm:=hgd.2
  have zA:¬ gm = nb:=fun e=>by rw [e,jP] at hgm;cases hgm
  have aI1:¬ nb = gm:=Ne.symm zA
  have aI2:(gm = nb) = False:=eq_false zA
  have aI3:(nb = gm) = False:=eq_false aI1
  rw [cW]
  simp -dsimp -implicitDefEqProofs only [go_sem,↓reduceIte,Tryz.f173,jP,hgm,dD]
  refine ⟨by decide,by decide,by decide,Nat.le_refl _,by omega,by omega,fun b jG=>?_⟩
  have bV:¬ b = nb:=fun e=>by rw [e,jP] at jG;cases jG
  have dS:¬ nb = b:=Ne.symm bV
  have cT:(b = nb) = False:=eq_false bV
  have cU:(nb = b) = False:=eq_false dS
  have aE0:¬ b = gm:=fun e=>by rw [e,hgm] at jG;cases jG
  have aOL:¬ gm = b:=Ne.symm aE0
  have aOM:(b = gm) = False:=eq_false aE0
  have aON:(gm = b) = False:=eq_false aOL
  simp -dsimp -implicitDefEqProofs only [go_sem,↓reduceIte,Tryz.f173,jP,cT,aOM,cU,aI3,aON,aI2,aF,g1,g2,aB.ld5]
  refine ⟨fun hz=>⟨by omega,?_⟩,fun hz=>⟨by omega,?_⟩⟩
  ·rw [decide_eq_true hz,List.take_of_length_le (by rw [dD];exact Nat.le_refl _)]
   obtain ⟨g,hgl,hG⟩:=H1.guard ⟨k1,true⟩ jG (F:=a7 (a7 (a7 h' gm .gone) b (.row 2 (rowsOf dT.c S1.guards ++ [[.v (I k1),.v (.bool true)]]))) nb (cA p inp (S1.guard ⟨k1,true⟩) om1 (some b) (some w) t1 0)) (aH _ _ _) (by rw [aF _ _ _ _ bV,aH,kP];rfl) (fun n h1 h2 h3=>by rw [aF _ _ _ _ h1,aF _ _ _ _ h2,aF _ _ _ _ (fun q=>h3 (by rw [q]))])
   unfold cA at hgl
   simp only [bY.guard,cW,List.length_append,List.length_singleton] at hgl
   refine aG.wk (aA.kF hgl) ?_
   have hgG:=q1.guard (b:=true) q3 (by omega)
   have heG:=q2.trans (S1.kK ⟨k1,true⟩)
   refine aG.gQ (hv h0 g nb t1 0 (e.mC 1) env (S1.guard ⟨k1,true⟩) funcs ⟨_,_,_,hG⟩ (by omega) (by omega) o1 eM hf (fun _=>⟨hgG,fun x hx=>(henv x hx).ext heG⟩) (by omega)) ?_
   rintro r h2 ⟨k2,S2,t2,c2,rfl,nT,b1,b2,b3⟩
   simp -dsimp -implicitDefEqProofs only [go_sem,↓reduceIte,Tryz.f173]
   refine ⟨_,_,aZ _ _,k2,S2,t2,c2,rfl,nT,by omega,b2,?_⟩
   rw [tK h3 hk]
   refine a3.eY ?_
   rw [if_pos hz]
   exact b3
  ·rw [decide_eq_false hz,List.take_of_length_le (by rw [dD];exact Nat.le_refl _)]
   obtain ⟨g,hgl,hG⟩:=H1.guard ⟨k1,false⟩ jG (F:=a7 (a7 (a7 h' gm .gone) b (.row 2 (rowsOf dT.c S1.guards ++ [[.v (I k1),.v (.bool false)]]))) nb (cA p inp (S1.guard ⟨k1,false⟩) om1 (some b) (some w) t1 0)) (aH _ _ _) (by rw [aF _ _ _ _ bV,aH,kP];rfl) (fun n h1 h2 h3=>by rw [aF _ _ _ _ h1,aF _ _ _ _ h2,aF _ _ _ _ (fun q=>h3 (by rw [q]))])
   unfold cA at hgl
   simp only [bY.guard,cW,List.length_append,List.length_singleton] at hgl
   refine aG.wk (aA.kF hgl) ?_
   have hgG:=q1.guard (b:=false) q3 (by omega)
   have heG:=q2.trans (S1.kK ⟨k1,false⟩)
   refine aG.gQ (hv h0 g nb t1 0 (e.mC 2) env (S1.guard ⟨k1,false⟩) funcs ⟨_,_,_,hG⟩ (by omega) (by omega) o2 eM hf (fun _=>⟨hgG,fun x hx=>(henv x hx).ext heG⟩) (by omega)) ?_
   rintro r h2 ⟨k2,S2,t2,c2,rfl,nT,b1,b2,b3⟩
   simp -dsimp -implicitDefEqProofs only [go_sem,↓reduceIte,Tryz.f173]
   refine ⟨_,_,aZ _ _,k2,S2,t2,c2,rfl,nT,by omega,b2,?_⟩
   rw [tK h3 hk]
   refine a3.eY ?_
   rw [if_neg hz]
   exact b3
theorem bA5 {p:aE} (hp:p.ok) {inp:Int} {n:Nat} (hv:sI p inp n) {h0 h:aA} {nb st:Nat} {e:aB} {env:List Int} {S:bY} {funcs:Int} (hR:g7 h0 nb p inp S st 0 h) (hst:st < 3000) (hn:3001≤n + 1 + st)
  (hok:e.ok p funcs env.length) (eM:0≤funcs) (hf:funcs≤p.aJ.length) (hg:Good inp S st) (henv:∀ x∈env,kB S x) (hel:env.length≤412 + st) (hk:e.aR = 3) :
  fE Tryz.prog 173 [.op nb 8 0 0,.agg e.c,ints env] h (aAW h0 nb p inp st 0 (cM p (n + 1) st e env S)):=by
 obtain ⟨om,og,ov,H⟩:=hR
 rw [aB.aQ]
 have hb:=H.box
 unfold cA at hb
 have e3:((st:Int) = 3000) = False:=eq_false (by omega)
 have ew:IntKind.i64.wrap ((st:Int) + 1) = ((st + 1:Nat):Int):=by rw [IntWalk.i64_in _ (by omega)];rfl
 have hnode:=(aB.cZ _ _ _ _).1 hok
 have h3:¬ st = 3000:=by omega
 have hcap:=hg.cap
 have hgcap:=hg.nC
 have iZ:=hg.kO (Nat.le_succ st)
 have y9:g7 h0 nb p inp S (st + 1) 0 (a7 h nb (cA p inp S om og ov (st + 1) 0)):=⟨_,_,_,H.set (st + 1) 0⟩
 have hlen:=dC hok (by omega)
 rw [hk,show fG 3 = 2 from rfl] at hlen
 have hkl:e.aI.length≤1048576:=by omega
 refine iY 190 l7 sG sH mix Tryz.func173 rfl (by kernel_rfl) (by simp) ?_
 simp -dsimp -implicitDefEqProofs only [go_sem,↓reduceIte,Tryz.f173,hb,e3,ew,hk]
 refine aG.gQ (pL hp hv h0 _ nb (st + 1) 0 e.aI env S funcs y9 (by omega) (by omega) hkl (eQ hok (by omega)) eM hf (fun _=>⟨iZ,henv⟩) (by omega)) ?_
 rintro r h' ⟨vs,S1,t1,c1,rfl,⟨om1,og1,ov1,H1⟩,hvl,a1,a2,a3⟩
 have jP:=H1.box
 unfold cA at jP
 simp -dsimp -implicitDefEqProofs only [go_sem,↓reduceIte,Tryz.f173,jP]
 refine ⟨fun hc=>?_,fun hc=>?_⟩
 ·refine ⟨_,_,aZ _ _,0,S1,t1,c1,rfl,⟨_,_,_,H1⟩,by omega,a2,?_⟩
  rw [jA h3 (by omega)]
  exact a3.eY (by rw [kA _ hc];exact gT _ _ hc)
 subst hc
 obtain ⟨_,e2⟩:=a3.ok rfl
 obtain ⟨q1,q2,q3,q4⟩:=fV hp iZ (by omega) henv (eQ hok (by omega)) hf _ _ e2
 simp only at q1 q2 q3
 try simp -dsimp -implicitDefEqProofs only [go_sem,↓reduceIte,Tryz.f173,hk]
 refine aG.gQ (nP ⟨_,_,_,H1⟩ q1 a2 3 vs (by decide) (by omega) (by omega) q3.2 (by omega)) ?_
 rintro r h2 ⟨k2,S2,c2,rfl,nT,b3⟩
 simp -dsimp -implicitDefEqProofs only [go_sem,↓reduceIte,Tryz.f173]
 refine ⟨_,_,aZ _ _,k2,S2,t1,c2,rfl,nT,by omega,a2,?_⟩
 rw [jA h3 (by omega)]
 refine a3.eY ?_
 rw [eK,hk]
 exact b3
theorem bA6 {p:aE} (hp:p.ok) {inp:Int} {n:Nat} (hv:sI p inp n) {h0 h:aA} {nb st:Nat} {e:aB} {env:List Int} {S:bY} {funcs:Int} (hR:g7 h0 nb p inp S st 0 h) (hst:st < 3000) (hn:3001≤n + 1 + st)
  (hok:e.ok p funcs env.length) (eM:0≤funcs) (hf:funcs≤p.aJ.length) (hg:Good inp S st) (henv:∀ x∈env,kB S x) (hel:env.length≤412 + st) (hk:e.aR = 4) :
  fE Tryz.prog 173 [.op nb 8 0 0,.agg e.c,ints env] h (aAW h0 nb p inp st 0 (cM p (n + 1) st e env S)):=by
 obtain ⟨om,og,ov,H⟩:=hR
 rw [aB.aQ]
 have hb:=H.box
 unfold cA at hb
 have e3:((st:Int) = 3000) = False:=eq_false (by omega)
 have ew:IntKind.i64.wrap ((st:Int) + 1) = ((st + 1:Nat):Int):=by rw [IntWalk.i64_in _ (by omega)];rfl
 have hnode:=(aB.cZ _ _ _ _).1 hok
 have h3:¬ st = 3000:=by omega
 have hcap:=hg.cap
 have hgcap:=hg.nC
 have iZ:=hg.kO (Nat.le_succ st)
 have y9:g7 h0 nb p inp S (st + 1) 0 (a7 h nb (cA p inp S om og ov (st + 1) 0)):=⟨_,_,_,H.set (st + 1) 0⟩
 have hlen:=dC hok (by omega)
 rw [hk,show fG 4 = 2 from rfl] at hlen
 have hkl:e.aI.length≤1048576:=by omega
 refine iY 190 l7 sG sH mix Tryz.func173 rfl (by kernel_rfl) (by simp) ?_
 simp -dsimp -implicitDefEqProofs only [go_sem,↓reduceIte,Tryz.f173,hb,e3,ew,hk]
 refine aG.gQ (pL hp hv h0 _ nb (st + 1) 0 e.aI env S funcs y9 (by omega) (by omega) hkl (eQ hok (by omega)) eM hf (fun _=>⟨iZ,henv⟩) (by omega)) ?_
 rintro r h' ⟨vs,S1,t1,c1,rfl,⟨om1,og1,ov1,H1⟩,hvl,a1,a2,a3⟩
 have jP:=H1.box
 unfold cA at jP
 simp -dsimp -implicitDefEqProofs only [go_sem,↓reduceIte,Tryz.f173,jP]
 refine ⟨fun hc=>?_,fun hc=>?_⟩
 ·refine ⟨_,_,aZ _ _,0,S1,t1,c1,rfl,⟨_,_,_,H1⟩,by omega,a2,?_⟩
  rw [jA h3 (by omega)]
  exact a3.eY (by rw [kA _ hc];exact gT _ _ hc)
 subst hc
 obtain ⟨_,e2⟩:=a3.ok rfl
 obtain ⟨q1,q2,q3,q4⟩:=fV hp iZ (by omega) henv (eQ hok (by omega)) hf _ _ e2
 simp only at q1 q2 q3
 try simp -dsimp -implicitDefEqProofs only [go_sem,↓reduceIte,Tryz.f173,hk]
 refine aG.gQ (nP ⟨_,_,_,H1⟩ q1 a2 4 vs (by decide) (by omega) (by omega) q3.2 (by omega)) ?_
 rintro r h2 ⟨k2,S2,c2,rfl,nT,b3⟩
 simp -dsimp -implicitDefEqProofs only [go_sem,↓reduceIte,Tryz.f173]
 refine ⟨_,_,aZ _ _,k2,S2,t1,c2,rfl,nT,by omega,a2,?_⟩
 rw [jA h3 (by omega)]
 refine a3.eY ?_
 rw [eK,hk]
 exact b3
theorem bA7 {p:aE} (hp:p.ok) {inp:Int} {n:Nat} (hv:sI p inp n) {h0 h:aA} {nb st:Nat} {e:aB} {env:List Int} {S:bY} {funcs:Int} (hR:g7 h0 nb p inp S st 0 h) (hst:st < 3000) (hn:3001≤n + 1 + st)
  (hok:e.ok p funcs env.length) (eM:0≤funcs) (hf:funcs≤p.aJ.length) (hg:Good inp S st) (henv:∀ x∈env,kB S x) (hel:env.length≤412 + st) (hk:e.aR = 5) :
  fE Tryz.prog 173 [.op nb 8 0 0,.agg e.c,ints env] h (aAW h0 nb p inp st 0 (cM p (n + 1) st e env S)):=by
 obtain ⟨om,og,ov,H⟩:=hR
 rw [aB.aQ]
 have hb:=H.box
 unfold cA at hb
 have e3:((st:Int) = 3000) = False:=eq_false (by omega)
 have ew:IntKind.i64.wrap ((st:Int) + 1) = ((st + 1:Nat):Int):=by rw [IntWalk.i64_in _ (by omega)];rfl
 have hnode:=(aB.cZ _ _ _ _).1 hok
 have h3:¬ st = 3000:=by omega
 have hcap:=hg.cap
 have hgcap:=hg.nC
 have iZ:=hg.kO (Nat.le_succ st)
 have y9:g7 h0 nb p inp S (st + 1) 0 (a7 h nb (cA p inp S om og ov (st + 1) 0)):=⟨_,_,_,H.set (st + 1) 0⟩
 have hlen:=dC hok (by omega)
 rw [hk,show fG 5 = 2 from rfl] at hlen
 have hkl:e.aI.length≤1048576:=by omega
 refine iY 190 l7 sG sH mix Tryz.func173 rfl (by kernel_rfl) (by simp) ?_
 simp -dsimp -implicitDefEqProofs only [go_sem,↓reduceIte,Tryz.f173,hb,e3,ew,hk]
 refine aG.gQ (pL hp hv h0 _ nb (st + 1) 0 e.aI env S funcs y9 (by omega) (by omega) hkl (eQ hok (by omega)) eM hf (fun _=>⟨iZ,henv⟩) (by omega)) ?_
 rintro r h' ⟨vs,S1,t1,c1,rfl,⟨om1,og1,ov1,H1⟩,hvl,a1,a2,a3⟩
 have jP:=H1.box
 unfold cA at jP
 simp -dsimp -implicitDefEqProofs only [go_sem,↓reduceIte,Tryz.f173,jP]
 refine ⟨fun hc=>?_,fun hc=>?_⟩
 ·refine ⟨_,_,aZ _ _,0,S1,t1,c1,rfl,⟨_,_,_,H1⟩,by omega,a2,?_⟩
  rw [jA h3 (by omega)]
  exact a3.eY (by rw [kA _ hc];exact gT _ _ hc)
 subst hc
 obtain ⟨_,e2⟩:=a3.ok rfl
 obtain ⟨q1,q2,q3,q4⟩:=fV hp iZ (by omega) henv (eQ hok (by omega)) hf _ _ e2
 simp only at q1 q2 q3
 try simp -dsimp -implicitDefEqProofs only [go_sem,↓reduceIte,Tryz.f173,hk]
 refine aG.gQ (nP ⟨_,_,_,H1⟩ q1 a2 5 vs (by decide) (by omega) (by omega) q3.2 (by omega)) ?_
 rintro r h2 ⟨k2,S2,c2,rfl,nT,b3⟩
 simp -dsimp -implicitDefEqProofs only [go_sem,↓reduceIte,Tryz.f173]
 refine ⟨_,_,aZ _ _,k2,S2,t1,c2,rfl,nT,by omega,a2,?_⟩
 rw [jA h3 (by omega)]
 refine a3.eY ?_
 rw [eK,hk]
 exact b3
theorem bA8 {p:aE} (hp:p.ok) {inp:Int} {n:Nat} (hv:sI p inp n) {h0 h:aA} {nb st:Nat} {e:aB} {env:List Int} {S:bY} {funcs:Int} (hR:g7 h0 nb p inp S st 0 h) (hst:st < 3000) (hn:3001≤n + 1 + st)
  (hok:e.ok p funcs env.length) (eM:0≤funcs) (hf:funcs≤p.aJ.length) (hg:Good inp S st) (henv:∀ x∈env,kB S x) (hel:env.length≤412 + st) (hk:e.aR = 6) :
  fE Tryz.prog 173 [.op nb 8 0 0,.agg e.c,ints env] h (aAW h0 nb p inp st 0 (cM p (n + 1) st e env S)):=by
 obtain ⟨om,og,ov,H⟩:=hR
 rw [aB.aQ]
 have hb:=H.box
 unfold cA at hb
 have e3:((st:Int) = 3000) = False:=eq_false (by omega)
 have ew:IntKind.i64.wrap ((st:Int) + 1) = ((st + 1:Nat):Int):=by rw [IntWalk.i64_in _ (by omega)];rfl
 have hnode:=(aB.cZ _ _ _ _).1 hok
 have h3:¬ st = 3000:=by omega
 have hcap:=hg.cap
 have hgcap:=hg.nC
 have iZ:=hg.kO (Nat.le_succ st)
 have y9:g7 h0 nb p inp S (st + 1) 0 (a7 h nb (cA p inp S om og ov (st + 1) 0)):=⟨_,_,_,H.set (st + 1) 0⟩
 have hlen:=dC hok (by omega)
 rw [hk,show fG 6 = 2 from rfl] at hlen
 have hkl:e.aI.length≤1048576:=by omega
 refine iY 190 l7 sG sH mix Tryz.func173 rfl (by kernel_rfl) (by simp) ?_
 simp -dsimp -implicitDefEqProofs only [go_sem,↓reduceIte,Tryz.f173,hb,e3,ew,hk]
 refine aG.gQ (pL hp hv h0 _ nb (st + 1) 0 e.aI env S funcs y9 (by omega) (by omega) hkl (eQ hok (by omega)) eM hf (fun _=>⟨iZ,henv⟩) (by omega)) ?_
 rintro r h' ⟨vs,S1,t1,c1,rfl,⟨om1,og1,ov1,H1⟩,hvl,a1,a2,a3⟩
 have jP:=H1.box
 unfold cA at jP
 simp -dsimp -implicitDefEqProofs only [go_sem,↓reduceIte,Tryz.f173,jP]
 refine ⟨fun hc=>?_,fun hc=>?_⟩
 ·refine ⟨_,_,aZ _ _,0,S1,t1,c1,rfl,⟨_,_,_,H1⟩,by omega,a2,?_⟩
  rw [jA h3 (by omega)]
  exact a3.eY (by rw [kA _ hc];exact gT _ _ hc)
 subst hc
 obtain ⟨_,e2⟩:=a3.ok rfl
 obtain ⟨q1,q2,q3,q4⟩:=fV hp iZ (by omega) henv (eQ hok (by omega)) hf _ _ e2
 simp only at q1 q2 q3
 try simp -dsimp -implicitDefEqProofs only [go_sem,↓reduceIte,Tryz.f173,hk]
 refine aG.gQ (nP ⟨_,_,_,H1⟩ q1 a2 6 vs (by decide) (by omega) (by omega) q3.2 (by omega)) ?_
 rintro r h2 ⟨k2,S2,c2,rfl,nT,b3⟩
 simp -dsimp -implicitDefEqProofs only [go_sem,↓reduceIte,Tryz.f173]
 refine ⟨_,_,aZ _ _,k2,S2,t1,c2,rfl,nT,by omega,a2,?_⟩
 rw [jA h3 (by omega)]
 refine a3.eY ?_
 rw [eK,hk]
 exact b3
theorem bA9 {p:aE} (hp:p.ok) {inp:Int} {n:Nat} (hv:sI p inp n) {h0 h:aA} {nb st:Nat} {e:aB} {env:List Int} {S:bY} {funcs:Int} (hR:g7 h0 nb p inp S st 0 h) (hst:st < 3000) (hn:3001≤n + 1 + st)
  (hok:e.ok p funcs env.length) (eM:0≤funcs) (hf:funcs≤p.aJ.length) (hg:Good inp S st) (henv:∀ x∈env,kB S x) (hel:env.length≤412 + st) (hk:e.aR = 7) :
  fE Tryz.prog 173 [.op nb 8 0 0,.agg e.c,ints env] h (aAW h0 nb p inp st 0 (cM p (n + 1) st e env S)):=by
 obtain ⟨om,og,ov,H⟩:=hR
 rw [aB.aQ]
 have hb:=H.box
 unfold cA at hb
 have e3:((st:Int) = 3000) = False:=eq_false (by omega)
 have ew:IntKind.i64.wrap ((st:Int) + 1) = ((st + 1:Nat):Int):=by rw [IntWalk.i64_in _ (by omega)];rfl
 have hnode:=(aB.cZ _ _ _ _).1 hok
 have h3:¬ st = 3000:=by omega
 have hcap:=hg.cap
 have hgcap:=hg.nC
 have iZ:=hg.kO (Nat.le_succ st)
 have y9:g7 h0 nb p inp S (st + 1) 0 (a7 h nb (cA p inp S om og ov (st + 1) 0)):=⟨_,_,_,H.set (st + 1) 0⟩
 have hlen:=dC hok (by omega)
 rw [hk,show fG 7 = 1 from rfl] at hlen
 have hkl:e.aI.length≤1048576:=by omega
 refine iY 190 l7 sG sH mix Tryz.func173 rfl (by kernel_rfl) (by simp) ?_
 simp -dsimp -implicitDefEqProofs only [go_sem,↓reduceIte,Tryz.f173,hb,e3,ew,hk]
 refine aG.gQ (pL hp hv h0 _ nb (st + 1) 0 e.aI env S funcs y9 (by omega) (by omega) hkl (eQ hok (by omega)) eM hf (fun _=>⟨iZ,henv⟩) (by omega)) ?_
 rintro r h' ⟨vs,S1,t1,c1,rfl,⟨om1,og1,ov1,H1⟩,hvl,a1,a2,a3⟩
 have jP:=H1.box
 unfold cA at jP
 simp -dsimp -implicitDefEqProofs only [go_sem,↓reduceIte,Tryz.f173,jP]
 refine ⟨fun hc=>?_,fun hc=>?_⟩
 ·refine ⟨_,_,aZ _ _,0,S1,t1,c1,rfl,⟨_,_,_,H1⟩,by omega,a2,?_⟩
  rw [jA h3 (by omega)]
  exact a3.eY (by rw [kA _ hc];exact gT _ _ hc)
 subst hc
 obtain ⟨_,e2⟩:=a3.ok rfl
 obtain ⟨q1,q2,q3,q4⟩:=fV hp iZ (by omega) henv (eQ hok (by omega)) hf _ _ e2
 simp only at q1 q2 q3
 try simp -dsimp -implicitDefEqProofs only [go_sem,↓reduceIte,Tryz.f173,hk]
 refine aG.gQ (nP ⟨_,_,_,H1⟩ q1 a2 7 vs (by decide) (by omega) (by omega) q3.2 (by omega)) ?_
 rintro r h2 ⟨k2,S2,c2,rfl,nT,b3⟩
 simp -dsimp -implicitDefEqProofs only [go_sem,↓reduceIte,Tryz.f173]
 refine ⟨_,_,aZ _ _,k2,S2,t1,c2,rfl,nT,by omega,a2,?_⟩
 rw [jA h3 (by omega)]
 refine a3.eY ?_
 rw [eK,hk]
 exact b3
theorem a5I {p:aE} (hp:p.ok) {inp:Int} {n:Nat} (hv:sI p inp n) {h0 h:aA} {nb st:Nat} {e:aB} {env:List Int} {S:bY} {funcs:Int} (hR:g7 h0 nb p inp S st 0 h) (hst:st < 3000) (hn:3001≤n + 1 + st)
  (hok:e.ok p funcs env.length) (eM:0≤funcs) (hf:funcs≤p.aJ.length) (hg:Good inp S st) (henv:∀ x∈env,kB S x) (hel:env.length≤412 + st) (hk:e.aR = 10) :
  fE Tryz.prog 173 [.op nb 8 0 0,.agg e.c,ints env] h (aAW h0 nb p inp st 0 (cM p (n + 1) st e env S)):=by
 obtain ⟨om,og,ov,H⟩:=hR
 rw [aB.aQ]
 have hb:=H.box
 unfold cA at hb
 have e3:((st:Int) = 3000) = False:=eq_false (by omega)
 have ew:IntKind.i64.wrap ((st:Int) + 1) = ((st + 1:Nat):Int):=by rw [IntWalk.i64_in _ (by omega)];rfl
 have hnode:=(aB.cZ _ _ _ _).1 hok
 have h3:¬ st = 3000:=by omega
 have hcap:=hg.cap
 have hgcap:=hg.nC
 have iZ:=hg.kO (Nat.le_succ st)
 have y9:g7 h0 nb p inp S (st + 1) 0 (a7 h nb (cA p inp S om og ov (st + 1) 0)):=⟨_,_,_,H.set (st + 1) 0⟩
 obtain ⟨f,F⟩:=nM hp hok hf (.inl hk)
 have hkl:e.aI.length≤1048576:=by have:=F.kids;have:=F.params;omega
 refine iY 190 l7 sG sH mix Tryz.func173 rfl (by kernel_rfl) (by simp) ?_
 simp -dsimp -implicitDefEqProofs only [go_sem,↓reduceIte,Tryz.f173,hb,e3,ew,hk]
 refine aG.gQ (pL hp hv h0 _ nb (st + 1) 0 e.aI env S funcs y9 (by omega) (by omega) hkl (eQ hok (by omega)) eM hf (fun _=>⟨iZ,henv⟩) (by omega)) ?_
 rintro r h' ⟨vs,S1,t1,c1,rfl,⟨om1,og1,ov1,H1⟩,hvl,a1,a2,a3⟩
 have jP:=H1.box
 unfold cA at jP
 simp -dsimp -implicitDefEqProofs only [go_sem,↓reduceIte,Tryz.f173,jP]
 refine ⟨fun hc=>?_,fun hc=>?_⟩
 ·refine ⟨_,_,aZ _ _,0,S1,t1,c1,rfl,⟨_,_,_,H1⟩,by omega,a2,?_⟩
  rw [tL h3 hk]
  exact a3.eY (by rw [kA _ hc];exact gT _ _ hc)
 subst hc
 obtain ⟨_,e2⟩:=a3.ok rfl
 obtain ⟨q1,q2,q3,q4⟩:=fV hp iZ (by omega) henv (eQ hok (by omega)) hf _ _ e2
 simp only at q1 q2 q3
 try simp -dsimp -implicitDefEqProofs only [go_sem,↓reduceIte,Tryz.f173,hk,jP,F.get,F.out,aS.aQ,aB.ld5]
 have f1:=F.lo
 have f2:=F.hi
 have f3:=F.pk
 have f4:=F.pk2
 have f5:=F.kids
 have f6:=F.params
 refine ⟨f1,f2,f3,by omega,?_⟩
 refine aG.gQ (hv h0 _ nb t1 0 (p.out e.aW e.cB) vs S1 e.aW ⟨_,_,_,H1⟩ (by omega) (by omega) (by rw [hvl,f5];exact F.oks _ (List.mem_of_getElem? F.out)) f1 (by omega) (fun _=>⟨q1,q3.2⟩) (by omega)) ?_
 rintro r h2 ⟨k2,S2,t2,c2,rfl,nT,b1,b2,b3⟩
 simp -dsimp -implicitDefEqProofs only [go_sem,↓reduceIte,Tryz.f173]
 refine ⟨_,_,aZ _ _,k2,S2,t2,c2,rfl,nT,by omega,b2,?_⟩
 rw [tL h3 hk]
 exact a3.eY b3
theorem a5J {p:aE} (hp:p.ok) {inp:Int} {n:Nat} (hv:sI p inp n) {h0 h:aA} {nb st:Nat} {e:aB} {env:List Int} {S:bY} {funcs:Int} (hR:g7 h0 nb p inp S st 0 h) (hst:st < 3000) (hn:3001≤n + 1 + st)
  (hok:e.ok p funcs env.length) (eM:0≤funcs) (hf:funcs≤p.aJ.length) (hg:Good inp S st) (henv:∀ x∈env,kB S x) (hel:env.length≤412 + st) (hk:e.aR = 11) :
  fE Tryz.prog 173 [.op nb 8 0 0,.agg e.c,ints env] h (aAW h0 nb p inp st 0 (cM p (n + 1) st e env S)):=by
 obtain ⟨om,og,ov,H⟩:=hR
 rw [aB.aQ]
 have hb:=H.box
 unfold cA at hb
 have e3:((st:Int) = 3000) = False:=eq_false (by omega)
 have ew:IntKind.i64.wrap ((st:Int) + 1) = ((st + 1:Nat):Int):=by rw [IntWalk.i64_in _ (by omega)];rfl
 have hnode:=(aB.cZ _ _ _ _).1 hok
 have h3:¬ st = 3000:=by omega
 have hcap:=hg.cap
 have hgcap:=hg.nC
 have iZ:=hg.kO (Nat.le_succ st)
 have y9:g7 h0 nb p inp S (st + 1) 0 (a7 h nb (cA p inp S om og ov (st + 1) 0)):=⟨_,_,_,H.set (st + 1) 0⟩
 obtain ⟨f,F⟩:=nM hp hok hf (.inr hk)
 have hkl:e.aI.length≤1048576:=by have:=F.kids;have:=F.params;omega
 have f1:=F.lo
 have f2:=F.hi
 have f3:=F.pk
 have f4:=F.pk2
 have f5:=F.kids
 have f6:=F.params
 have f7:=F.loop hk
 have f8:=F.outs
 refine iY 190 l7 sG sH mix Tryz.func173 rfl (by kernel_rfl) (by simp) ?_
 simp -dsimp -implicitDefEqProofs only [go_sem,↓reduceIte,Tryz.f173,hb,e3,ew,hk]
 refine aG.gQ (pL hp hv h0 _ nb (st + 1) 0 e.aI env S funcs y9 (by omega) (by omega) hkl (eQ hok (by omega)) eM hf (fun _=>⟨iZ,henv⟩) (by omega)) ?_
 rintro r h' ⟨vs,S1,t1,c1,rfl,⟨om1,og1,ov1,H1⟩,hvl,a1,a2,a3⟩
 have jP:=H1.box
 unfold cA at jP
 simp -dsimp -implicitDefEqProofs only [go_sem,↓reduceIte,Tryz.f173,jP]
 refine ⟨fun hc=>?_,fun hc=>?_⟩
 ·refine ⟨_,_,aZ _ _,0,S1,t1,c1,rfl,⟨_,_,_,H1⟩,by omega,a2,?_⟩
  rw [tM h3 hk]
  exact a3.eY (by rw [kA _ hc];exact gT _ _ hc)
 subst hc
 obtain ⟨_,e2⟩:=a3.ok rfl
 obtain ⟨q1,q2,q3,q4⟩:=fV hp iZ (by omega) henv (eQ hok (by omega)) hf _ _ e2
 simp only at q1 q2 q3
 try simp -dsimp -implicitDefEqProofs only [go_sem,↓reduceIte,Tryz.f173,hk]
 have hiter:∀ (k:Nat) (us:List Int) (S2:bY) (t:Nat) (c:Int),j9 (mH (fun vs t S=>jF (fun t e S=>cM p n t e vs S) (p.outs e.aW) t S) k vs t1 S1) (us,S2) t c→k≤e.bZ.toNat→(¬ c = 0∨k = e.bZ.toNat)→j9 (oE 0 (cM p (n + 1) st e env S)) (us.getD e.cB.toNat 0,S2) t c:=fun k us S2 t c ho hk1 hor=>by
  rw [tM h3 hk]
  refine a3.eY ?_
  rw [eK]
  refine j9.then (v:=(us,S2)) (t:=t) (c:=c) ?_ (gX _ _ _)
  rcases hor with hc | rfl
  ·have:=ho.err hc
   rw [aG5 _ k hk1 this]
   exact gT _ _ hc
  ·exact ho
 have hfl:∀ us t S2,Good inp S2 t→(us.length = f.aL.length∧∀ x∈us,kB S2 x)→t≤3000→qS (vP inp S2 t f.aL.length) (jF (fun t e S=>cM p n t e us S) (p.outs e.aW) t S2):=fun us w S2 hg' hv' hw=>by
  rw [F.eq]
  exact fV hp hg' hw hv'.2 (funcs:=e.aW) (fun x hx=>by rw [hv'.1,f7.2.2];exact F.oks x hx) (by omega)
 refine bQ (keep:=l7) (ib:=sG) (mk:=sH) mix (by kernel_rfl) (fun x:Nat × List Int × Nat × Int × bY × aA=>[(0,.op nb 8 0 0),(4,.ip 5 [[I 11,I e.aW,I e.cB,I e.bZ,cY 5 aB.c e.aI]] 0 0),(9,ints x.2.1),(10,I x.1)]) (fun x=>x.2.2.2.2.2) (fun x=>x.1≤e.bZ.toNat∧x.2.1.length = f.aL.length∧t1≤x.2.2.1∧x.2.2.1≤3000∧j9 (mH (fun vs t S=>jF (fun t e S=>cM p n t e vs S) (p.outs e.aW) t S) x.1 vs t1 S1) (x.2.1,x.2.2.2.2.1) x.2.2.1 x.2.2.2.1∧g7 h0 nb p inp x.2.2.2.2.1 x.2.2.1 x.2.2.2.1 x.2.2.2.2.2) (fun x=>e.bZ.toNat - x.1) (0,vs,t1,0,S1,h') ⟨by simp [bU,bF],aA.le_refl _,Nat.zero_le _,by simp only;omega,Nat.le_refl _,a2,pK _ _,⟨_,_,_,H1⟩⟩ ?_
 rintro ⟨k,us,t,c,S2,g⟩ ⟨hk1,hul,ht0,ht,ho,⟨om2,og2,ov2,H2⟩⟩
 simp only at hk1 hul ht0 ht ho H2 ⊢
 have jG:=H2.box
 unfold cA at jG
 have gp:us[e.cB.toNat]? = some (us.getD e.cB.toNat 0):=b9 (by omega)
 simp -dsimp -implicitDefEqProofs only [go_sem,↓reduceIte,Tryz.f173,jG,F.get,aS.aQ,gp]
 refine ⟨fun hlt=>⟨fun hc=>⟨f1,f2,?_⟩,fun hc=>?_⟩,fun hge=>?_⟩
 ·subst hc
  obtain ⟨_,e3⟩:=j9.ok (c:=0) (by rw [eK];exact ho) rfl
  obtain ⟨w1,w2,w3,w4⟩:=qI hfl k vs t1 S1 q1 ⟨by omega,q3.2⟩ a2 _ _ e3
  simp only at w1 w2 w3
  refine aG.gQ (pL hp hv h0 _ nb t 0 f.aL us S2 e.aW ⟨_,_,_,H2⟩ ht (by omega) (by omega) (by rw [hul,f7.2.2];exact F.oks) f1 (by omega) (fun _=>⟨w1,w3.2⟩) (by omega)) ?_
  rintro r h2 ⟨l2,S3,t2,c2,rfl,nT,hl2,b1,b2,b3⟩
  simp -dsimp -implicitDefEqProofs only [go_sem,↓reduceIte,Tryz.f173]
  refine ⟨(k + 1,l2,t2,c2,S3,h2),⟨rfl,by rw [IntWalk.i64_in _ (by omega)];rfl⟩,aA.le_refl _,⟨by omega,hl2,by simp only;omega,b2,?_,nT⟩,by simp only;omega⟩
  simp only
  rw [tJ]
  refine ho.then ?_
  rw [F.eq]
  exact b3
 ·exact ⟨f3,by omega,_,_,aZ _ _,_,S2,t,c,rfl,⟨_,_,_,H2⟩,by omega,ht,hiter k us S2 t c ho hk1 (.inl hc)⟩
 ·exact ⟨f3,by omega,_,_,aZ _ _,_,S2,t,c,rfl,⟨_,_,_,H2⟩,by omega,ht,hiter k us S2 t c ho hk1 (.inr (by omega))⟩
theorem reg {p:aE} (hp:p.ok) {inp:Int}:∀ n,sI p inp n
 |0=>fun h0 h nb st c e env S funcs hb hst hn=>by omega
 |n + 1=>fun h0 h nb st c e env S funcs hb hst hn hok eM hf hgo hel=>by
  have hv:=reg hp (inp:=inp) n
  by_cases hs:¬ c = 0∨st = 3000
  ·exact aWC hb hst hs
  have hc:c = 0:=Classical.byContradiction fun q=>hs (.inl q)
  have h3:st < 3000:=by
   rcases Nat.lt_or_ge st 3000 with h | h
   ·exact h
   ·exact absurd (.inr (by omega)) hs
  subst hc
  obtain ⟨hg,henv⟩:=hgo rfl
  rcases pW ((aB.cZ _ _ _ _).1 hok).1 with hk | hk | hk | hk | hk | hk | hk | hk | hk | hk | hk
  ·exact bA1 hp hv hb h3 hn hok eM hf hg henv hel hk
  ·exact bA2 hp hv hb h3 hn hok eM hf hg henv hel hk
  ·exact bA5 hp hv hb h3 hn hok eM hf hg henv hel hk
  ·exact bA6 hp hv hb h3 hn hok eM hf hg henv hel hk
  ·exact bA7 hp hv hb h3 hn hok eM hf hg henv hel hk
  ·exact bA8 hp hv hb h3 hn hok eM hf hg henv hel hk
  ·exact bA9 hp hv hb h3 hn hok eM hf hg henv hel hk
  ·exact bA4 hp hv hb h3 hn hok eM hf hg henv hel hk
  ·exact bA3 hp hv hb h3 hn hok eM hf hg henv hel hk
  ·exact a5I hp hv hb h3 hn hok eM hf hg henv hel hk
  ·exact a5J hp hv hb h3 hn hok eM hf hg henv hel hk
structure jS where
 gM:Int
 aM:List aY
 kV:List dT
 aL:List Int
def jS.c (x:jS):List aC:=[I x.gM,cY 4 aY.c x.aM,cY 2 dT.c x.kV,ints x.aL]
theorem jS.aQ (x:jS):x.c = [I x.gM,cY 4 aY.c x.aM,cY 2 dT.c x.kV,ints x.aL]:=rfl
def nQ (p:aE) (f:Int) (args:List Int):jS × Int:=match rP p f args with
 | .ok ((l,S),_)=>(⟨args.length,S.code,S.guards,l⟩,0)
 | .error c=>(⟨0,[],[],[]⟩,c)
theorem qT.seal {bx:bY→Option Nat→Option Nat→Option Nat→bH} {h0 h F hh:aA} {nb:Nat} {inp:Int} {S:bY} {om og ov:Option Nat} (H:qT bx h0 nb S om og ov h) (l:List Int) (d:Int)
  (hF:∀ n,some n = om∨some n = og→F n = h n) (hl:hh.le F) (hn:∀ n,some n = om∨some n = og→hh n = none) :
  Shift (.gW [.agg [I inp,mQ 4 S.code.length om,mQ 2 S.guards.length og,ints l],I d]) F (.gW [.agg [I inp,cY 4 aY.c S.code,cY 2 dT.c S.guards,ints l],I d]) hh:=by
 have hc:=H.code
 have hg:=H.gds
 have ap:=H.apart
 cases om with
 |none =>
  have pC:S.code = []:=fY.1 hc
  cases og with
  |none =>
   have hg0:S.guards = []:=fY.1 hg
   rw [pC,hg0]
   exact Shift.of (Sub.gW (.cons (Sub.agg (.cons (.refl _) (.cons (Sub.nil _ _) (.cons (Sub.nil _ _) (.cons (.refl _) .nil))))) (.cons (.refl _) .nil))) hl
  |some g =>
   have hgF:=(hF g (.inr rfl)).trans hg.2
   rw [pC]
   refine Shift.trans (Shift.of (Sub.gW (.cons (Sub.agg (.cons (.refl _) (.cons (Sub.nil 4 false) (.cons (.refl _) (.cons (.refl _) .nil))))) (.cons (.refl _) .nil))) (aA.le_refl F)) ?_
   refine fH (n:=g) (sz:=2) (S.guards.map dT.c) (hn g (.inr rfl)) ?_ (by simp [dF,dG,mQ]) ?_
   ·intro q
    by_cases e:q = g
    ·subst e;right;rw [aH];exact hgF.symm
    ·rw [aF _ _ _ _ e];exact hl q
   ·simp [aC.cR,iF,mQ,List.take_of_length_le]
 |some m =>
  have hmF:=(hF m (.inl rfl)).trans hc.2
  cases og with
  |none =>
   have hg0:S.guards = []:=fY.1 hg
   rw [hg0]
   refine Shift.trans (Shift.of (Sub.gW (.cons (Sub.agg (.cons (.refl _) (.cons (.refl _) (.cons (Sub.nil 2 false) (.cons (.refl _) .nil))))) (.cons (.refl _) .nil))) (aA.le_refl F)) ?_
   refine fH (n:=m) (sz:=4) (S.code.map aY.c) (hn m (.inl rfl)) ?_ (by simp [dF,dG,mQ]) ?_
   ·intro q
    by_cases e:q = m
    ·subst e;right;rw [aH];exact hmF.symm
    ·rw [aF _ _ _ _ e];exact hl q
   ·simp [aC.cR,iF,mQ,List.take_of_length_le]
  |some g =>
   have hgF:=(hF g (.inr rfl)).trans hg.2
   have hne:¬ g = m:=fun e=>((ap g).2.1 (by rw [e])).1 rfl
   refine Shift.trans (b:=.gW [.agg [I inp,mQ 4 S.code.length (some m),cY 2 dT.c S.guards,ints l],I d]) (h2:=a7 hh m (.row 4 (rowsOf aY.c S.code))) ?_ ?_
   ·refine fH (n:=g) (sz:=2) (S.guards.map dT.c) (by rw [aF _ _ _ _ hne];exact hn g (.inr rfl)) ?_ (by simp [dF,dG,mQ];exact fun e=>hne e.symm) ?_
    ·intro q
     by_cases e:q = g
     ·subst e;right;rw [aH];exact hgF.symm
     ·rw [aF _ _ _ _ e]
      by_cases e2:q = m
      ·subst e2;right;rw [aH];exact hmF.symm
      ·rw [aF _ _ _ _ e2];exact hl q
    ·have hne':¬ m = g:=fun e=>hne e.symm
     simp [aC.cR,iF,mQ,List.take_of_length_le,hne']
   ·refine fH (n:=m) (sz:=4) (S.code.map aY.c) (hn m (.inl rfl)) (aA.le_refl _) (by simp [dF,dG,mQ]) ?_
    simp [aC.cR,iF,mQ,List.take_of_length_le]
theorem qT.keep {h0 h:aA} {nb:Nat} {bx:bY→Option Nat→Option Nat→Option Nat→bH} {S:bY} {om og ov:Option Nat} (H:qT bx h0 nb S om og ov h) {n:Nat} {o:bH} (hn:h0 n = some o):h n = some o∧¬ n = nb∧¬ some n = om∧¬ some n = og∧¬ some n = ov:=by
 have hne:∀ q,¬ (q = nb∨some q = om∨some q = og∨some q = ov)∨h0 q = .none:=fun q=>by
  by_cases e:q = nb∨some q = om∨some q = og∨some q = ov
  ·exact .inr (H.fresh q e)
  ·exact .inl e
 have h1:¬ (n = nb∨some n = om∨some n = og∨some n = ov):=by
  rcases hne n with e | e
  ·exact e
  ·rw [hn] at e;cases e
 have e1:¬ n = nb:=fun e=>h1 (.inl e)
 have e2:¬ some n = om:=fun e=>h1 (.inr (.inl e))
 have e3:¬ some n = og:=fun e=>h1 (.inr (.inr (.inl e)))
 have e4:¬ some n = ov:=fun e=>h1 (.inr (.inr (.inr e)))
 exact ⟨(H.upto n e1 e2 e3 e4).trans hn,e1,e2,e3,e4⟩
theorem qT.le {h0 h:aA} {nb:Nat} {bx:bY→Option Nat→Option Nat→Option Nat→bH} {S:bY} {om og ov:Option Nat} (H:qT bx h0 nb S om og ov h):h0.le h:=fun q=>by
 cases e:h0 q with
 |none=>exact .inl rfl
 |some o=>right;exact (H.keep e).1.symm
theorem aOO {h0:aA} {nb:Nat} (p:aE) (inp:Int) (hn:h0 nb = none):g7 h0 nb p inp ⟨[],[],[]⟩ 0 0 (a7 h0 nb (cA p inp ⟨[],[],[]⟩ none none none 0 0)) :=
 ⟨none,none,none,aH _ _ _,aES _ _ _ _,rfl,rfl,rfl,fun n h=>(by rcases h with rfl | h | h | h;exact hn;cases h;cases h;cases h),fun n h1 _ _ _=>aF _ _ _ _ h1⟩
def uN (args:List Int) (k:Nat):bY:=⟨(List.range k).map fun i:Nat=>⟨1,0,0,(i:Int)⟩,args.take k,[]⟩
def zB (k:Nat):List Int:=(List.range k).map fun i:Nat=>(i:Int)
theorem aL4 (args:List Int):uN args args.length = inS args:=by rw [uN,List.take_length];rfl
theorem wK {args:List Int} {k:Nat} (hk:k < args.length):uN args (k + 1) = (uN args k).put ⟨1,0,0,(k:Int)⟩ args[k]:=by
 rw [uN,uN,bY.put,List.range_succ,List.map_append,List.take_succ_eq_append_getElem hk];rfl
theorem aG7 (k:Nat):zB (k + 1) = zB k ++ [(k:Int)]:=by rw [zB,zB,List.range_succ,List.map_append];rfl
@[go_sem] def aWD:List Nat:=[0,1,2,3,6,7,8,9,10,11,12,28,30,44,45,46,47,77]
@[go_sem] def bBA:List Nat:=[3,43,57]
@[go_sem] def bBB:Marks:=fun id=>match id with | 6=>([9],(.op 0 (.op 1 (.op 2 (.op 3 (.op 4 (.op 5 (.op 6 (.op 7 (.op 8 (.op 9 (.op 10 .nil))))))))))),[]) | 15=>([4,5],(.op 0 (.op 1 (.op 2 (.op 3 (.op 4 (.op 5 (.op 6 .nil))))))),[(4,5)]) | _=>([],.nil,[])
theorem aWE {p:aE} (hp:p.ok) (hps:p.s≤4194304) (f:Int) (hf:0≤f∧f < p.aJ.length) (args:List Int) (ha:hH args) (a5K:args.length≤12) (hl:∀ F,p.aJ[f.toNat]? = some F→(args.length:Int) = F.a9) :
  dI Tryz.prog 29 [.agg p.c,I f,ints args] (.gW [.agg (nQ p f args).1.c,I (nQ p f args).2]):=by
 have hif:=aVE p f hps
 obtain ⟨F,ef,hF1,hF2,hF3,hF4⟩:=wH hp hf
 have hla:=hl F ef
 rw [if_pos hp,if_pos (by omega)] at hif
 simp only [aE.aQ] at hif ⊢
 have han:=qB args F.a9
 rw [decide_eq_true (show (args.length:Int) = F.a9∧hH args from ⟨hla,ha⟩)] at han
 refine j7 87 aWD bBA bBB mix Tryz.func29 rfl (by kernel_rfl) (by simp) fun h=>?_
 simp -dsimp -implicitDefEqProofs only [go_sem,↓reduceIte,Tryz.f29,ef,aS.aQ]
 intro n6 z6
 try simp -dsimp -implicitDefEqProofs only [go_sem,↓reduceIte,Tryz.f29,ef,aS.aQ]
 first | refine aG.mk (hif) ?_ | refine aD.mk (hif) ?_ | refine aG.a5 (hif) ?_ | refine aD.mk (aX.cD (hif)) ?_
 simp -dsimp -implicitDefEqProofs only [go_sem,↓reduceIte,Tryz.f29,ef,aS.aQ]
 refine ⟨hf.1,hf.2,?_⟩
 first | refine aG.mk (han) ?_ | refine aD.mk (han) ?_ | refine aG.a5 (han) ?_ | refine aD.mk (aX.cD (han)) ?_
 simp -dsimp -implicitDefEqProofs only [go_sem,↓reduceIte,Tryz.f29,ef,aS.aQ]
 refine ⟨hf.1,hf.2,fun nb ⟨hb6,zb⟩=>⟨Nat.zero_lt_one,fun _=>?_⟩⟩
 have tP:¬ nb = n6:=hb6
 have aI4:¬ n6 = nb:=Ne.symm tP
 have zC:(nb = n6) = False:=eq_false tP
 have zD:(n6 = nb) = False:=eq_false aI4
 generalize hh6:a7 h n6 (.row 4 [[.v (.int .i64 0),.v .bO,.v .bO,.v .bO]]) = h6
 have zb6:h6 nb = none:=by rw [← hh6,aF _ _ _ _ tP];exact zb
 have hin:=aOO (h0:=h6) p F.a9 zb6
 refine bQ (keep:=aWD) (ib:=bBA) (mk:=bBB) mix (by kernel_rfl) (fun x:Nat × aA × Option Nat=>[(1,I f),(3,.ip 1 [[cY 3 aS.c p.aJ]] 0 0),(6,.op n6 4 0 0),(9,.op nb 8 0 0),(10,eU 1 x.1 x.2.2),(44,ints args),(45,I args.length),(46,I x.1)]) (fun x=>gB x.2.1 (.row 1 (((zB x.1).map fun n=>[I n]).map (List.map .v))) x.2.2) (fun x=>x.1≤args.length∧g7 h6 nb p F.a9 (uN args x.1) 0 0 x.2.1∧eF x.2.1 (zB x.1) x.2.2) (fun x=>args.length - x.1) (0,a7 h6 nb (cA p F.a9 ⟨[],[],[]⟩ none none none 0 0),none) ⟨by simp [bU,bF,eU],aA.le_refl _,Nat.zero_le _,hin,rfl⟩ ?_
 rintro ⟨k,g,o⟩ ⟨hk,hR,hos⟩
 simp only at hk hR hos ⊢
 have hel:(zB k).length = k:=by simp [zB]
 rcases Nat.lt_or_ge k args.length with hlt | hge
 ·have ek:args[k]? = some args[k]:=List.getElem?_eq_getElem hlt
  have hsl:(uN args k).code.length = (uN args k).dU.length:=by simp [uN];omega
  have hvl:(uN args k).dU.length = k:=by simp [uN];omega
  have hy:=aG7 k
  cases o with
  |none =>
   rw [a6] at hos
   have k0:k = 0:=by rw [← hel,hos];rfl
   subst k0
   simp -dsimp -implicitDefEqProofs only [go_sem,↓reduceIte,Tryz.f29,a8,aP,hlt,ek]
   refine aG.gQ (aET hR ⟨1,0,0,((0:Nat):Int)⟩ args[0] hsl (by omega)) ?_
   rintro r h' ⟨rfl,lD⟩
   simp -dsimp -implicitDefEqProofs only [go_sem,↓reduceIte,Tryz.f29]
   refine ⟨Nat.zero_lt_one,Nat.zero_lt_one,Nat.zero_lt_one,fun b jG=>⟨(1,h',some b),⟨rfl,by rw [IntWalk.i64_in _ (by omega)];rfl⟩,?_,⟨hlt,by rw [wK hlt];exact lD,jG⟩,by simp only;omega⟩⟩
   rw [hvl]
   exact aA.le_refl _
  |some m =>
   rw [aU] at hos
   simp -dsimp -implicitDefEqProofs only [go_sem,↓reduceIte,Tryz.f29,aT,aK,hlt,ek]
   refine aG.gQ (aET (hR.uM hos) ⟨1,0,0,(k:Int)⟩ args[k] hsl (by omega)) ?_
   rintro r h' ⟨rfl,lD⟩
   obtain ⟨g2,rfl,hg2,lD⟩:=lD.base (hR.none hos)
   simp -dsimp -implicitDefEqProofs only [go_sem,↓reduceIte,Tryz.f29]
   refine ⟨Nat.zero_lt_one,Nat.zero_lt_one,Nat.zero_lt_one,Nat.le_of_eq hel.symm,by omega,by omega,fun b ⟨hbm,jG⟩=>⟨(k + 1,g2,some b),⟨rfl,by rw [IntWalk.i64_in _ (by omega)];rfl⟩,?_,⟨hlt,by rw [wK hlt];exact lD,jG⟩,by simp only;omega⟩⟩
   simp only [aK]
   rw [hvl,hy,← dQ (fun n=>I n),hel]
   exact iX hg2
 ·have hk':k = args.length:=by omega
  subst hk'
  rw [aL4] at hR
  have hg0:=y7 args ha a5K
  rw [hla] at hg0
  have hie:zB args.length = zY args:=rfl
  have hall:∀ {h0 g:aA},g7 h0 nb p F.a9 (inS args) 0 0 g→fE Tryz.prog 101 [.op nb 8 0 0,cY 5 aB.c F.aL,ints (zY args)] g (a2T h0 nb p F.a9 0 0 F.aL.length (jF (fun t e S=>cM p 3001 t e (zY args) S) F.aL 0 (inS args))):=fun hR =>
   pL hp (reg hp 3001) _ _ nb 0 0 F.aL (zY args) (inS args) f hR (by omega) (by omega) (by omega) (fun x hx=>by rw [← hie,hel,hla];exact hF4 x hx) hf.1 (by omega) (fun _=>⟨hg0,aIR args⟩) (by rw [← hie,hel];omega)
  cases o with
  |none =>
   rw [a6,hie] at hos
   simp -dsimp -implicitDefEqProofs only [go_sem,↓reduceIte,Tryz.f29,a8,aP,Nat.lt_irrefl,Int.lt_irrefl,ef,aS.aQ]
   refine ⟨hf.1,hf.2,aG.gQ (fE.sub (.cons (.refl _) (.cons (.refl _) (.cons (by rw [hos];exact Sub.loose _ _ _) .nil))) (hall hR)) ?_⟩
   rintro r h2 ⟨l,S2,t2,c2,rfl,⟨om,og,ov,H2⟩,hll,a1,a2,a3⟩
   have jG:=H2.box
   unfold cA at jG
   have hz:=H2.keep (n:=n6) (by rw [← hh6,aH])
   have hz1:=hz.1
   simp -dsimp -implicitDefEqProofs only [go_sem,↓reduceIte,Tryz.f29,jG,hz1,zC,zD,aF]
   generalize hE:h2 = h2H at *
   have hle:h.le h2H:=by
    have h1:=H2.le
    rw [← hh6] at h1
    intro q
    by_cases e:q = n6
    ·subst e;exact .inl z6
    ·have:=h1 q
     rwa [aF _ _ _ _ e] at this
   have hfr:∀ n,some n = om∨some n = og→h n = none∧¬ n = n6∧¬ n = nb:=fun n hn=>by
    have h1:=H2.fresh n (by rcases hn with hn | hn;exact .inr (.inl hn);exact .inr (.inr (.inl hn)))
    have h3:¬ n = n6:=fun e=>by rw [← hh6,e,aH] at h1;cases h1
    refine ⟨by rwa [← hh6,aF _ _ _ _ h3] at h1,h3,fun e=>?_⟩
    rcases hn with hn | hn
    ·exact ((H2.apart n).1 e).1 hn
    ·exact ((H2.apart n).1 e).2.1 hn
   refine ⟨fun hc=>?_,fun hc=>⟨by rw [mY,mY];rfl,?_⟩⟩
   ·have e2:nQ p f args = (⟨0,[],[],[]⟩,c2):=by
     rw [eK] at a3
     rw [nQ,rP,hF3,a3.err hc]
    rw [e2]
    exact Shift.of (Sub.gW (.cons (Sub.agg (.cons (.refl _) (.cons (Sub.nil 4 false) (.cons (Sub.nil 2 false) (.cons (Sub.nil 1 false) .nil))))) (.cons (.refl _) .nil))) (aA.bI z6 (aA.bI zb (hle)))
   ·obtain ⟨_,e1⟩:=a3.ok hc
    have e2:nQ p f args = (⟨args.length,S2.code,S2.guards,l⟩,0):=by
     rw [nQ,rP,hF3,e1]
    rw [e2,jS.aQ,hla]
    refine H2.seal l 0 (fun n hn=>?_) (aA.bI z6 (aA.bI zb (hle))) (fun n hn=>(hfr n hn).1)
    obtain ⟨v1,v2,v3⟩:=hfr n hn
    rw [aF _ _ _ _ v2,aF _ _ _ _ v3]
  |some m =>
   rw [aU] at hos
   simp -dsimp -implicitDefEqProofs only [go_sem,↓reduceIte,Tryz.f29,aT,aK,Nat.lt_irrefl,Int.lt_irrefl,ef,aS.aQ]
   have dM:¬ nb = m:=fun e=>by obtain ⟨_,_,_,H1⟩:=hR;have:=H1.box;rw [e,hos] at this;cases this
   have eI:¬ m = nb:=Ne.symm dM
   have dZ:(nb = m) = False:=eq_false dM
   have dY:(m = nb) = False:=eq_false eI
   refine ⟨hf.1,hf.2,aG.aEL rfl rfl dM (by rw [List.length_map];exact hel.symm) hos ?_⟩
   refine fE.mono (hall (hR.uM (o:=.gone) hos)) ?_
   rintro r h2 ⟨l,S2,t2,c2,rfl,lD,hll,a1,a2,a3⟩
   obtain ⟨g3,rfl,hg3,⟨om,og,ov,H2⟩⟩:=lD.base (hR.none hos)
   have jG:=H2.box
   unfold cA at jG
   have hz:=H2.keep (n:=n6) (by rw [← hh6,aH])
   have hz1:=hz.1
   have xR:¬ n6 = m:=fun e=>by rw [e,hg3] at hz1;cases hz1
   have aOP:¬ m = n6:=Ne.symm xR
   have aOQ:(n6 = m) = False:=eq_false xR
   have aOR:(m = n6) = False:=eq_false aOP
   simp -dsimp -implicitDefEqProofs only [go_sem,↓reduceIte,Tryz.f29,jG,hz1,zC,dZ,zD,aOQ,dY,aOR,aF]
   have hgo:∀ n,some n = om∨some n = og→¬ n = m:=fun n hn e=>by
    have:=(H2.apart n).2.2.2 (by rw [e];exact hg3)
    rcases hn with hn | hn
    ·exact this.2.1 hn
    ·exact this.2.2.1 hn
   have hhm:h m = none:=by
    have h1:=hR.none hos
    rw [← hh6,aF _ _ _ _ (fun e=>xR e.symm)] at h1
    exact h1
   generalize hE:g3 = h2H at *
   have hle:h.le h2H:=by
    have h1:=H2.le
    rw [← hh6] at h1
    intro q
    by_cases e:q = n6
    ·subst e;exact .inl z6
    ·have:=h1 q
     rwa [aF _ _ _ _ e] at this
   have hfr:∀ n,some n = om∨some n = og→h n = none∧¬ n = n6∧¬ n = nb:=fun n hn=>by
    have h1:=H2.fresh n (by rcases hn with hn | hn;exact .inr (.inl hn);exact .inr (.inr (.inl hn)))
    have h3:¬ n = n6:=fun e=>by rw [← hh6,e,aH] at h1;cases h1
    refine ⟨by rwa [← hh6,aF _ _ _ _ h3] at h1,h3,fun e=>?_⟩
    rcases hn with hn | hn
    ·exact ((H2.apart n).1 e).1 hn
    ·exact ((H2.apart n).1 e).2.1 hn
   refine ⟨fun hc=>?_,fun hc=>⟨by rw [mY,mY];rfl,?_⟩⟩
   ·have e2:nQ p f args = (⟨0,[],[],[]⟩,c2):=by
     rw [eK] at a3
     rw [nQ,rP,hF3,a3.err hc]
    rw [e2]
    exact Shift.of (Sub.gW (.cons (Sub.agg (.cons (.refl _) (.cons (Sub.nil 4 false) (.cons (Sub.nil 2 false) (.cons (Sub.nil 1 false) .nil))))) (.cons (.refl _) .nil))) (aA.bI z6 (aA.bI zb (aA.bI hhm hle)))
   ·obtain ⟨_,e1⟩:=a3.ok hc
    have e2:nQ p f args = (⟨args.length,S2.code,S2.guards,l⟩,0):=by
     rw [nQ,rP,hF3,e1]
    rw [e2,jS.aQ,hla]
    refine H2.seal l 0 (fun n hn=>?_) (aA.bI z6 (aA.bI zb (aA.bI hhm hle))) (fun n hn=>(hfr n hn).1)
    obtain ⟨v1,v2,v3⟩:=hfr n hn
    rw [aF _ _ _ _ v2,aF _ _ _ _ v3,aF _ _ _ _ (hgo n hn)]
def opW (k:Int) (a b:List Int):List Int:=if k = 3 then j8 a b else if k = 4 then jQ a b else if k = 5 then mulL a b else if k = 7 then gS a 1000002 else gH a b
def uJ (sz:Nat) (args rs:List (List Int)) (c:aY):List Int:=if c.fX = 1 then args.getD c.aW.toNat [] else if c.fX = 2 then bJ c.aW sz else opW c.fX (rs.getD c.fA.toNat []) (rs.getD c.fB.toNat [])
def hJ (sz:Nat) (args:List (List Int)) (code:List aY):Nat→List (List Int)
 |0=>[]
 |k + 1=>hJ sz args code k ++ [uJ sz args (hJ sz args code k) (code.getD k ⟨0,0,0,0⟩)]
theorem jT (sz:Nat) (args:List (List Int)) (code:List aY):∀ k,(hJ sz args code k).length = k
 |0=>rfl
 |k + 1=>by rw [hJ,List.length_append,jT sz args code k];rfl
theorem oZ (sz:Nat) (args:List (List Int)) (code:List aY) {r k:Nat} (hr:r < k):∀ n,k≤n→(hJ sz args code n).getD r [] = (hJ sz args code k).getD r []
 |0,h=>by omega
 |n + 1,h=>by
  rcases Nat.lt_or_ge n k with h1 | h1
  ·have:k = n + 1:=by omega
   rw [this]
  ·rw [← oZ sz args code hr n h1,hJ,List.getD_eq_getElem?_getD,List.getElem?_append_left (by rw [jT];omega),List.getD_eq_getElem?_getD]
def lR (sz:Nat) (args:List (List Int)) (code:List aY) (r:Nat):List Int:=(hJ sz args code code.length).getD r []
theorem aI5 {sz:Nat} {args:List (List Int)} {code:List aY} {k:Nat} {c:aY} (e:code[k]? = some c):lR sz args code k = uJ sz args (hJ sz args code k) c:=by
 have h:=(List.getElem?_eq_some_iff.1 e).1
 rw [lR,oZ sz args code (Nat.lt_succ_self k) code.length h,hJ,List.getD_eq_getElem?_getD,List.getElem?_append_right (by rw [jT];exact Nat.le_refl _),jT,Nat.sub_self,List.getD_eq_getElem?_getD,e];rfl
theorem aWF {sz:Nat} {args:List (List Int)} {code:List aY} {k:Nat} {c:aY} (e:code[k]? = some c) (h1:c.fX = 1):lR sz args code k = args.getD c.aW.toNat []:=by rw [aI5 e,uJ,if_pos h1]
theorem aRL {sz:Nat} {args:List (List Int)} {code:List aY} {k:Nat} {c:aY} (e:code[k]? = some c) (h1:c.fX = 2):lR sz args code k = bJ c.aW sz:=by rw [aI5 e,uJ,if_neg (by omega),if_pos h1]
theorem aWG {sz:Nat} {args:List (List Int)} {code:List aY} {inp:Int} {k:Nat} {c:aY} (e:code[k]? = some c) (hi:bK inp k c) (h1:¬ c.fX = 1) (h2:¬ c.fX = 2):lR sz args code k = opW c.fX (lR sz args code c.fA.toNat) (lR sz args code c.fB.toNat):=by
 have h:=(List.getElem?_eq_some_iff.1 e).1
 unfold bK at hi
 rw [aI5 e,uJ,if_neg h1,if_neg h2,lR,lR,oZ sz args code (k:=k) (by omega) code.length (by omega),oZ sz args code (k:=k) (by omega) code.length (by omega)]
theorem aZX {sz:Nat} (k:Int) {a b:List Int} (ha:bD sz a) (hb:bD sz b):bD sz (opW k a b):=by
 unfold opW
 repeat' split
 ·exact m4 ha hb
 ·exact lB ha hb
 ·exact cE _ ha
 ·exact fO _ ha
 ·exact lC _ ha
theorem tQ {sz:Nat} {args:List (List Int)} {code:List aY} {inp:Int} (hi:∀ i c,code[i]? = some c→bK inp i c) (ha:∀ s∈args,bD sz s) (hl:(args.length:Int) = inp) (k:Nat) (hk:k < code.length):bD sz (lR sz args code k):=by
 induction k using Nat.strongRecOn with
 |ind k ih =>
  have e:=List.getElem?_eq_getElem hk
  have hc:=hi k _ e
  generalize code[k] = c at e hc
  by_cases h1:c.fX = 1
  ·rw [aWF e h1]
   unfold bK at hc
   exact wG ha (by omega)
  by_cases h2:c.fX = 2
  ·rw [aRL e h2]
   have hn:fP c.aW:=by rcases hc with q | q | q | q <;> first | exact q.2.2.2 | (have:=q.1;omega)
   exact gN hn
  ·rw [aWG e hc h1 h2]
   unfold bK at hc
   exact aZX _ (ih _ (by omega) (by omega)) (ih _ (by omega) (by omega))
theorem a5M {sz:Nat} (hsz:1≤sz) {k:Int} {a b:List Int} (ha:a.length = sz) (hb:b.length = sz) {v:Int} (h:opV k (a.getD 0 0) (b.getD 0 0) = some v):(opW k a b).getD 0 0 = v:=by
 obtain ⟨x,a',rfl⟩:∃ x a',a = x :: a':=by
  cases a with
  |nil=>simp at ha;omega
  |cons x a'=>exact ⟨x,a',rfl⟩
 obtain ⟨y,b',rfl⟩:∃ x a',b = x :: a':=by
  cases b with
  |nil=>simp at hb;omega
  |cons x a'=>exact ⟨x,a',rfl⟩
 have g:∀ (z:Int) (l:List Int),(z :: l).getD 0 0 = z:=fun _ _=>rfl
 rw [g,g] at h
 unfold opV at h
 unfold opW
 by_cases h3:k = 3
 ·rw [if_pos h3] at h ⊢
  rw [← Option.some.inj h];rfl
 rw [if_neg h3] at h ⊢
 by_cases h4:k = 4
 ·rw [if_pos h4] at h ⊢
  rw [← Option.some.inj h]
  show (x + y * 1000002 % 1000003) % 1000003 = _
  omega
 rw [if_neg h4] at h ⊢
 by_cases h5:k = 5
 ·rw [if_pos h5] at h ⊢
  obtain ⟨t,e⟩:=aAQ x a' (y :: b')
  rw [e,← Option.some.inj h];rfl
 rw [if_neg h5] at h ⊢
 by_cases h7:k = 7
 ·rw [if_pos h7] at h ⊢
  rw [← Option.some.inj h]
  show x * 1000002 % 1000003 = _
  omega
 rw [if_neg h7] at h ⊢
 by_cases hy:y = 0
 ·rw [if_pos hy] at h;cases h
 ·rw [if_neg hy] at h
  obtain ⟨t,e⟩:=wD x a' (y :: b') a'.length
  rw [gH,List.length_cons,e,← Option.some.inj h];rfl
theorem then_ok {α β:Type} {x:Out α} {f:α→Nat→Out β} {w:β} {u:Nat} (h:x.andThen f = .ok (w,u)):∃ v t,x = .ok (v,t)∧f v t = .ok (w,u):=by
 cases x with
 |ok p=>obtain ⟨v,t⟩:=p;exact ⟨v,t,rfl,h⟩
 |error c=>cases h
structure aZY (inp:Int) (F:bY) (N:Nat→Prop):Prop where
 ins:∀ i c,F.code[i]? = some c→bK inp i c
 ops:∀ (i:Nat) (c:aY),F.code[i]? = some c→N i→(3≤c.fX∧c.fX≤6→N c.fA.toNat∧N c.fB.toNat)∧(c.fX = 7→N c.fA.toNat)
 gds:∀ g∈F.guards,N g.aS8.toNat
 div:∀ (i:Nat) (c:aY),F.code[i]? = some c→c.fX = 6→N c.fB.toNat
def HD (rg:Nat→List Int) (N:Nat→Prop) (S:bY):Prop:=(∀ i,i < S.dU.length→N i→(rg i).getD 0 0 = S.dU.getD i 0)∧∀ (i:Nat) (c:aY),S.code[i]? = some c→c.fX = 6→¬ S.val c.fB = 0
def aTA (rg:Nat→List Int) (F:bY) (N:Nat→Prop) (X:Out (Int × bY)) (Y:Out (List Int)):Prop:=∀ r S' u,X = .ok ((r,S'),u)→S'.ext F→Y = .ok (rg r.toNat,u)∧HD rg N S'
def aZZ (rg:Nat→List Int) (F:bY) (N:Nat→Prop) (X:Out (List Int × bY)) (Y:Out (List (List Int))):Prop:=∀ r S' u,X = .ok ((r,S'),u)→S'.ext F→Y = .ok (r.map fun k=>rg k.toNat,u)∧HD rg N S'
theorem sJ {rg:Nat→List Int} {F:bY} {N:Nat→Prop} {ev:Nat→aB→bY→Out (Int × bY)} {ev':Nat→aB→Out (List Int)} {inp:Int}:∀ (l:List aB) (t:Nat) (S:bY),Good inp S t→t≤3000→HD rg N S→(∀ e∈l,∀ u S',Good inp S' u→S.ext S'→lH S t S' u→qS (aEM inp S' u) (ev u e S')∧(HD rg N S'→aTA rg F N (ev u e S') (ev' u e)))→aZZ rg F N (jF ev l t S) (lP ev' l t)
 | [],t,S,hg,ht,hd,_=>fun r S' u h _=>by
  cases h
  exact ⟨rfl,hd⟩
 |e :: l,t,S,hg,ht,hd,h=>fun r S' u hx he=>by
  obtain ⟨h1,h2⟩:=h e List.mem_cons_self t S hg S.qH (.refl ht)
  rw [jF] at hx
  obtain ⟨⟨r1,S1⟩,t1,e1,hx⟩:=then_ok hx
  obtain ⟨q1,q2,q3,q4⟩:=h1 _ _ e1
  simp only at hx q1 q2 q3 q4
  obtain ⟨⟨rs,S2⟩,t2,e2,hx⟩:=then_ok hx
  cases hx
  have hl:=fun x hx u' S' a b c=>h x (List.mem_cons_of_mem _ hx) u' S' a (q2.trans b) (q4.trans c)
  have hk:=jR l t1 S1 q1 q4.2.2.2 (fun x hx u' S' a b c=>(hl x hx u' S' a b c).1) _ _ e2
  obtain ⟨a1,a2⟩:=h2 hd r1 S1 t1 e1 (hk.2.1.trans he)
  obtain ⟨b1,b2⟩:=sJ l t1 S1 q1 q4.2.2.2 a2 hl rs _ _ e2 he
  rw [lP,a1,Out.andThen_ok,b1]
  exact ⟨rfl,b2⟩
theorem aG8 {rg:Nat→List Int} {F:bY} {N:Nat→Prop} {f:List Int→Nat→bY→Out (List Int × bY)} {g:List (List Int)→Nat→Out (List (List Int))} {inp:Int} {m:Nat} (h:∀ vs t S,Good inp S t→(vs.length = m∧∀ x∈vs,kB S x)→t≤3000→qS (vP inp S t m) (f vs t S)∧(HD rg N S→aZZ rg F N (f vs t S) (g (vs.map fun k=>rg k.toNat) t))) :
  ∀ (n:Nat) (vs:List Int) (t:Nat) (S:bY),Good inp S t→(vs.length = m∧∀ x∈vs,kB S x)→t≤3000→HD rg N S→aZZ rg F N (mH f n vs t S) (qE g n (vs.map fun k=>rg k.toNat) t)
 |0,vs,t,S,hg,hv,ht,hd=>fun r S' u hx _=>by
  cases hx
  exact ⟨rfl,hd⟩
 |n + 1,vs,t,S,hg,hv,ht,hd=>fun r S' u hx he=>by
  obtain ⟨h1,h2⟩:=h vs t S hg hv ht
  rw [mH] at hx
  obtain ⟨⟨r1,S1⟩,t1,e1,hx⟩:=then_ok hx
  obtain ⟨q1,q2,q3,q4⟩:=h1 _ _ e1
  simp only at hx q1 q2 q3 q4
  have hk:=qI (fun vs t S a b c=>(h vs t S a b c).1) n r1 t1 S1 q1 q3 q4.2.2.2 _ _ hx
  obtain ⟨a1,a2⟩:=h2 hd r1 S1 t1 e1 (hk.2.1.trans he)
  obtain ⟨b1,b2⟩:=aG8 h n r1 t1 S1 q1 q3 q4.2.2.2 a2 r S' u hx he
  rw [qE,a1,Out.andThen_ok,b1]
  exact ⟨rfl,b2⟩
theorem aWH {S F:bY} {inp:Int} {t:Nat} {c:aY} {v:Int} (hg:Good inp S t) (he:(S.put c v).ext F):F.code[S.dU.length]? = some c:=by
 obtain ⟨x,hx⟩:=he.1
 rw [← hx,bY.put,List.append_assoc,List.getElem?_append_right (by rw [hg.len];exact Nat.le_refl _),hg.len,Nat.sub_self];rfl
theorem HD.put {rg:Nat→List Int} {N:Nat→Prop} {S:bY} (h:HD rg N S) {inp:Int} {t:Nat} (hg:Good inp S t) {c:aY} {v:Int} (hv:N S.dU.length→(rg S.dU.length).getD 0 0 = v) (hz:c.fX = 6→¬ S.val c.fB = 0∧kB S c.fB):HD rg N (S.put c v):=by
 refine ⟨fun i hi hn=>?_,fun i d hd h6=>?_⟩
 ·rw [bY.put,List.length_append,List.length_singleton] at hi
  show _ = (S.dU ++ [v]).getD i 0
  rw [List.getD_eq_getElem?_getD (l:=S.dU ++ [v])]
  rcases Nat.lt_or_ge i S.dU.length with h1 | h1
  ·rw [List.getElem?_append_left h1,← List.getD_eq_getElem?_getD];exact h.1 i h1 hn
  ·obtain rfl:i = S.dU.length:=by omega
   rw [List.getElem?_append_right (Nat.le_refl _),Nat.sub_self];exact hv hn
 ·have hx:=S.aCN c v
  rcases Nat.lt_or_ge i S.code.length with h1 | h1
  ·rw [bY.put,List.getElem?_append_left h1] at hd
   have hin:=hg.ins i d hd
   have hl:=hg.len
   unfold bK at hin
   rw [hx.val (by omega) (by omega)]
   exact h.2 i d hd h6
  ·rw [bY.put,List.getElem?_append_right h1] at hd
   obtain ⟨h2,h3⟩:=List.getElem?_eq_some_iff.1 hd
   simp at h2 h3
   subst h3
   rw [hx.val (hz h6).2.1 (hz h6).2.2]
   exact (hz h6).1
theorem qJ {rg:Nat→List Int} {l:List Int} {i:Nat} (hi:i < l.length):(l.map fun k=>rg k.toNat).getD i [] = rg (l.getD i 0).toNat:=by
 simp [List.getD_eq_getElem?_getD,List.getElem?_eq_getElem hi]
theorem aZ0 {sz:Nat} (hsz:1≤sz) {args:List (List Int)} {inp:Int} {F:bY} {N:Nat→Prop} (C:aZY inp F N) (ha:∀ s∈args,bD sz s) (hl:(args.length:Int) = inp) {k:Int} {vs:List Int} {S:bY} {t m:Nat} (hk:k = 3∨k = 4∨k = 5∨k = 6∨k = 7) (hm:vs.length = m∧∀ x∈vs,kB S x) (hm1:1≤m) (hm2:¬ k = 7→2≤m) (hg:Good inp S t) (hd:HD (lR sz args F.code) N S):aTA (lR sz args F.code) F N (xO k vs S t) (opE k (vs.map fun k=>lR sz args F.code k.toNat) t):=fun r S' u hx he=>by
 have at_:∀ i,i < m→kB S (vs.getD i 0):=fun i hi=>by
  rw [List.getD_eq_getElem?_getD,List.getElem?_eq_getElem (by omega)]
  exact hm.2 _ (List.getElem_mem _)
 unfold xO at hx
 split at hx
 ·cases hx
 rename_i v hv
 cases hx
 have ec:=aWH hg he
 have hin:=C.ins _ _ ec
 have hrs:=fun i (hi:i < F.code.length)=>tQ (sz:=sz) C.ins ha hl i hi
 have hF:S.dU.length < F.code.length:=(List.getElem?_eq_some_iff.1 ec).1
 have e0:=aWG (sz:=sz) (args:=args) ec hin (by simp only;omega) (by simp only;omega)
 simp only at e0
 have i0:=at_ 0 (by omega)
 have iB:0≤opB k vs∧opB k vs < S.dU.length:=by
  unfold opB
  split
  ·unfold kB at i0;omega
  ·rename_i h7
   exact at_ 1 (hm2 h7)
 have s0:=hrs (vs.getD 0 0).toNat (by unfold kB at i0;omega)
 have s1:=hrs (opB k vs).toNat (by omega)
 have hN:N S.dU.length→N (vs.getD 0 0).toNat∧(¬ k = 7→N (opB k vs).toNat):=fun hn=>by
  have ho:=C.ops _ _ ec hn
  simp only at ho
  by_cases h7:k = 7
  ·exact ⟨ho.2 h7,fun q=>absurd h7 q⟩
  ·have h36:=ho.1 (by omega)
   exact ⟨h36.1,fun _=>h36.2⟩
 have hd0:∀ x:Int,0≤x∧x < S.dU.length→N x.toNat→(lR sz args F.code x.toNat).getD 0 0 = S.val x:=fun x hx hn=>hd.1 x.toNat (by omega) hn
 have hzz:k = 6→¬ S.val (opB k vs) = 0:=fun q q2=>by
  rw [q2,q,opV,if_neg (by decide),if_neg (by decide),if_neg (by decide),if_neg (by decide),if_pos rfl] at hv
  cases hv
 refine ⟨?_,hd.put hg (fun hn=>?_) (fun q=>⟨hzz q,iB⟩)⟩
 ·rw [Int.toNat_natCast,e0]
  have g0:=qJ (rg:=lR sz args F.code) (l:=vs) (i:=0) (by omega)
  unfold opE opW
  rcases hk with rfl | rfl | rfl | rfl | rfl
  all_goals simp only [reduceCtorEq,if_true,if_false,Int.reduceEq]
  ·rw [g0,qJ (rg:=lR sz args F.code) (i:=1) (by have:=hm2 (by decide);omega)];rfl
  ·rw [g0,qJ (rg:=lR sz args F.code) (i:=1) (by have:=hm2 (by decide);omega)];rfl
  ·rw [g0,qJ (rg:=lR sz args F.code) (i:=1) (by have:=hm2 (by decide);omega)];rfl
  ·have hdv:=C.div _ _ ec rfl
   have e6:=hd0 _ iB hdv
   rw [show opB 6 vs = vs.getD 1 0 from rfl] at e6
   rw [g0,qJ (rg:=lR sz args F.code) (i:=1) (by have:=hm2 (by decide);omega),e6]
   rw [show opB 6 vs = vs.getD 1 0 from rfl] at hv
   have hz:¬ S.val (vs.getD 1 0) = 0:=fun q=>by
    rw [opV,if_neg (by decide),if_neg (by decide),if_neg (by decide),if_neg (by decide),if_pos q] at hv
    cases hv
   rw [if_neg hz];rfl
  ·rw [g0]
 ·obtain ⟨n0,n1⟩:=hN hn
  rw [e0]
  refine a5M hsz s0.1 s1.1 ?_
  rw [hd0 _ i0 n0]
  by_cases h7:k = 7
  ·subst h7
   rw [← hv];rfl
  ·rw [hd0 _ iB (n1 h7)];exact hv
theorem aL5 {p:aE} (hp:p.ok) {sz:Nat} (hsz:1≤sz) {args:List (List Int)} {inp:Int} {F:bY} {N:Nat→Prop} (C:aZY inp F N) (ha:∀ s∈args,bD sz s) (hl:(args.length:Int) = inp):∀ (n t:Nat) (e:aB) (env:List Int) (S:bY) (funcs:Int),e.ok p funcs env.length→funcs≤p.aJ.length→Good inp S t→t≤3000→(∀ x∈env,kB S x)→HD (lR sz args F.code) N S→aTA (lR sz args F.code) F N (cM p n t e env S) (jD p sz n t e (env.map fun k=>lR sz args F.code k.toNat))
 |0,t,e,env,S,funcs,_,_,_,_,_,_=>fun r S' u hx _=>by rw [cM] at hx;cases hx
 |n + 1,t,e,env,S,funcs,hok,hf,hg,ht,henv,hd=>by
  have ih:=aL5 hp hsz C ha hl n
  have io:=lO hp (inp:=inp) n
  have hnode:=((aB.cZ _ _ _ _).1 hok).1
  by_cases h3:t = 3000
  ·intro r S' u hx _
   rw [cM,if_pos h3] at hx;cases hx
  have iZ:=hg.kO (Nat.le_succ t)
  have hcap:=hg.cap
  have hgcap:=hg.nC
  have henvE:∀ {S'},S.ext S'→∀ x∈env,kB S' x:=fun e x hx=>(henv x hx).ext e
  have kidsS:¬ e.aR = 9→∀ x∈e.aI,∀ u S',Good inp S' u→S.ext S'→lH S (t + 1) S' u→qS (aEM inp S' u) (cM p n u x env S')∧(HD (lR sz args F.code) N S'→aTA (lR sz args F.code) F N (cM p n u x env S') (jD p sz n u x (env.map fun k=>lR sz args F.code k.toNat))):=fun h9 x hx u S' a b c =>
   ⟨io u x env S' funcs (eQ hok h9 x hx) hf a c.2.2.2 (henvE b),fun hd'=>ih u x env S' funcs (eQ hok h9 x hx) hf a c.2.2.2 (henvE b) hd'⟩
  intro r S' u hx he
  rcases pW hnode with hk | hk | hk | hk | hk | hk | hk | hk | hk | hk | hk
  ·rw [aEN h3 hk] at hx
   rw [aVR h3 hk]
   cases hx
   have ec:=aWH hg he
   have er:=aRL (sz:=sz) (args:=args) ec rfl
   rw [Int.toNat_natCast,er]
   refine ⟨rfl,hd.put hg (fun _=>?_) (fun q=>absurd (show (2:Int) = 6 from q) (by decide))⟩
   rw [er]
   obtain ⟨w,rfl⟩:∃ w,sz = w + 1:=⟨sz - 1,by omega⟩
   simp [bJ,List.replicate_succ]
  ·rw [aEO h3 hk] at hx
   rw [aVS h3 hk]
   cases hx
   have hn:=((eO (by omega)).1 hnode).2.2.2.2.1 hk
   exact ⟨by rw [qJ (by omega)],hd⟩
  iterate 5
   ·have hlen:=dC hok (by omega)
    rw [hk] at hlen
    rw [jA h3 (by omega)] at hx
    rw [aIO h3 (by omega)]
    have hs:=kidsS (by omega)
    obtain ⟨⟨rs,S1⟩,t1,e1,hx⟩:=then_ok hx
    simp only at hx
    have hrk:=jR _ _ S iZ (by omega) (fun x hx u S' a b c=>(hs x hx u S' a b c).1) _ _ e1
    obtain ⟨r1,r2,r3,r4⟩:=hrk
    have hex:S1.ext S':=by
     have zX:=hx
     unfold xO at zX
     split at zX
     ·cases zX
     ·cases zX;exact S1.aCN _ _
    obtain ⟨a1,a2⟩:=sJ _ _ S iZ (by omega) hd hs _ _ _ e1 (hex.trans he)
    rw [a1,Out.andThen_ok]
    exact aZ0 hsz C ha hl (by omega) r3 (by unfold fG at hlen;simp at hlen;omega) (fun q=>by unfold fG at hlen;simp at hlen;omega) r1 a2 _ _ _ hx he
  ·have hlen:=dC hok (by omega)
   rw [hk,show fG 8 = 3 from rfl] at hlen
   have o0:=aB.fD hok (i:=0) (by omega)
   have o1:=aB.fD hok (i:=1) (by omega)
   have o2:=aB.fD hok (i:=2) (by omega)
   rw [iC (by omega)] at o0 o1 o2
   rw [tK h3 hk] at hx
   rw [aQ3 h3 hk]
   obtain ⟨⟨rr,S1⟩,t1,e1,hx⟩:=then_ok hx
   simp only at hx
   obtain ⟨r1,r2,r3,r4⟩:=io _ _ _ _ _ o0 hf iZ (by omega) henv _ _ e1
   simp only at r1 r2 r3 r4
   have r4':=r4
   unfold lH at r4'
   have go:∀ (b:Bool) (k:aB),k.ok p funcs env.length→cM p n t1 k env (S1.guard ⟨rr,b⟩) = .ok ((r,S'),u)→(S1.ext F∧N rr.toNat)∧(HD (lR sz args F.code) N S1→jD p sz n t1 k (env.map fun k=>lR sz args F.code k.toNat) = .ok (lR sz args F.code r.toNat,u)∧HD (lR sz args F.code) N S'):=fun b k hk hq=>by
    have hx1:S1.ext (S1.guard ⟨rr,b⟩):=S1.kK _
    have hgd:=r1.guard (b:=b) r3 (by omega)
    obtain ⟨q1,q2,q3,q4⟩:=io t1 k env _ _ hk hf hgd (by omega) (henvE (r2.trans hx1)) _ _ hq
    simp only at q2
    refine ⟨⟨hx1.trans (q2.trans he),?_⟩,fun hdd=>ih t1 k env _ _ hk hf hgd (by omega) (henvE (r2.trans hx1)) hdd _ _ _ hq he⟩
    have hm:(⟨rr,b⟩:dT)∈F.guards:=by
     have h1:(⟨rr,b⟩:dT)∈(S1.guard ⟨rr,b⟩).guards:=by simp [bY.guard]
     exact (q2.trans he).2.2.subset h1
    exact C.gds _ hm
   by_cases hz:S1.val rr = 0
   ·rw [if_pos hz] at hx
    obtain ⟨⟨g1,g2⟩,g3⟩:=go _ _ o1 hx
    obtain ⟨a1,a2⟩:=ih _ _ _ _ _ o0 hf iZ (by omega) henv hd _ _ _ e1 g1
    rw [a1,Out.andThen_ok,if_pos (by rw [a2.1 rr.toNat (by unfold kB at r3;omega) g2];exact hz)]
    exact g3 a2
   ·rw [if_neg hz] at hx
    obtain ⟨⟨g1,g2⟩,g3⟩:=go _ _ o2 hx
    obtain ⟨a1,a2⟩:=ih _ _ _ _ _ o0 hf iZ (by omega) henv hd _ _ _ e1 g1
    rw [a1,Out.andThen_ok,if_neg (by rw [a2.1 rr.toNat (by unfold kB at r3;omega) g2];exact hz)]
    exact g3 a2
  ·have hlen:=dC hok (by omega)
   rw [hk,show fG 9 = 2 from rfl] at hlen
   have o0:=aB.fD hok (i:=0) (by omega)
   have o1:=aB.fD hok (i:=1) (by omega)
   rw [iC (by omega)] at o0
   rw [hk,show kG 9 1 (env.length:Int) = env.length + 1 from rfl] at o1
   rw [aEP h3 hk] at hx
   rw [aVT h3 hk]
   obtain ⟨⟨rr,S1⟩,t1,e1,hx⟩:=then_ok hx
   simp only at hx
   obtain ⟨r1,r2,r3,r4⟩:=io _ _ _ _ _ o0 hf iZ (by omega) henv _ _ e1
   simp only at r1 r2 r3 r4
   have bBC:∀ x∈env ++ [rr],kB S1 x:=fun x hx=>by
    rcases List.mem_append.1 hx with hx | hx
    ·exact henvE r2 x hx
    ·rw [List.mem_singleton.1 hx];exact r3
   obtain ⟨q1,q2,q3,q4⟩:=io t1 (e.mC 1) (env ++ [rr]) S1 funcs (by rw [List.length_append];exact o1) hf r1 r4.2.2.2 bBC _ _ hx
   obtain ⟨a1,a2⟩:=ih _ _ _ _ _ o0 hf iZ (by omega) henv hd _ _ _ e1 (q2.trans he)
   rw [a1,Out.andThen_ok]
   have:=ih t1 (e.mC 1) (env ++ [rr]) S1 funcs (by rw [List.length_append];exact o1) hf r1 r4.2.2.2 bBC a2 _ _ _ hx he
   rwa [List.map_append] at this
  ·obtain ⟨f,Fc⟩:=nM hp hok hf (.inl hk)
   have f2:=Fc.hi
   have f4:=Fc.pk2
   rw [tL h3 hk] at hx
   rw [aOG h3 hk]
   have hs:=kidsS (by omega)
   obtain ⟨⟨rs,S1⟩,t1,e1,hx⟩:=then_ok hx
   simp only at hx
   obtain ⟨r1,r2,r3,r4⟩:=jR _ _ S iZ (by omega) (fun x hx u S' a b c=>(hs x hx u S' a b c).1) _ _ e1
   simp only at r1 r2 r3 r4
   have hco:(p.out e.aW e.cB).ok p e.aW rs.length:=by rw [r3.1,Fc.kids];exact Fc.oks _ (List.mem_of_getElem? Fc.out)
   obtain ⟨q1,q2,q3,q4⟩:=io t1 _ rs S1 e.aW hco (by omega) r1 r4.2.2.2 r3.2 _ _ hx
   obtain ⟨a1,a2⟩:=sJ _ _ S iZ (by omega) hd hs _ _ _ e1 (q2.trans he)
   rw [a1,Out.andThen_ok]
   exact ih t1 _ rs S1 e.aW hco (by omega) r1 r4.2.2.2 r3.2 a2 _ _ _ hx he
  ·obtain ⟨f,Fc⟩:=nM hp hok hf (.inr hk)
   have f2:=Fc.hi
   have f4:=Fc.pk2
   have f9:=Fc.loop hk
   rw [tM h3 hk] at hx
   rw [aOH h3 hk]
   have hs:=kidsS (by omega)
   obtain ⟨⟨rs,S1⟩,t1,e1,hx⟩:=then_ok hx
   simp only at hx
   obtain ⟨r1,r2,r3,r4⟩:=jR _ _ S iZ (by omega) (fun x hx u S' a b c=>(hs x hx u S' a b c).1) _ _ e1
   simp only at r1 r2 r3 r4
   obtain ⟨⟨rs2,S2⟩,t2,e2,hx⟩:=then_ok hx
   cases hx
   have hfl:∀ vs t S,Good inp S t→(vs.length = f.aL.length∧∀ x∈vs,kB S x)→t≤3000→qS (vP inp S t f.aL.length) (jF (fun t e S=>cM p n t e vs S) (p.outs e.aW) t S)∧(HD (lR sz args F.code) N S→aZZ (lR sz args F.code) F N (jF (fun t e S=>cM p n t e vs S) (p.outs e.aW) t S) (lP (fun t e=>jD p sz n t e (vs.map fun k=>lR sz args F.code k.toNat)) (p.outs e.aW) t)):=fun vs w S' hg' hv hw=>by
    rw [Fc.eq]
    have zX:∀ x∈f.aL,∀ u S'',Good inp S'' u→S'.ext S''→lH S' w S'' u→qS (aEM inp S'' u) (cM p n u x vs S'')∧(HD (lR sz args F.code) N S''→aTA (lR sz args F.code) F N (cM p n u x vs S'') (jD p sz n u x (vs.map fun k=>lR sz args F.code k.toNat))):=fun x hx u S'' a b c =>
     ⟨io u x vs S'' e.aW (by rw [hv.1,f9.2.2];exact Fc.oks x hx) (by omega) a c.2.2.2 fun y hy=>(hv.2 y hy).ext b,fun hdd=>ih u x vs S'' e.aW (by rw [hv.1,f9.2.2];exact Fc.oks x hx) (by omega) a c.2.2.2 (fun y hy=>(hv.2 y hy).ext b) hdd⟩
    exact ⟨jR _ _ S' hg' hw fun x hx u S'' a b c=>(zX x hx u S'' a b c).1,fun hdd=>sJ _ _ S' hg' hw hdd zX⟩
   have qQ:rs.length = f.aL.length∧∀ x∈rs,kB S1 x:=⟨by have:=r3.1;have:=Fc.kids;omega,r3.2⟩
   have hk2:=qI (inp:=inp) (m:=f.aL.length) (fun vs t S a b c=>(hfl vs t S a b c).1) _ _ _ _ r1 qQ r4.2.2.2 _ _ e2
   obtain ⟨a1,a2⟩:=sJ _ _ S iZ (by omega) hd hs _ _ _ e1 (hk2.2.1.trans he)
   rw [a1,Out.andThen_ok]
   obtain ⟨b1,b2⟩:=aG8 (inp:=inp) (m:=f.aL.length) (g:=fun vs t=>lP (fun t e=>jD p sz n t e vs) (p.outs e.aW) t) hfl _ _ _ _ r1 qQ r4.2.2.2 a2 _ _ _ e2 he
   rw [b1,Out.andThen_ok]
   exact ⟨by rw [qJ (by have:=hk2.2.2.1.1;simp only at this;omega)],b2⟩
theorem aTB {p:aE} (hp:p.ok) {sz:Nat} (hsz:1≤sz) {f:Int} (hf:0≤f∧f < p.aJ.length) {kQ:List Int} (ha0:hH kQ) (hl0:∀ G,p.aJ[f.toNat]? = some G→(kQ.length:Int) = G.a9) {L:List Int} {F:bY} {u:Nat} (hX:rP p f kQ = .ok ((L,F),u)) {N:Nat→Prop} (C:aZY kQ.length F N) {args:List (List Int)} (ha:∀ s∈args,bD sz s) (hl:args.length = kQ.length) (hd:∀ i,i < kQ.length→N i→(args.getD i []).getD 0 0 = kQ.getD i 0) :
  evF p sz f args = .ok (L.map fun k=>lR sz args F.code k.toNat,u)∧HD (lR sz args F.code) N F:=by
 obtain ⟨G,ef,hF1,hF2,hF3,hF4⟩:=wH hp hf
 have hla:=hl0 G ef
 have hg:=y7 kQ ha0 (by omega)
 have hin:=aIR kQ
 have hel:(zY kQ).length = kQ.length:=by simp [zY]
 obtain ⟨q1,q2,q3,q4⟩:=(aIS hp f hf kQ ha0 hl0).1 _ _ hX
 simp only at q1 q2 q3 q4
 have hcode:∀ i,i < kQ.length→F.code[i]? = some ⟨1,0,0,(i:Int)⟩:=fun i hi=>by
  obtain ⟨x,hx⟩:=q2.1
  rw [← hx,List.getElem?_append_left (by simp [inS];exact hi)]
  simp [inS,hi]
 have hrg:∀ i,i < kQ.length→lR sz args F.code i = args.getD i []:=fun i hi=>by
  rw [aWF (hcode i hi) rfl,Int.toNat_natCast]
 have hd0:HD (lR sz args F.code) N (inS kQ):=⟨fun i hi hn=>by
  have hi':i < kQ.length:=hi
  rw [hrg i hi'];exact hd i hi' hn,fun i c hc h6=>by
  obtain ⟨h1,h2⟩:=List.getElem?_eq_some_iff.1 hc
  simp [inS] at h1 h2
  subst h2
  simp at h6⟩
 have hmap:(zY kQ).map (fun k=>lR sz args F.code k.toNat) = args:=by
  apply List.ext_getElem
  ·rw [List.length_map,hel,hl]
  ·intro i h1 h2
   rw [List.getElem_map]
   have e1:(zY kQ)[i]'(by rw [hel];omega) = (i:Int):=by simp [zY]
   rw [e1,Int.toNat_natCast,hrg i (by omega),List.getD_eq_getElem?_getD,List.getElem?_eq_getElem h2];rfl
 have zX:∀ x∈p.outs f,∀ u S'',Good kQ.length S'' u→(inS kQ).ext S''→lH (inS kQ) 0 S'' u→qS (aEM kQ.length S'' u) (cM p 3001 u x (zY kQ) S'')∧(HD (lR sz args F.code) N S''→aTA (lR sz args F.code) F N (cM p 3001 u x (zY kQ) S'') (jD p sz 3001 u x args)):=fun x hx u S'' a b c=>by
  have hxo:x.ok p f (zY kQ).length:=by rw [hel,hla];exact hF4 x (by rw [← hF3];exact hx)
  refine ⟨lO hp _ u x _ S'' f hxo (by omega) a c.2.2.2 fun y hy=>(hin y hy).ext b,fun hdd=>?_⟩
  have:=aL5 hp hsz C ha (by omega) 3001 u x (zY kQ) S'' f hxo (by omega) a c.2.2.2 (fun y hy=>(hin y hy).ext b) hdd
  rwa [hmap] at this
 exact sJ _ _ _ hg (by omega) hd0 zX _ _ _ hX F.qH
theorem aTC {n i k:Nat} (h:¬ i = k):(vO n i).getD k 0 = 0:=by
 rw [vO,List.getD_eq_getElem?_getD,List.getElem?_set_ne h,List.getElem?_replicate]
 split <;> rfl
theorem tR (n i:Nat):hH (vO n i):=fun x hx=>by
 rcases List.mem_or_eq_of_mem_set hx with hx | rfl
 ·rw [(List.mem_replicate.1 hx).2];unfold fP;omega
 ·unfold fP;omega
def mF (l:List Int):bH:=.row 1 ((l.map fun n=>[I n]).map (List.map .v))
theorem aL6 (l:List aB) (left:Int) (h0:0≤left) (h1:left≤1048576) (hc:∀ x∈l,∀ left:Int,0≤left→left≤1048576→dI Tryz.prog 207 [(.agg (aB.c x)),I left] (I (x5 left ((aB.s x))))):dI Tryz.prog 182 [cY 5 aB.c l,I left] (I (x5 left (qR aB.s l))):=by
 refine dJ 27 aGW bM bC mix Tryz.func182 rfl (by kernel_rfl) (by simp) fun h=>?_
 simp -dsimp -implicitDefEqProofs only [go_sem,Tryz.f182,↓reduceIte]
 intro hl
 rw [IntWalk.i64_in _ (by omega)]
 refine ⟨fun hn=>?_,fun hn=>?_⟩
 ·exact (oJ (by rw [fM];omega)).symm
 ·refine bQ (keep:=aGW) (ib:=bM) (mk:=bC) mix (by kernel_rfl) (fun k:Nat=>[(0,cY 5 aB.c l),(1,I (left - l.length - (((l.take k).map aB.s).sum:Int))),(5,I k)]) (fun _=>h) (fun k=>k≤l.length∧0≤left - l.length - (((l.take k).map aB.s).sum:Int)) (fun k=>l.length - k) 0 (by simp [bU,bF,aA.le_refl];omega) ?_
  intro k ⟨hk,hb⟩
  rcases Nat.lt_or_ge k l.length with hlt | hge
  ·have ea:l[k]? = some l[k]:=List.getElem?_eq_getElem hlt
   simp -dsimp -implicitDefEqProofs only [go_sem,↓reduceIte,Tryz.f182,ea,aB.aQ]
   refine fun _=>⟨fun _=>⟨hlt,?_⟩,fun hn=>absurd hlt hn⟩
   have hx:=hc l[k] (List.getElem_mem hlt) (left - l.length - (((l.take k).map aB.s).sum:Int)) (by omega) (by omega)
   simp only [aB.aQ] at hx
   refine aG.mk hx ?_
   have hs:=gK aB.s l k hlt
   have hs':=lU aB.s l (k + 1)
   try dsimp only at hs
   rcases oB (left - l.length - (((l.take k).map aB.s).sum:Int)) ((aB.s l[k])) with ⟨e,hl1⟩ | ⟨e,hl1⟩
   ·simp -dsimp -implicitDefEqProofs only [go_sem,↓reduceIte,Tryz.f182,e]
    exact (oJ (by rw [fM];omega)).symm
   ·have uS:(left - l.length - (((l.take k).map aB.s).sum:Int) - ((aB.s l[k]):Int) < 0) = False:=eq_false (by omega)
    simp -dsimp -implicitDefEqProofs only [go_sem,↓reduceIte,Tryz.f182,e,uS]
    refine ⟨k + 1,⟨?_,?_⟩,⟨by omega,by rw [hs];omega⟩,by omega⟩
    ·rw [hs];omega
    ·rw [IntWalk.i64_in _ (by omega)];rfl
  ·have hk':k = l.length:=by omega
   subst hk'
   simp -dsimp -implicitDefEqProofs only [go_sem,↓reduceIte,Tryz.f182,Nat.lt_irrefl]
   refine fun _=>?_
   rw [List.take_length] at hb ⊢
   rw [tB (by rw [fM];omega),fM]
   omega
theorem aI6 (x:aB) (left:Int) (h0:0≤left) (h1:left≤1048576) (hk:∀ left:Int,0≤left→left≤1048576→dI Tryz.prog 182 [(cY 5 aB.c x.aI),I left] (I (x5 left (qR aB.s x.aI)))):dI Tryz.prog 207 [.agg x.c,I left] (I (x5 left x.s)):=by
 rw [aB.oD]
 simp only [aB.aQ]
 refine dJ 12 a2D aN9 bC mix Tryz.func207 rfl (by kernel_rfl) (by simp) fun h=>?_
 simp -dsimp -implicitDefEqProofs only [go_sem,Tryz.f207,↓reduceIte]
 refine aG.mk (hk left (by omega) (by omega)) ?_
 rcases oB left (qR aB.s x.aI) with ⟨e,hl1⟩ | ⟨e,hl1⟩
 ·simp -dsimp -implicitDefEqProofs only [go_sem,↓reduceIte,Tryz.f207,e]
 ·have uS:(left - ((qR aB.s x.aI):Int) < 0) = False:=eq_false (by omega)
  simp -dsimp -implicitDefEqProofs only [go_sem,↓reduceIte,Tryz.f207,e,uS]
 try (rw [tB (by omega)];omega)
theorem aRM (x:aB) (left:Int) (h0:0≤left) (h1:left≤1048576):dI Tryz.prog 207 [.agg x.c,I left] (I (x5 left x.s)) :=
 aI6 x left h0 h1 fun left h0 h1=>aL6 x.aI left h0 h1 fun y hy left h0 h1=>aRM y left h0 h1
termination_by SizeOf.sizeOf x
decreasing_by exact aB.qA hy
@[go_sem] def aZ1:List Nat:=[0,1,2,4,11,17]
theorem aZ2 (x:aS) (left:Int) (h0:0≤left) (h1:left≤1048576):dI Tryz.prog 123 [.agg x.c,I left] (I (x5 left x.s)):=by
 rw [aS.oD]
 simp only [aS.aQ]
 refine dJ 19 aZ1 aN9 bC mix Tryz.func123 rfl (by kernel_rfl) (by simp) fun h=>?_
 simp -dsimp -implicitDefEqProofs only [go_sem,Tryz.f123,↓reduceIte]
 refine fun hl0=>?_
 rw [IntWalk.i64_in _ (by omega)]
 generalize hL0:left - ((x.iA.length:Nat):Int) = L0
 refine ⟨fun hn=>(oJ (by omega)).symm,fun hn0=>?_⟩
 refine aG.mk (aL6 x.aL (L0) (by omega) (by omega) (fun x _ left h0 h1=>aRM x left h0 h1)) ?_
 generalize hL1:x5 (L0) (qR aB.s x.aL) = L1
 simp -dsimp -implicitDefEqProofs only [go_sem,↓reduceIte,Tryz.f123]
 have jC:=aD8 hL1
 refine ⟨fun hn=>(oJ (by have:=jC.1 hn;omega)).symm,fun uS=>?_⟩
 have hp1:=jC.2 uS
 clear jC hL1
 try (rw [tB (by omega)];omega)
theorem aWJ (l:List aS) (left:Int) (h0:0≤left) (h1:left≤1048576) (hc:∀ x∈l,∀ left:Int,0≤left→left≤1048576→dI Tryz.prog 123 [(.agg (aS.c x)),I left] (I (x5 left ((aS.s x))))):dI Tryz.prog 46 [cY 3 aS.c l,I left] (I (x5 left (qR aS.s l))):=by
 refine dJ 27 aGW bM bC mix Tryz.func46 rfl (by kernel_rfl) (by simp) fun h=>?_
 simp -dsimp -implicitDefEqProofs only [go_sem,Tryz.f46,↓reduceIte]
 intro hl
 rw [IntWalk.i64_in _ (by omega)]
 refine ⟨fun hn=>?_,fun hn=>?_⟩
 ·exact (oJ (by rw [fM];omega)).symm
 ·refine bQ (keep:=aGW) (ib:=bM) (mk:=bC) mix (by kernel_rfl) (fun k:Nat=>[(0,cY 3 aS.c l),(1,I (left - l.length - (((l.take k).map aS.s).sum:Int))),(5,I k)]) (fun _=>h) (fun k=>k≤l.length∧0≤left - l.length - (((l.take k).map aS.s).sum:Int)) (fun k=>l.length - k) 0 (by simp [bU,bF,aA.le_refl];omega) ?_
  intro k ⟨hk,hb⟩
  rcases Nat.lt_or_ge k l.length with hlt | hge
  ·have ea:l[k]? = some l[k]:=List.getElem?_eq_getElem hlt
   simp -dsimp -implicitDefEqProofs only [go_sem,↓reduceIte,Tryz.f46,ea,aS.aQ]
   refine fun _=>⟨fun _=>⟨hlt,?_⟩,fun hn=>absurd hlt hn⟩
   have hx:=hc l[k] (List.getElem_mem hlt) (left - l.length - (((l.take k).map aS.s).sum:Int)) (by omega) (by omega)
   simp only [aS.aQ] at hx
   refine aG.mk hx ?_
   have hs:=gK aS.s l k hlt
   have hs':=lU aS.s l (k + 1)
   try dsimp only at hs
   rcases oB (left - l.length - (((l.take k).map aS.s).sum:Int)) ((aS.s l[k])) with ⟨e,hl1⟩ | ⟨e,hl1⟩
   ·simp -dsimp -implicitDefEqProofs only [go_sem,↓reduceIte,Tryz.f46,e]
    exact (oJ (by rw [fM];omega)).symm
   ·have uS:(left - l.length - (((l.take k).map aS.s).sum:Int) - ((aS.s l[k]):Int) < 0) = False:=eq_false (by omega)
    simp -dsimp -implicitDefEqProofs only [go_sem,↓reduceIte,Tryz.f46,e,uS]
    refine ⟨k + 1,⟨?_,?_⟩,⟨by omega,by rw [hs];omega⟩,by omega⟩
    ·rw [hs];omega
    ·rw [IntWalk.i64_in _ (by omega)];rfl
  ·have hk':k = l.length:=by omega
   subst hk'
   simp -dsimp -implicitDefEqProofs only [go_sem,↓reduceIte,Tryz.f46,Nat.lt_irrefl]
   refine fun _=>?_
   rw [List.take_length] at hb ⊢
   rw [tB (by rw [fM];omega),fM]
   omega
theorem aOS (x:aE) (left:Int) (h0:0≤left) (h1:left≤1048576):dI Tryz.prog 7 [.agg x.c,I left] (I (x5 left x.s)):=by
 rw [aE.oD]
 simp only [aE.aQ]
 refine dJ 12 a2D aN9 bC mix Tryz.func7 rfl (by kernel_rfl) (by simp) fun h=>?_
 simp -dsimp -implicitDefEqProofs only [go_sem,Tryz.f7,↓reduceIte]
 refine aG.mk (aWJ x.aJ left (by omega) (by omega) (fun x _ left h0 h1=>aZ2 x left h0 h1)) ?_
 rcases oB left (qR aS.s x.aJ) with ⟨e,hl1⟩ | ⟨e,hl1⟩
 ·simp -dsimp -implicitDefEqProofs only [go_sem,↓reduceIte,Tryz.f7,e]
 ·have uS:(left - ((qR aS.s x.aJ):Int) < 0) = False:=eq_false (by omega)
  simp -dsimp -implicitDefEqProofs only [go_sem,↓reduceIte,Tryz.f7,e,uS]
 try (rw [tB (by omega)];omega)
@[go_sem] def a5N:List Nat:=[0,1,4,10]
theorem aTD (sz:Nat) (es:List (List aC)) (tg:Bool) (left:Int) (h0:0≤left) (h1:left≤1048576):dI Tryz.prog 66 [.sl sz es tg,I left] (I (x5 left es.length)):=by
 refine dJ 12 a5N bM bC mix Tryz.func66 rfl (by kernel_rfl) (by simp) fun h=>?_
 simp -dsimp -implicitDefEqProofs only [go_sem,Tryz.f66,↓reduceIte]
 intro hl
 rw [IntWalk.i64_in _ (by omega)]
 refine ⟨fun hn=>?_,fun hn=>?_⟩
 ·exact (oJ hn).symm
 ·exact (tB (by omega)).symm
theorem aOT (l:List (List Int)) (left:Int) (h0:0≤left) (h1:left≤1048576) (hc:∀ x∈l,∀ left:Int,0≤left→left≤1048576→dI Tryz.prog 66 [(cY 1 (fun n=>[I n]) x),I left] (I (x5 left (x.length)))):dI Tryz.prog 19 [cY 1 (fun x=>[cY 1 (fun n=>[I n]) x]) l,I left] (I (x5 left (qR (fun x:List Int=>x.length) l))):=by
 refine dJ 27 aGW bM bC mix Tryz.func19 rfl (by kernel_rfl) (by simp) fun h=>?_
 simp -dsimp -implicitDefEqProofs only [go_sem,Tryz.f19,↓reduceIte]
 intro hl
 rw [IntWalk.i64_in _ (by omega)]
 refine ⟨fun hn=>?_,fun hn=>?_⟩
 ·exact (oJ (by rw [fM];omega)).symm
 ·refine bQ (keep:=aGW) (ib:=bM) (mk:=bC) mix (by kernel_rfl) (fun k:Nat=>[(0,cY 1 (fun x=>[cY 1 (fun n=>[I n]) x]) l),(1,I (left - l.length - (((l.take k).map (fun x:List Int=>x.length)).sum:Int))),(5,I k)]) (fun _=>h) (fun k=>k≤l.length∧0≤left - l.length - (((l.take k).map (fun x:List Int=>x.length)).sum:Int)) (fun k=>l.length - k) 0 (by simp [bU,bF,aA.le_refl];omega) ?_
  intro k ⟨hk,hb⟩
  rcases Nat.lt_or_ge k l.length with hlt | hge
  ·have ea:l[k]? = some l[k]:=List.getElem?_eq_getElem hlt
   simp -dsimp -implicitDefEqProofs only [go_sem,↓reduceIte,Tryz.f19,ea]
   refine fun _=>⟨fun _=>⟨hlt,?_⟩,fun hn=>absurd hlt hn⟩
   have hx:=hc l[k] (List.getElem_mem hlt) (left - l.length - (((l.take k).map (fun x:List Int=>x.length)).sum:Int)) (by omega) (by omega)
   refine aG.mk hx ?_
   have hs:=gK (fun x:List Int=>x.length) l k hlt
   have hs':=lU (fun x:List Int=>x.length) l (k + 1)
   try dsimp only at hs
   rcases oB (left - l.length - (((l.take k).map (fun x:List Int=>x.length)).sum:Int)) (l[k].length) with ⟨e,hl1⟩ | ⟨e,hl1⟩
   ·simp -dsimp -implicitDefEqProofs only [go_sem,↓reduceIte,Tryz.f19,e]
    exact (oJ (by rw [fM];omega)).symm
   ·have uS:(left - l.length - (((l.take k).map (fun x:List Int=>x.length)).sum:Int) - (l[k].length:Int) < 0) = False:=eq_false (by omega)
    simp -dsimp -implicitDefEqProofs only [go_sem,↓reduceIte,Tryz.f19,e,uS]
    refine ⟨k + 1,⟨?_,?_⟩,⟨by omega,by rw [hs];omega⟩,by omega⟩
    ·rw [hs];omega
    ·rw [IntWalk.i64_in _ (by omega)];rfl
  ·have hk':k = l.length:=by omega
   subst hk'
   simp -dsimp -implicitDefEqProofs only [go_sem,↓reduceIte,Tryz.f19,Nat.lt_irrefl]
   refine fun _=>?_
   rw [List.take_length] at hb ⊢
   rw [tB (by rw [fM];omega),fM]
   omega
theorem aL7 (a b:List aB) (hc:∀ x∈a,∀ y,dI Tryz.prog 212 [(.agg (aB.c x)),(.agg (aB.c y))] (.bool (decide (x = y)))):dI Tryz.prog 189 [(cY 5 aB.c a),(cY 5 aB.c b)] (.bool (decide (a = b))):=by
 refine dJ 27 aGX bM aGY mix Tryz.func189 rfl (by kernel_rfl) (by simp) fun h=>?_
 simp -dsimp -implicitDefEqProofs only [go_sem,Tryz.f189,↓reduceIte]
 refine fun _ _=>⟨fun hne=>?_,fun heq=>?_⟩
 ·exact (decide_eq_false fun e=>hne (by rw [e])).symm
 ·refine bQ (keep:=aGX) (ib:=bM) (mk:=aGY) mix (by kernel_rfl) (fun k:Nat=>[(0,(cY 5 aB.c a)),(1,(cY 5 aB.c b)),(5,I k)]) (fun _=>h) (fun k=>k≤a.length∧a.take k = b.take k) (fun k=>a.length - k) 0 (by simp [bU,bF,aA.le_refl]) ?_
  intro k ⟨hk,hp⟩
  rcases Nat.lt_or_ge k a.length with hlt | hge
  ·have hlb:k < b.length:=by omega
   have ea:a[k]? = some a[k]:=List.getElem?_eq_getElem hlt
   have eb:b[k]? = some b[k]:=List.getElem?_eq_getElem hlb
   simp -dsimp -implicitDefEqProofs only [go_sem,↓reduceIte,Tryz.f189,ea,eb,aB.aQ]
   refine fun _=>⟨fun _=>⟨hlt,hlb,?_⟩,fun hn=>absurd hlt hn⟩
   have hx:=hc a[k] (List.getElem_mem hlt) b[k]
   simp only [aB.aQ] at hx
   refine aD.mk hx ?_
   by_cases he:a[k] = b[k]
   ·have d:=decide_eq_true he
    simp -dsimp -implicitDefEqProofs only [go_sem,↓reduceIte,Tryz.f189,d]
    exact ⟨k + 1,by rw [IntWalk.i64_in _ (by omega)];rfl,⟨by omega,wB hlt hlb hp he⟩,by omega⟩
   ·have d:=decide_eq_false he
    simp -dsimp -implicitDefEqProofs only [go_sem,↓reduceIte,Tryz.f189,d]
    exact (decide_eq_false fun e=>he (getElem_of_eq e hlt)).symm
  ·have hk':k = a.length:=by omega
   subst hk'
   simp -dsimp -implicitDefEqProofs only [go_sem,↓reduceIte,Tryz.f189,Nat.lt_irrefl]
   exact fun _=>(decide_eq_true (tC heq hp)).symm
@[go_sem] def aZ4:List Nat:=[0,1,2,3,4,9,14,19,24,30]
theorem aI7 (a b:aB) (hk:dI Tryz.prog 189 [(cY 5 aB.c a.aI),(cY 5 aB.c b.aI)] (.bool (decide (a.aI = b.aI)))):dI Tryz.prog 212 [.agg a.c,.agg b.c] (.bool (decide (a = b))):=by
 simp only [aB.aQ]
 refine dJ 31 aZ4 aU8 bC mix Tryz.func212 rfl (by kernel_rfl) (by simp) fun h=>?_
 simp -dsimp -implicitDefEqProofs only [go_sem,Tryz.f212,↓reduceIte]
 refine ⟨fun hn=>(decide_eq_false fun e=>hn (by rw [e])).symm,fun efKind=>?_⟩
 refine ⟨fun hn=>(decide_eq_false fun e=>hn (by rw [e])).symm,fun efNum=>?_⟩
 refine ⟨fun hn=>(decide_eq_false fun e=>hn (by rw [e])).symm,fun efPick=>?_⟩
 refine ⟨fun hn=>(decide_eq_false fun e=>hn (by rw [e])).symm,fun efCount=>?_⟩
 refine aG.mk hk ?_
 by_cases efKids:a.aI = b.aI
 case neg =>
  have d:=decide_eq_false efKids
  simp -dsimp -implicitDefEqProofs only [go_sem,↓reduceIte,Tryz.f212,d]
  exact (decide_eq_false fun e=>efKids (by rw [e])).symm
 have dfKids:=decide_eq_true efKids
 simp -dsimp -implicitDefEqProofs only [go_sem,↓reduceIte,Tryz.f212,dfKids]
 exact (decide_eq_true (aB.eq_iff.2 ⟨efKind,efNum,efPick,efCount,efKids⟩)).symm
theorem aRO (a b:aB):dI Tryz.prog 212 [.agg a.c,.agg b.c] (.bool (decide (a = b))) :=
 aI7 a b (aL7 a.aI b.aI fun x hx y=>aRO x y)
termination_by SizeOf.sizeOf a
decreasing_by exact aB.qA hx
@[go_sem] def aZ5:List Nat:=[0,1,2,3,4,9,14,20]
theorem aZ6 (a b:aS):dI Tryz.prog 141 [.agg a.c,.agg b.c] (.bool (decide (a = b))):=by
 simp only [aS.aQ]
 refine dJ 21 aZ5 aU8 bC mix Tryz.func141 rfl (by kernel_rfl) (by simp) fun h=>?_
 simp -dsimp -implicitDefEqProofs only [go_sem,Tryz.f141,↓reduceIte]
 refine ⟨fun hn=>(decide_eq_false fun e=>hn (by rw [e])).symm,fun efName=>?_⟩
 refine ⟨fun hn=>(decide_eq_false fun e=>hn (by rw [e])).symm,fun efParams=>?_⟩
 refine aG.mk (aL7 a.aL b.aL (fun x _ y=>(aRO x y))) ?_
 by_cases efOuts:a.aL = b.aL
 case neg =>
  have d:=decide_eq_false efOuts
  simp -dsimp -implicitDefEqProofs only [go_sem,↓reduceIte,Tryz.f141,d]
  exact (decide_eq_false fun e=>efOuts (by rw [e])).symm
 have dfOuts:=decide_eq_true efOuts
 simp -dsimp -implicitDefEqProofs only [go_sem,↓reduceIte,Tryz.f141,dfOuts]
 exact (decide_eq_true (aS.eq_iff.2 ⟨efName,efParams,efOuts⟩)).symm
theorem aWK (a b:List aS) (hc:∀ x∈a,∀ y,dI Tryz.prog 141 [(.agg (aS.c x)),(.agg (aS.c y))] (.bool (decide (x = y)))):dI Tryz.prog 63 [(cY 3 aS.c a),(cY 3 aS.c b)] (.bool (decide (a = b))):=by
 refine dJ 27 aGX bM aGY mix Tryz.func63 rfl (by kernel_rfl) (by simp) fun h=>?_
 simp -dsimp -implicitDefEqProofs only [go_sem,Tryz.f63,↓reduceIte]
 refine fun _ _=>⟨fun hne=>?_,fun heq=>?_⟩
 ·exact (decide_eq_false fun e=>hne (by rw [e])).symm
 ·refine bQ (keep:=aGX) (ib:=bM) (mk:=aGY) mix (by kernel_rfl) (fun k:Nat=>[(0,(cY 3 aS.c a)),(1,(cY 3 aS.c b)),(5,I k)]) (fun _=>h) (fun k=>k≤a.length∧a.take k = b.take k) (fun k=>a.length - k) 0 (by simp [bU,bF,aA.le_refl]) ?_
  intro k ⟨hk,hp⟩
  rcases Nat.lt_or_ge k a.length with hlt | hge
  ·have hlb:k < b.length:=by omega
   have ea:a[k]? = some a[k]:=List.getElem?_eq_getElem hlt
   have eb:b[k]? = some b[k]:=List.getElem?_eq_getElem hlb
   simp -dsimp -implicitDefEqProofs only [go_sem,↓reduceIte,Tryz.f63,ea,eb,aS.aQ]
   refine fun _=>⟨fun _=>⟨hlt,hlb,?_⟩,fun hn=>absurd hlt hn⟩
   have hx:=hc a[k] (List.getElem_mem hlt) b[k]
   simp only [aS.aQ] at hx
   refine aD.mk hx ?_
   by_cases he:a[k] = b[k]
   ·have d:=decide_eq_true he
    simp -dsimp -implicitDefEqProofs only [go_sem,↓reduceIte,Tryz.f63,d]
    exact ⟨k + 1,by rw [IntWalk.i64_in _ (by omega)];rfl,⟨by omega,wB hlt hlb hp he⟩,by omega⟩
   ·have d:=decide_eq_false he
    simp -dsimp -implicitDefEqProofs only [go_sem,↓reduceIte,Tryz.f63,d]
    exact (decide_eq_false fun e=>he (getElem_of_eq e hlt)).symm
  ·have hk':k = a.length:=by omega
   subst hk'
   simp -dsimp -implicitDefEqProofs only [go_sem,↓reduceIte,Tryz.f63,Nat.lt_irrefl]
   exact fun _=>(decide_eq_true (tC heq hp)).symm
@[go_sem] def a5O:List Nat:=[0,1,2,3,4,10]
theorem aOU (a b:aE):dI Tryz.prog 13 [.agg a.c,.agg b.c] (.bool (decide (a = b))):=by
 simp only [aE.aQ]
 refine dJ 11 a5O aU8 bC mix Tryz.func13 rfl (by kernel_rfl) (by simp) fun h=>?_
 simp -dsimp -implicitDefEqProofs only [go_sem,Tryz.f13,↓reduceIte]
 refine aG.mk (aWK a.aJ b.aJ (fun x _ y=>(aZ6 x y))) ?_
 by_cases efFuncs:a.aJ = b.aJ
 case neg =>
  have d:=decide_eq_false efFuncs
  simp -dsimp -implicitDefEqProofs only [go_sem,↓reduceIte,Tryz.f13,d]
  exact (decide_eq_false fun e=>efFuncs (by rw [e])).symm
 have dfFuncs:=decide_eq_true efFuncs
 simp -dsimp -implicitDefEqProofs only [go_sem,↓reduceIte,Tryz.f13,dfFuncs]
 exact (decide_eq_true (aE.eq_iff.2 efFuncs)).symm
@[go_sem] def aWL:List Nat:=[0,1,4,5,10,14,25]
@[go_sem] def bBD:Marks:=fun id=>match id with | 6=>([],(.op 0 (.op 1 (.op 2 (.op 3 (.op 4 (.op 5 (.op 6 (.op 7 (.op 8 .nil))))))))),[]) | _=>([],.nil,[])
theorem wL (a b:List Int):dI Tryz.prog 14 [(cY 1 (fun n=>[I n]) a),(cY 1 (fun n=>[I n]) b)] (.bool (decide (a = b))):=by
 refine dJ 26 aWL bM bBD mix Tryz.func14 rfl (by kernel_rfl) (by simp) fun h=>?_
 simp -dsimp -implicitDefEqProofs only [go_sem,Tryz.f14,↓reduceIte]
 refine fun _ _=>⟨fun hne=>?_,fun heq=>?_⟩
 ·exact (decide_eq_false fun e=>hne (by rw [e])).symm
 ·refine bQ (keep:=aWL) (ib:=bM) (mk:=bBD) mix (by kernel_rfl) (fun k:Nat=>[(0,(cY 1 (fun n=>[I n]) a)),(1,(cY 1 (fun n=>[I n]) b)),(5,I k)]) (fun _=>h) (fun k=>k≤a.length∧a.take k = b.take k) (fun k=>a.length - k) 0 (by simp [bU,bF,aA.le_refl]) ?_
  intro k ⟨hk,hp⟩
  rcases Nat.lt_or_ge k a.length with hlt | hge
  ·have hlb:k < b.length:=by omega
   have ea:a[k]? = some a[k]:=List.getElem?_eq_getElem hlt
   have eb:b[k]? = some b[k]:=List.getElem?_eq_getElem hlb
   simp -dsimp -implicitDefEqProofs only [go_sem,↓reduceIte,Tryz.f14,ea,eb]
   refine fun _=>⟨fun _=>⟨hlt,hlb,fun hne=>?_,fun he=>?_⟩,fun hn=>absurd hlt hn⟩
   ·first
     |exact (decide_eq_false fun e=>hne (getElem_of_eq e hlt)).symm
     |exact (decide_eq_false fun e=>by have:=getElem_of_eq e hlt (hb:=hlb);rw [this] at hne;simp at hne).symm
   ·exact ⟨k + 1,by rw [IntWalk.i64_in _ (by omega)];rfl,⟨by omega,wB hlt hlb hp (by first | exact he | simpa using he)⟩,by omega⟩
  ·have hk':k = a.length:=by omega
   subst hk'
   simp -dsimp -implicitDefEqProofs only [go_sem,↓reduceIte,Tryz.f14,Nat.lt_irrefl]
   exact fun _=>(decide_eq_true (tC heq hp)).symm
theorem tT (a b:List (List Int)) (hc:∀ x∈a,∀ y,dI Tryz.prog 14 [(cY 1 (fun n=>[I n]) x),(cY 1 (fun n=>[I n]) y)] (.bool (decide (x = y)))):dI Tryz.prog 12 [(cY 1 (fun x=>[cY 1 (fun n=>[I n]) x]) a),(cY 1 (fun x=>[cY 1 (fun n=>[I n]) x]) b)] (.bool (decide (a = b))):=by
 refine dJ 27 aGX bM aGY mix Tryz.func12 rfl (by kernel_rfl) (by simp) fun h=>?_
 simp -dsimp -implicitDefEqProofs only [go_sem,Tryz.f12,↓reduceIte]
 refine fun _ _=>⟨fun hne=>?_,fun heq=>?_⟩
 ·exact (decide_eq_false fun e=>hne (by rw [e])).symm
 ·refine bQ (keep:=aGX) (ib:=bM) (mk:=aGY) mix (by kernel_rfl) (fun k:Nat=>[(0,(cY 1 (fun x=>[cY 1 (fun n=>[I n]) x]) a)),(1,(cY 1 (fun x=>[cY 1 (fun n=>[I n]) x]) b)),(5,I k)]) (fun _=>h) (fun k=>k≤a.length∧a.take k = b.take k) (fun k=>a.length - k) 0 (by simp [bU,bF,aA.le_refl]) ?_
  intro k ⟨hk,hp⟩
  rcases Nat.lt_or_ge k a.length with hlt | hge
  ·have hlb:k < b.length:=by omega
   have ea:a[k]? = some a[k]:=List.getElem?_eq_getElem hlt
   have eb:b[k]? = some b[k]:=List.getElem?_eq_getElem hlb
   simp -dsimp -implicitDefEqProofs only [go_sem,↓reduceIte,Tryz.f12,ea,eb]
   refine fun _=>⟨fun _=>⟨hlt,hlb,?_⟩,fun hn=>absurd hlt hn⟩
   have hx:=hc a[k] (List.getElem_mem hlt) b[k]
   refine aD.mk hx ?_
   by_cases he:a[k] = b[k]
   ·have d:=decide_eq_true he
    simp -dsimp -implicitDefEqProofs only [go_sem,↓reduceIte,Tryz.f12,d]
    exact ⟨k + 1,by rw [IntWalk.i64_in _ (by omega)];rfl,⟨by omega,wB hlt hlb hp he⟩,by omega⟩
   ·have d:=decide_eq_false he
    simp -dsimp -implicitDefEqProofs only [go_sem,↓reduceIte,Tryz.f12,d]
    exact (decide_eq_false fun e=>he (getElem_of_eq e hlt)).symm
  ·have hk':k = a.length:=by omega
   subst hk'
   simp -dsimp -implicitDefEqProofs only [go_sem,↓reduceIte,Tryz.f12,Nat.lt_irrefl]
   exact fun _=>(decide_eq_true (tC heq hp)).symm
def aL8 (x:aY) (k inp:Int):Prop :=
 (x.fX = 1∧x.fA = 0∧x.fB = 0∧0≤x.aW∧x.aW≤inp - 1)∨(x.fX = 2∧x.fA = 0∧x.fB = 0∧fP x.aW) ∨
 ((3≤x.fX∧x.fX≤6)∧x.aW = 0∧(0≤x.fA∧x.fA≤k - 1)∧(0≤x.fB∧x.fB≤k - 1))∨(x.fX = 7∧x.aW = 0∧x.fB = 0∧0≤x.fA∧x.fA≤k - 1)
instance (x:aY) (k inp:Int):Decidable (aL8 x k inp):=by unfold aL8 fP;infer_instance
def aOV (s:Int) (l:List Int):Prop:=∀ r∈l,0≤r∧r≤s - 1
instance (s:Int) (l:List Int):Decidable (aOV s l):=by unfold aOV;infer_instance
def aWM (s:Int) (l:List dT):Prop:=∀ g∈l,0≤g.aS8∧g.aS8≤s - 1
instance (s:Int) (l:List dT):Decidable (aWM s l):=by unfold aWM;infer_instance
def aI8 (inp:Int) (l:List aY):Prop:=∀ (k:Nat) (h:k < l.length),aL8 l[k] k inp
instance (inp:Int) (l:List aY):Decidable (aI8 inp l):=by unfold aI8;infer_instance
structure jS.ok (t:jS):Prop where
 inp:0≤t.gM∧t.gM≤12
 lens:t.aM.length≤3200∧t.kV.length≤3200∧1≤t.aL.length∧t.aL.length≤12
 code:aI8 t.gM t.aM
 gds:aWM t.aM.length t.kV
 outs:aOV t.aM.length t.aL
theorem Shift.bBE {x y:aC} {h h':aA} (s:Shift x h' y h) (n:Int):Shift (.gW [x,I n]) h' (.gW [y,I n]) h:=fun E w v R r=>by
 cases r with
 |gW _ vs hl hr =>
  match vs,hl with
  | [v0,v1],_ =>
   obtain ⟨E',ev,R',r'⟩:=s E w v0 R (hr 0 x v0 rfl rfl)
   have h1:=hr 1 (I n) v1 rfl rfl
   cases h1
   refine ⟨E',ev,R',.gW _ _ rfl fun i z u hz hu=>?_⟩
   match i with
   |0=>cases hz;cases hu;exact r'
   |1=>cases hz;cases hu;exact .int _ _
   |i + 2=>cases hz
def b7 (l:List (List Int)):bH:=.row 1 ((l.map fun s=>[ints s]).map (List.map .v))
theorem aOW (l:List (List Int)) (s:List Int):b7 (l ++ [s]) = .row 1 (((l.map fun s=>[ints s]).map (List.map Cell.v)) ++ [[.v (ints s)]]):=by simp [b7]
theorem dN (l:List (List Int)) {k:Nat} (h:l.length = k) (s:List Int):bH.row 1 (List.take k ((l.map fun s=>[ints s]).map (List.map Cell.v)) ++ [[.v (aC.sl 1 (s.map fun n=>[I n]) false)]]) = b7 (l ++ [s]):=by
 rw [aOW,List.take_of_length_le (by simp [h])]
@[go_sem] def aZ7:List Nat:=[0,1,3,4]
theorem aWN (n:Int) {sz:Nat} (hsz:1≤sz∧sz≤1048576):dI Tryz.prog 187 [I n,.ip 1 [[I ((sz:Int) - 1)]] 0 0] (ints (bJ n sz)):=by
 have e1:IntKind.i64.wrap ((sz:Int) - 1 + 1) = (sz:Int):=by rw [IntWalk.i64_in _ (by omega)];omega
 have e2:=aCK (x:=[aC.int .i64 0]) hsz.1
 refine j7 12 aZ7 bM bC mix Tryz.func187 rfl (by kernel_rfl) (by simp) fun h=>?_
 simp -dsimp -implicitDefEqProofs only [go_sem,↓reduceIte,Tryz.f187,e1,Int.toNat_natCast,e2]
 refine ⟨Nat.zero_lt_one,by omega,by omega,by omega,fun m hm=>⟨by omega,?_⟩⟩
 rw [aO,show Int.toNat 0 = 0 from rfl,aEK]
 exact fS _ hm (aA.le_refl _) (oF n sz).symm
@[go_sem] def aRP:List Nat:=[0,1,2,3,5,6,7,8,9,11,12,16,17,18,19,27,28,35,48,61,74,82,91]
@[go_sem] def a2V:List Nat:=[3,5,13,105]
@[go_sem] def a2W:Marks:=fun id=>match id with | 11=>([2,4,7,9],(.op 0 (.op 1 (.op 5 (.op 6 (.op 2 (.op 3 (.op 4 (.op 7 (.op 8 (.op 9 (.op 10 (.op 11 .nil)))))))))))),[]) | 13=>([2,4,7,9],(.op 0 (.op 1 (.op 5 (.op 6 (.op 2 (.op 3 (.op 4 (.op 7 (.op 8 (.op 9 (.op 10 (.op 11 .nil)))))))))))),[]) | 15=>([2,4,7,9],(.op 0 (.op 1 (.op 5 (.op 6 (.op 2 (.op 3 (.op 4 (.op 7 (.op 8 (.op 9 (.op 10 (.op 11 .nil)))))))))))),[]) | 21=>([2,4,7,9],(.op 0 (.op 1 (.op 5 (.op 6 (.op 2 (.op 3 (.op 4 (.op 7 (.op 8 (.op 9 (.op 10 (.op 11 .nil)))))))))))),[]) | _=>([],.nil,[])
theorem aTE (t:jS) {sz:Nat} (hsz:1≤sz∧sz≤1048576) (hins:∀ i c,t.aM[i]? = some c→bK t.gM i c) (hcl:t.aM.length≤3200) (args:List (List Int)) (ha:∀ s∈args,bD sz s) (hal:(args.length:Int) = t.gM)
  (hdiv:∀ (i:Nat) (c:aY),t.aM[i]? = some c→c.fX = 6→¬ (lR sz args t.aM c.fB.toNat).getD 0 0 = 0):dI Tryz.prog 137 [.agg t.c,bB args,I ((sz:Int) - 1)] (.gW [bB (hJ sz args t.aM t.aM.length),I 0]):=by
 rw [jS.aQ]
 refine j7 109 aRP a2V a2W mix Tryz.func137 rfl (by kernel_rfl) (by simp) fun h=>?_
 simp -dsimp -implicitDefEqProofs only [go_sem,↓reduceIte,Tryz.f137]
 refine ⟨by decide,fun _=>?_⟩
 refine bQ (keep:=aRP) (ib:=a2V) (mk:=a2W) mix (by kernel_rfl) (fun x:Nat × Option Nat=>[(1,bB args),(8,eU 1 x.1 x.2),(9,.fn (.func 187) [] [.ip 1 [[I ((sz:Int) - 1)]] 0 0]),(16,cY 4 aY.c t.aM),(17,I t.aM.length),(18,I x.1)]) (fun x=>gB h (b7 (hJ sz args t.aM x.1)) x.2) (fun x=>x.1≤t.aM.length∧eF h (hJ sz args t.aM x.1) x.2) (fun x=>t.aM.length - x.1) (0,none) ⟨by simp [bU,bF,eU],aA.le_refl _,Nat.zero_le _,rfl⟩ ?_
 rintro ⟨k,o⟩ ⟨hk,hos⟩
 simp only at hk hos ⊢
 have hml:=jT sz args t.aM k
 rcases Nat.lt_or_ge k t.aM.length with hlt | hge
 ·have ek:t.aM[k]? = some t.aM[k]:=List.getElem?_eq_getElem hlt
  have hin:=hins k _ ek
  have hdk:=hdiv k _ ek
  have hst:hJ sz args t.aM (k + 1) = hJ sz args t.aM k ++ [uJ sz args (hJ sz args t.aM k) t.aM[k]]:=by
   rw [hJ,show t.aM.getD k ⟨0,0,0,0⟩ = t.aM[k] by rw [List.getD_eq_getElem?_getD,ek];rfl]
  generalize hc:t.aM[k] = c at *
  have hconst:=aWN c.aW hsz
  generalize hR:hJ sz args t.aM k = R at *
  have hgR:∀ i:Int,0≤i∧i < k→R[i.toNat]? = some (R.getD i.toNat [])∧bD sz (R.getD i.toNat []):=fun i hi=>by
   refine ⟨lN (by omega),?_⟩
   have h1:=tQ (sz:=sz) hins ha hal i.toNat (by omega)
   rwa [lR,oZ sz args t.aM (k:=k) (by omega) _ (by omega),hR] at h1
  cases o with
  |none =>
   rw [a6] at hos
   subst hos
   obtain rfl:k = 0:=hml.symm
   simp -dsimp -implicitDefEqProofs only [go_sem,↓reduceIte,Tryz.f137,a8,aP,hlt,ek,aY.aQ]
   intro m hm
   rw [aO]
   first | refine aG.mk (hconst) ?_ | refine aD.mk (hconst) ?_ | refine aG.a5 (hconst) ?_ | refine aD.mk (aX.cD (hconst)) ?_
   simp -dsimp -implicitDefEqProofs only [go_sem,↓reduceIte,Tryz.f137]
   have hnext:∀ (g:aA) (b:Nat) (s:List Int),s = uJ sz args [] c→h b = none→(a7 h b (b7 [s])).le g→∃ x':Nat × Option Nat,(aC.os b 1 0 1 = eU 1 x'.1 x'.2∧IntKind.i64.wrap (((0:Nat):Int) + 1) = (x'.1:Int))∧(gB h (b7 (hJ sz args t.aM x'.1)) x'.2).le g∧(x'.1≤t.aM.length∧eF h (hJ sz args t.aM x'.1) x'.2)∧t.aM.length - x'.1 < t.aM.length - 0:=fun g b s e z l=>by
    subst e
    exact ⟨(1,some b),⟨rfl,IntWalk.i64_in _ (by omega)⟩,by simp only [aK,hst];exact l,⟨hlt,z⟩,by simp only;omega⟩
   rcases (show c.fX = 1∨c.fX = 2 by unfold bK at hin;omega) with h1 | h1
   ·have hn:0≤c.aW∧c.aW < args.length:=by unfold bK at hin;omega
    have ea:args[c.aW.toNat]? = some (args.getD c.aW.toNat []):=lN (by omega)
    simp -dsimp -implicitDefEqProofs only [go_sem,↓reduceIte,Tryz.f137,h1,ea]
    refine ⟨hn.1,hn.2,by decide,by decide,by decide,fun b ⟨b1,b2⟩=>hnext _ b _ (by rw [uJ,if_pos h1]) b2 (aA.fN (aA.bI hm (aA.le_refl _)))⟩
   ·simp -dsimp -implicitDefEqProofs only [go_sem,↓reduceIte,Tryz.f137,h1]
    refine ⟨by decide,by decide,by decide,fun b ⟨b1,b2⟩=>hnext _ b _ (by rw [uJ,if_neg (by omega),if_pos h1]) b2 (aA.fN (aA.bI hm (aA.le_refl _)))⟩
  |some n =>
   rw [aU] at hos
   simp -dsimp -implicitDefEqProofs only [go_sem,↓reduceIte,Tryz.f137,aT,aK,hlt,ek,aY.aQ]
   refine fun m ⟨dm,zm⟩=>?_
   have jE:¬ m = n:=dm
   have o5:¬ n = m:=Ne.symm jE
   have c8:(m = n) = False:=eq_false jE
   have c9:(n = m) = False:=eq_false o5
   rw [aO]
   first | refine aG.mk (hconst) ?_ | refine aD.mk (hconst) ?_ | refine aG.a5 (hconst) ?_ | refine aD.mk (aX.cD (hconst)) ?_
   simp -dsimp -implicitDefEqProofs only [go_sem,↓reduceIte,Tryz.f137]
   have hnext:∀ (g:aA) (b:Nat) (s:List Int),s = uJ sz args R c→h b = none→(a7 h b (b7 (R ++ [s]))).le g→∃ x':Nat × Option Nat,(aC.os b 1 0 (k + 1) = eU 1 x'.1 x'.2∧IntKind.i64.wrap ((k:Int) + 1) = (x'.1:Int))∧(gB h (b7 (hJ sz args t.aM x'.1)) x'.2).le g∧(x'.1≤t.aM.length∧eF h (hJ sz args t.aM x'.1) x'.2)∧t.aM.length - x'.1 < t.aM.length - k:=fun g b s e z l=>by
    subst e
    exact ⟨(k + 1,some b),⟨rfl,IntWalk.i64_in _ (by omega)⟩,by simp only [aK,hst];exact l,⟨hlt,z⟩,by simp only;omega⟩
   have qK:∀ X Y,h.le (a7 (a7 (a7 h n X) m Y) n .gone):=fun X Y q=>by
    by_cases e1:q = n
    ·subst e1;exact .inl hos
    by_cases e2:q = m
    ·subst e2;exact .inl zm
    rw [aF _ _ _ _ e1,aF _ _ _ _ e2,aF _ _ _ _ e1];exact .inr rfl
   rcases (show c.fX = 1∨c.fX = 2∨c.fX = 3∨c.fX = 4∨c.fX = 5∨c.fX = 6∨c.fX = 7 by unfold bK at hin;omega) with h1 | h1 | h1 | h1 | h1 | h1 | h1
   ·have hn:0≤c.aW∧c.aW < args.length:=by unfold bK at hin;omega
    have ea:args[c.aW.toNat]? = some (args.getD c.aW.toNat []):=lN (by omega)
    simp -dsimp -implicitDefEqProofs only [go_sem,↓reduceIte,Tryz.f137,h1,ea,c8,c9,aF,b7]
    refine ⟨hn.1,hn.2,by decide,by decide,by decide,by omega,by omega,by omega,fun b ⟨b1,b2,b3⟩=>hnext _ b _ (by rw [uJ,if_pos h1]) b3 ?_⟩
    rw [dN R hml]
    exact aA.fN (qK _ _)
   ·simp -dsimp -implicitDefEqProofs only [go_sem,↓reduceIte,Tryz.f137,h1,c8,c9,aF,b7]
    refine ⟨by decide,by decide,by decide,by omega,by omega,by omega,fun b ⟨b1,b2,b3⟩=>hnext _ b _ (by rw [uJ,if_neg (by omega),if_pos h1]) b3 ?_⟩
    rw [dN R hml]
    exact aA.fN (qK _ _)
   ·have na:=hgR c.fA (by unfold bK at hin;omega)
    have nb:=hgR c.fB (by unfold bK at hin;omega)
    have i0:(0≤c.fA∧c.fA < k)∧0≤c.fB∧c.fB < k:=by unfold bK at hin;omega
    have hop:3≤c.fX→uJ sz args R c = opW c.fX (R.getD c.fA.toNat []) (R.getD c.fB.toNat []):=fun q=>by rw [uJ,if_neg (by omega),if_neg (by omega)]
    have hcall:=vN (added (R.getD c.fA.toNat []) (R.getD c.fB.toNat []) (by rw [nb.2.1,na.2.1]) (by rw [na.2.1];omega) (rE na.2.2) (rE nb.2.2))
    simp -dsimp -implicitDefEqProofs only [go_sem,↓reduceIte,Tryz.f137,h1,b7,na.1,nb.1,c8,c9,aF]
    refine ⟨by omega,by omega,by omega,by omega,aD.mk hcall ?_⟩
    simp -dsimp -implicitDefEqProofs only [go_sem,↓reduceIte,Tryz.f137,h1,b7,c8,c9,aF]
    refine ⟨by decide,by decide,by decide,by omega,by omega,by omega,fun b ⟨b1,b2,b3⟩=>hnext _ b _ (by rw [hop (by omega),h1]) b3 ?_⟩
    rw [dN R hml]
    exact aA.fN (qK _ _)
   ·have na:=hgR c.fA (by unfold bK at hin;omega)
    have nb:=hgR c.fB (by unfold bK at hin;omega)
    have i0:(0≤c.fA∧c.fA < k)∧0≤c.fB∧c.fB < k:=by unfold bK at hin;omega
    have hop:3≤c.fX→uJ sz args R c = opW c.fX (R.getD c.fA.toNat []) (R.getD c.fB.toNat []):=fun q=>by rw [uJ,if_neg (by omega),if_neg (by omega)]
    have hcall:=reduced (R.getD c.fA.toNat []) (R.getD c.fB.toNat []) (by rw [nb.2.1,na.2.1]) (by rw [na.2.1];omega) na.2.2 nb.2.2
    simp -dsimp -implicitDefEqProofs only [go_sem,↓reduceIte,Tryz.f137,h1,b7,na.1,nb.1,c8,c9,aF]
    refine ⟨by omega,by omega,by omega,by omega,aD.mk hcall ?_⟩
    simp -dsimp -implicitDefEqProofs only [go_sem,↓reduceIte,Tryz.f137,h1,b7,c8,c9,aF]
    refine ⟨by decide,by decide,by decide,by omega,by omega,by omega,fun b ⟨b1,b2,b3⟩=>hnext _ b _ (by rw [hop (by omega),h1]) b3 ?_⟩
    rw [dN R hml]
    exact aA.fN (qK _ _)
   ·have na:=hgR c.fA (by unfold bK at hin;omega)
    have nb:=hgR c.fB (by unfold bK at hin;omega)
    have i0:(0≤c.fA∧c.fA < k)∧0≤c.fB∧c.fB < k:=by unfold bK at hin;omega
    have hop:3≤c.fX→uJ sz args R c = opW c.fX (R.getD c.fA.toNat []) (R.getD c.fB.toNat []):=fun q=>by rw [uJ,if_neg (by omega),if_neg (by omega)]
    have hcall:=product (R.getD c.fA.toNat []) (R.getD c.fB.toNat []) (by rw [nb.2.1,na.2.1]) (by rw [na.2.1];omega) na.2.2 nb.2.2
    simp -dsimp -implicitDefEqProofs only [go_sem,↓reduceIte,Tryz.f137,h1,b7,na.1,nb.1,c8,c9,aF]
    refine ⟨by omega,by omega,by omega,by omega,aD.mk hcall ?_⟩
    simp -dsimp -implicitDefEqProofs only [go_sem,↓reduceIte,Tryz.f137,h1,b7,c8,c9,aF]
    refine ⟨by decide,by decide,by decide,by omega,by omega,by omega,fun b ⟨b1,b2,b3⟩=>hnext _ b _ (by rw [hop (by omega),h1]) b3 ?_⟩
    rw [dN R hml]
    exact aA.fN (qK _ _)
   ·have na:=hgR c.fA (by unfold bK at hin;omega)
    have nb:=hgR c.fB (by unfold bK at hin;omega)
    have i0:(0≤c.fA∧c.fA < k)∧0≤c.fB∧c.fB < k:=by unfold bK at hin;omega
    have hop:3≤c.fX→uJ sz args R c = opW c.fX (R.getD c.fA.toNat []) (R.getD c.fB.toNat []):=fun q=>by rw [uJ,if_neg (by omega),if_neg (by omega)]
    have hcall:=quotient (R.getD c.fA.toNat []) (R.getD c.fB.toNat []) (by rw [nb.2.1,na.2.1]) (by rw [na.2.1];omega) (by rw [na.2.1];omega) na.2.2 nb.2.2
    have hz:¬ (R.getD c.fB.toNat []).getD 0 0 = 0:=by
     have h2:=hdk h1
     rwa [lR,oZ sz args t.aM (k:=k) (by omega) _ (by omega),hR] at h2
    have gz:(R.getD c.fB.toNat [])[Int.toNat 0]? = some ((R.getD c.fB.toNat []).getD 0 0):=b9 (by rw [nb.2.1];exact hsz.1)
    have lz:=nb.2.1
    simp -dsimp -implicitDefEqProofs only [go_sem,↓reduceIte,Tryz.f137,h1,b7,na.1,nb.1,gz,hz,c8,c9,aF]
    refine ⟨by omega,by omega,by rw [lz];omega,by omega,by omega,by omega,by omega,aD.mk hcall ?_⟩
    simp -dsimp -implicitDefEqProofs only [go_sem,↓reduceIte,Tryz.f137,h1,b7,c8,c9,aF]
    refine ⟨by decide,by decide,by decide,by omega,by omega,by omega,fun b ⟨b1,b2,b3⟩=>hnext _ b _ (by rw [hop (by omega),h1]) b3 ?_⟩
    rw [dN R hml]
    exact aA.fN (qK _ _)
   ·have na:=hgR c.fA (by unfold bK at hin;omega)
    have hop:3≤c.fX→uJ sz args R c = opW c.fX (R.getD c.fA.toNat []) (R.getD c.fB.toNat []):=fun q=>by rw [uJ,if_neg (by omega),if_neg (by omega)]
    have i0:0≤c.fA∧c.fA < k:=by unfold bK at hin;omega
    have hcall:=scaled (R.getD c.fA.toNat []) 1000002 (by unfold fP;omega) (by rw [na.2.1];omega) na.2.2
    simp -dsimp -implicitDefEqProofs only [go_sem,↓reduceIte,Tryz.f137,h1,b7,na.1,c8,c9,aF]
    refine ⟨by omega,by omega,aG.mk hcall ?_⟩
    simp -dsimp -implicitDefEqProofs only [go_sem,↓reduceIte,Tryz.f137,h1,b7,c8,c9,aF]
    refine ⟨by decide,by decide,by decide,by omega,by omega,by omega,fun b ⟨b1,b2,b3⟩=>hnext _ b _ (by rw [hop (by omega),h1]) b3 ?_⟩
    rw [dN R hml]
    exact aA.fN (qK _ _)
 ·have hk':k = t.aM.length:=by omega
  subst hk'
  cases o with
  |none =>
   rw [a6] at hos
   simp -dsimp -implicitDefEqProofs only [go_sem,↓reduceIte,Tryz.f137,a8,aP,Nat.lt_irrefl,Int.lt_irrefl]
   rw [hos]
   exact Shift.of (Sub.gW (.cons (Sub.loose _ _ _) (.cons (.refl _) .nil))) (aA.le_refl _)
  |some n =>
   rw [aU] at hos
   simp -dsimp -implicitDefEqProofs only [go_sem,↓reduceIte,Tryz.f137,aT,aK,Nat.lt_irrefl,Int.lt_irrefl]
   have h1:=m5 (hJ sz args t.aM t.aM.length) hos (aA.le_refl _) hml.symm
   exact h1.bBE 0
end Go.Hl

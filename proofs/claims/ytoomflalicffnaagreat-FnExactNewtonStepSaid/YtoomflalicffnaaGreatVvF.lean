/-
  Contracts of functions and laws of the layer over the walk.
-/
import Derived.Test.YtoomflalicffnaaGreatVvE
import Derived.Test.YtoomflalicffnaaGreatVvD
import Derived.Test.YtoomflalicffnaaGreatVvB
import Derived.Test.YtoomflalicffnaaGreatVvC
namespace Go.Hl
set_option maxRecDepth 100000
open Go.Proofs
set_option linter.unusedVariables false
set_option linter.unusedSimpArgs false
def aE.par (p:aE) (f:Int):Int:=((p.aJ[f.toNat]?).map (·.a9)).getD 0
noncomputable def iN (p:aE) (f:Int) (P:Int→Int→Bool):Int:=if p.ok then if 0≤f∧f≤(p.aJ.length:Int) - 1 then if P (p.par f) (p.outs f).length = true then 0 else 2 else 2 else 1
theorem aFD {p:aE} {f:Int} (h1:p.ok) (h2:0≤f∧f≤(p.aJ.length:Int) - 1):∃ F,p.aJ[f.toNat]? = some F∧p.par f = F.a9∧p.outs f = F.aL∧∀ P:Int→Int→Bool,iN p f P = if P F.a9 F.aL.length = true then 0 else 2:=by
 have ef:p.aJ[f.toNat]? = some (p.aJ[f.toNat]'(by omega)):=List.getElem?_eq_getElem (by omega)
 have e1:p.par f = (p.aJ[f.toNat]'(by omega)).a9:=by rw [aE.par,ef];rfl
 have e2:p.outs f = (p.aJ[f.toNat]'(by omega)).aL:=by rw [aE.outs,ef];rfl
 exact ⟨_,ef,e1,e2,fun P=>by rw [iN,if_pos h1,if_pos h2,e1,e2]⟩
@[go_sem] def aJN:List Nat:=[0,1,2,3,6,7,30]
@[go_sem] def aW6:Marks:=fun id=>match id with | 2=>([16,17],(.op 0 (.op 1 (.op 2 (.op 3 (.op 4 (.op 5 (.op 6 (.op 7 (.op 8 (.op 9 (.op 10 (.op 11 (.op 12 (.op 13 (.op 14 (.op 15 (.op 16 (.op 17 (.op 18 (.op 19 .nil)))))))))))))))))))),[]) | _=>([],.nil,[])
theorem aW7 (p:aE) (f:Int) (hps:p.s≤4194304) {g:Nat} {P:Int→Int→Bool} (hP:∀ a b,dI Tryz.prog g [I a,I b] (.bool (P a b))):dI Tryz.prog 164 [.agg p.c,I f,.fn (.func g) [] []] (I (iN p f P)):=by
 have hif:=aVE p f hps
 by_cases h1:p.ok
 ·by_cases h2:0≤f∧f≤(p.aJ.length:Int) - 1
  ·obtain ⟨F,ef,e1,e2,e3⟩:=aFD h1 h2
   have hq:=hP F.a9 F.aL.length
   rw [if_pos h1,if_pos h2] at hif
   simp only [aE.aQ] at hif ⊢
   refine dJ 32 aJN aD7 aW6 mix Tryz.func164 rfl (by kernel_rfl) (by simp) fun h=>?_
   simp -dsimp -implicitDefEqProofs only [go_sem,↓reduceIte,Tryz.f164]
   first | refine aG.mk (hif) ?_ | refine aD.mk (hif) ?_ | refine aG.a5 (hif) ?_ | refine aD.mk (aX.cD (hif)) ?_
   simp -dsimp -implicitDefEqProofs only [go_sem,↓reduceIte,Tryz.f164,ef,aS.aQ]
   refine ⟨by omega,by omega,by omega,by omega,fun _=>aG.mk hq ?_⟩
   simp -dsimp -implicitDefEqProofs only [go_sem,↓reduceIte,Tryz.f164]
   rw [e3]
   exact ⟨fun q=>by rw [if_neg (by rw [q];decide)],fun q=>by rw [if_pos q]⟩
  ·rw [if_pos h1,if_neg h2] at hif
   have e:iN p f P = 2:=by rw [iN,if_pos h1,if_neg h2]
   simp only [aE.aQ] at hif ⊢
   refine dJ 32 aJN aD7 aW6 mix Tryz.func164 rfl (by kernel_rfl) (by simp) fun h=>?_
   simp -dsimp -implicitDefEqProofs only [go_sem,↓reduceIte,Tryz.f164]
   first | refine aG.mk (hif) ?_ | refine aD.mk (hif) ?_ | refine aG.a5 (hif) ?_ | refine aD.mk (aX.cD (hif)) ?_
   simp -dsimp -implicitDefEqProofs only [go_sem,↓reduceIte,Tryz.f164]
   rw [e]
 ·rw [if_neg h1] at hif
  have e:iN p f P = 1:=by rw [iN,if_neg h1]
  simp only [aE.aQ] at hif ⊢
  refine dJ 32 aJN aD7 aW6 mix Tryz.func164 rfl (by kernel_rfl) (by simp) fun h=>?_
  simp -dsimp -implicitDefEqProofs only [go_sem,↓reduceIte,Tryz.f164]
  first | refine aG.mk (hif) ?_ | refine aD.mk (hif) ?_ | refine aG.a5 (hif) ?_ | refine aD.mk (aX.cD (hif)) ?_
  simp -dsimp -implicitDefEqProofs only [go_sem,↓reduceIte,Tryz.f164]
  rw [e]
theorem xW {p:aE} {f:Int} {P:Int→Int→Bool} (h:iN p f P = 0):p.ok∧(0≤f∧f < p.aJ.length)∧∃ F,p.aJ[f.toNat]? = some F∧p.par f = F.a9∧p.outs f = F.aL∧P F.a9 F.aL.length = true:=by
 by_cases h1:p.ok
 ·by_cases h2:0≤f∧f≤(p.aJ.length:Int) - 1
  ·obtain ⟨F,ef,e1,e2,e3⟩:=aFD h1 h2
   rw [e3] at h
   refine ⟨h1,by omega,F,ef,e1,e2,?_⟩
   by_cases e:P F.a9 F.aL.length = true
   ·exact e
   ·rw [if_neg e] at h;cases h
  ·rw [iN,if_pos h1,if_neg h2] at h;cases h
 ·rw [iN,if_neg h1] at h;cases h
theorem aG.bBR {P:Program} {f:FuncId} {args args':List aC} {R:OV→Prop} {d:aC} {g:aA} {K:aC→aA→Prop} {t:Tag K} (a:rN P f args' (QS R)) (hd:∀ y,R y→y.lQ = d) (hs:∀ y,R y→y.sol = true) (hv:eD g args args') (k:K d g):aG P f args g K t :=
 aG.gQ (aLB (r:=d) g (a.aUY hv (QS.fI hs fun _ h=>h)) fun r' h' ⟨l,⟨y,hy,e1,e2⟩,n⟩=>by
  subst e1 e2
  exact ⟨_,n,fun E w v R rx=>hd y hy ▸ eC.yQ R y n.iD (fun p hp=>b5.2 ⟨p.2,hp⟩) v rx⟩) fun r h' ⟨e1,e2⟩=>by subst e1 e2;exact k
def oI (n:Nat) (s:List Int):List OV:=[OV.sl n 1 (s.map fun x=>[.v (I x)])]
theorem aR2 (n:Nat) (s:List Int):((oI n s).map fun c=>Cell.v c.val) = [.v (.os n 1 0 s.length)]:=by rw [oI,List.map_singleton,OV.iQ]
theorem a5Z (n:Nat) (s:List Int):oL I s (oI n s):=⟨_,rfl,OS.mk (xJ s)⟩
theorem a50 {g:aA} {n:Nat} (s:List Int) (h:g n = none):g8 g (OV.bR (oI n s)) (a7 g n (mF s)):=by
 rw [oI,OV.cO,OV.dV,List.append_nil,OV.cK,fW,eS];exact g8.one h
abbrev LLx:=Option Nat × List (List OV) × aA
def LLG (h:aA) (L:List (List Int)) (x:LLx):Prop:=OR (oL I) L x.2.1∧g8 h (OV.bG x.2.1) x.2.2∧aQF x.2.2 x.2.1 x.1
def wZ (x:LLx):aA:=gB x.2.2 (.row 1 (OV.cells x.2.1)) x.1
theorem LLG.init (h:aA):LLG h [] (none,[],h):=⟨trivial,g8.nil h,rfl⟩
theorem LLG.len {h:aA} {L:List (List Int)} {x:LLx} (H:LLG h L x):x.2.1.length = L.length:=H.1.length.symm
theorem LLG.nil {h g:aA} {L:List (List Int)} {es:List (List OV)} (H:LLG h L (none,es,g)):L = []∧es = []∧h = g:=by
 obtain ⟨h1,h2,h3⟩:=H
 have e:es = []:=h3
 subst e
 cases L with
 |cons s L=>exact h1.elim
 |nil=>exact ⟨rfl,rfl,funext fun q=>(h2.upto q (by simp [OV.bG,a4])).symm⟩
theorem LLG.snoc {h g:aA} {L:List (List Int)} {o:Option Nat} {es:List (List OV)} (H:LLG h L (o,es,g)) {m b:Nat} (s:List Int) (hm:g m = none) (hb:g b = none) (hbm:¬ b = m):LLG h (L ++ [s]) (some b,es ++ [oI m s],a7 g m (mF s)) :=
 ⟨OR.append H.1 ⟨a5Z m s,trivial⟩,H.2.1.snoc (a50 s hm),by show a7 g m (mF s) b = none;rw [aF _ _ _ _ hbm];exact hb⟩
theorem wZ.snoc {es:List (List OV)} {g:aA} {m b:Nat} {s:List Int}:wZ (some b,es ++ [oI m s],a7 g m (mF s)) = a7 (a7 g m (mF s)) b (.row 1 (OV.cells es ++ [[.v (.os m 1 0 s.length)]])):=by
 rw [wZ,aK,aN8,aR2]
theorem LLG.done {h:aA} {L:List (List Int)} {x:LLx} (H:LLG h L x):∃ y:OV,OS (oL I) 1 L y∧y.val = eU 1 L.length x.1∧g8 h y.rows (wZ x):=by
 obtain ⟨o,es,g⟩:=x
 refine ⟨gov 1 es o,a4M H.1 H.2.2,?_,aY9 H.2.1 H.2.2⟩
 cases o with
 |none =>
  have:=H.nil
  rw [aLE,OV.yR,a8]
 |some n=>rw [aLF,OV.nJ,aT,H.len]
theorem a0J (x:List Int) (e:List OV) (h:oL I x e):e.map OV.lQ = [ints x]:=aV2 h
theorem sN {L:List (List Int)} {y:OV} (h:OS (oL I) 1 L y):y.lQ = bB L:=OS.lQ (c:=fun s=>[ints s]) a0J h
theorem a0K (x:List Int) (e:List OV) (h:oL I x e):OV.lT e = true:=by
 obtain ⟨y,rfl,hy⟩:=h
 rw [OV.lT,OS.sol (fun _ _ q=>aN4 (fun _=>rfl) q) hy];rfl
theorem aTI {L:List (List Int)} {y:OV} (h:OS (oL I) 1 L y):y.sol = true:=OS.sol a0K h
theorem aG.a51 {P:Program} {f:FuncId} {args args':List aC} {L:List (List Int)} {g:aA} {K:aC→aA→Prop} {t:Tag K} (a:rN P f args' (QS (OS (oL I) 1 L))) (hv:eD g args args') (k:K (bB L) g):aG P f args g K t :=
 aG.bBR a (fun y hy=>sN hy) (fun y hy=>aTI hy) hv k
theorem aJO {P:Program} {f:FuncId} {args:List aC} {L:List (List Int)} (a:rN P f args (QS (OS (oL I) 1 L))):dI P f args (bB L):=QS.cD a fun y hy=>sN hy
theorem LLG.fin {h g F:aA} {L:List (List Int)} {o:Option Nat} {es:List (List OV)} (H:LLG h L (o,es,g)) {m b sz:Nat} {s:List Int} (hs:s.length = sz) (hm:g m = none) (hb:g b = none) (hbm:¬ b = m) (hF:(a7 (a7 g m (mF s)) b (.row 1 (OV.cells es ++ [[.v (.os m 1 0 sz)]]))).le F) :
  ∃ x:LLx,x.1 = some b∧LLG h (L ++ [s]) x∧(wZ x).le F:=by
 subst hs
 exact ⟨_,rfl,H.snoc s hm hb hbm,by rw [wZ.snoc];exact hF⟩
theorem aCY {g F:aA} {n m b:Nat} {r X:bH} (hn:g n = none) (hmn:¬ m = n) (hbn:¬ b = n) (hF:∀ q,¬ q = n→F q = a7 (a7 g m r) b X q):(a7 (a7 g m r) b X).le F:=fun q=>by
 by_cases e:q = n
 ·rw [e,aF _ _ _ _ (Ne.symm hbn),aF _ _ _ _ (Ne.symm hmn)];exact .inl hn
 ·exact .inr (hF q e).symm
@[go_sem] def a0L:List Nat:=[0,2,5]
theorem aJP {l:List (List Int)} {sz n:Nat} (h:c5 sz n l) (hn:1≤n):dI Tryz.prog 114 [bB l] (I ((sz:Int) - 1)):=by
 have h0:=h.get (i:=0) (by omega)
 have h1:=h.1
 have e0:l[Int.toNat 0]? = some (l.getD 0 []):=h0.1
 have l0:=h0.2.1
 refine dJ 11 a0L bM bC mix Tryz.func114 rfl (by kernel_rfl) (by simp) fun h=>?_
 simp -dsimp -implicitDefEqProofs only [go_sem,↓reduceIte,Tryz.f114,e0,l0]
 exact fun _=>⟨fun q=>by omega,fun _=>⟨by omega,fun _=>IntWalk.i64_in _ (by omega)⟩⟩
abbrev j2 (l:List (List (List Int))):aC:=cY 1 (fun s=>[bB s]) l
@[go_sem] def aR3:List Nat:=[0,1,4,5,7,9,10,11,12]
@[go_sem] def a23:List Nat:=[8,20]
theorem aW8 (rg:List (List Int)) (L:List Int) (hr:∀ r∈L,0≤r∧r < rg.length) (hl:L.length≤1048576):dI Tryz.prog 140 [bB rg,ints L] (bB (L.map fun r=>rg.getD r.toNat [])):=by
 refine j7 24 aR3 a23 bC mix Tryz.func140 rfl (by kernel_rfl) (by simp) fun h=>?_
 simp -dsimp -implicitDefEqProofs only [go_sem,↓reduceIte,Tryz.f140]
 refine ⟨Nat.zero_lt_one,fun _=>?_⟩
 refine bQ (keep:=aR3) (ib:=a23) (mk:=bC) mix (by kernel_rfl) (fun x:Nat × Option Nat=>[(0,bB rg),(5,eU 1 ((L.map fun r=>rg.getD r.toNat []).take x.1).length x.2),(9,ints L),(10,I L.length),(11,I x.1)]) (fun x=>gB h (.row 1 ((((L.map fun r=>rg.getD r.toNat []).take x.1).map fun s=>[ints s]).map (List.map .v))) x.2) (fun x=>x.1≤L.length∧eF h ((L.map fun r=>rg.getD r.toNat []).take x.1) x.2) (fun x=>L.length - x.1) (0,none) ⟨by simp [bU,bF,eU],by simp only [aP];exact aA.le_refl _,Nat.zero_le _,by simp [eF]⟩ ?_
 rintro ⟨k,o⟩ ⟨hk,hos⟩
 simp only at hk hos ⊢
 rcases Nat.lt_or_ge k L.length with hlt | hge
 ·have ea:L[k]? = some L[k]:=List.getElem?_eq_getElem hlt
  have hr0:=hr _ (List.getElem_mem hlt)
  have eg:rg[L[k].toNat]? = some (rg.getD L[k].toNat []):=lN (by omega)
  have hy:(L.map fun r=>rg.getD r.toNat []).take (k + 1) = (L.map fun r=>rg.getD r.toNat []).take k ++ [rg.getD L[k].toNat []]:=by
   rw [List.take_succ_eq_append_getElem (by rw [List.length_map];exact hlt),List.getElem_map]
  have hlk:((L.map fun r=>rg.getD r.toNat []).take k).length = k:=by rw [List.length_take,List.length_map];omega
  generalize rg.getD L[k].toNat [] = s at *
  cases o with
  |none =>
   rw [a6] at hos
   rw [hos] at hy ⊢
   simp -dsimp -implicitDefEqProofs only [go_sem,↓reduceIte,Tryz.f140,a8,aP,hlt,ea,eg]
   refine ⟨hr0.1,hr0.2,?_⟩
   repeat' (with_reducible first | intro _ | refine And.intro ?_ ?_)
   all_goals try (first | omega | decide)
   rename_i b hb
   refine ⟨(k + 1,some b),?_⟩
   simp only [hy]
   refine ⟨⟨rfl,?_⟩,aA.le_refl _,⟨by omega,hb⟩,by omega⟩
   rw [IntWalk.i64_in _ (by omega)];rfl
  |some n =>
   rw [aU] at hos
   simp -dsimp -implicitDefEqProofs only [go_sem,↓reduceIte,Tryz.f140,aT,aK,hlt,ea,eg]
   refine ⟨hr0.1,hr0.2,?_⟩
   repeat' (with_reducible first | intro _ | refine And.intro ?_ ?_)
   all_goals try (first | omega | decide | exact Nat.le_refl _)
   rename_i b hb
   refine ⟨(k + 1,some b),?_⟩
   simp only [hy,aK,aT,aU]
   refine ⟨⟨by rw [List.length_append];rfl,?_⟩,?_,⟨by omega,hb.2⟩,by omega⟩
   ·rw [IntWalk.i64_in _ (by omega)];rfl
   ·rw [← dQ];exact iX hos
 ·have hk':k = L.length:=by omega
  subst hk'
  rw [List.take_of_length_le (by rw [List.length_map];exact Nat.le_refl _)] at hos ⊢
  cases o with
  |none =>
   rw [a6] at hos
   simp -dsimp -implicitDefEqProofs only [go_sem,↓reduceIte,Tryz.f140,a8,aP,Nat.lt_irrefl,Int.lt_irrefl]
   rw [hos]
   exact Shift.of (Sub.loose _ _ _) (aA.le_refl _)
  |some n =>
   rw [aU] at hos
   simp -dsimp -implicitDefEqProofs only [go_sem,↓reduceIte,Tryz.f140,aT,aK,Nat.lt_irrefl,Int.lt_irrefl]
   exact m5 _ hos (aA.le_refl _) (List.length_map _).symm
def aMQ (code:List aY) (L:List Int) (rg:List (List Int)) (sz inp o:Nat):List (List Int):=byK code (pM code rg (qL L (vO L.length o) (List.replicate code.length (vR sz)) L.length) code.length 0) sz inp code.length
def sO (code:List aY) (L:List Int) (rg:List (List Int)) (sz inp:Nat):List (List (List Int)):=(List.range L.length).map fun o=>aMQ code L rg sz inp o
@[go_sem] def aO6:List Nat:=[0,1,2,3,6,7,8,9,10,11,12,13,23,34,39,40,41]
@[go_sem] def a52:List Nat:=[3,36,51,55]
@[go_sem] def a53:Marks:=fun id=>match id with | 1=>([8,9],(.op 0 (.op 1 (.op 2 (.op 3 (.op 4 (.op 5 (.op 6 (.op 7 (.op 8 (.op 9 (.op 10 .nil))))))))))),[]) | 4=>([0],(.op 1 (.op 2 (.op 3 (.op 0 (.op 4 (.op 5 (.op 6 (.op 7 (.op 8 (.op 9 .nil)))))))))),[]) | 11=>([1,2,5,13],(.op 0 (.op 3 (.op 4 (.op 7 (.op 8 (.op 1 (.op 2 (.op 5 (.op 6 (.op 9 (.op 10 (.op 11 (.op 12 (.op 13 (.op 14 .nil))))))))))))))),[]) | _=>([],.nil,[])
theorem a54 {p:aE} (hp:p.ok) (hps:p.s≤4194304) {sz:Nat} (hsz:1≤sz∧sz≤1048576) (f:Int) (hf:0≤f∧f < p.aJ.length) {start L:List Int} {F:bY} {u:Nat} (ns:hH start) (hs:1≤start.length∧start.length≤12) (hl:∀ F,p.aJ[f.toNat]? = some F→(start.length:Int) = F.a9) (hr:rP p f start = .ok ((L,F),u)) (T:aR1 p f start L F u) {X:List (List Int)} (hX:St start sz X) :
  dI Tryz.prog 58 [.agg p.c,I f,bB X] (.gW [bB (L.map fun r=>lR sz X F.code r.toNat),j2 (sO F.code L (hJ sz X F.code F.code.length) sz start.length),I 0]):=by
 have hfi:=aV3 X (by rw [hX.1.1];omega) (fun s hs'=>by rw [(hX.1.2 s hs').1];exact hsz.1)
 have hfe:X.map (·.getD 0 0) = start:=by
  apply List.ext_getElem
  ·rw [List.length_map,hX.1.1]
  ·intro i a b
   have:=hX.2 i b
   rw [List.length_map] at a
   have h1:X[i] = X.getD i []:=by rw [List.getD_eq_getElem?_getD,List.getElem?_eq_getElem a];rfl
   have h2:start[i] = start.getD i 0:=by rw [List.getD_eq_getElem?_getD,List.getElem?_eq_getElem b];rfl
   rw [List.getElem_map,h1,h2];exact this
 rw [hfe] at hfi
 have hrc:=aWE hp hps f hf start ns (by omega) hl
 rw [show nQ p f start = (⟨start.length,F.code,F.guards,L⟩,0) by rw [nQ,hr]] at hrc
 have ho:=aJP hX.1 hs.1
 have hrg:=aTE ⟨start.length,F.code,F.guards,L⟩ hsz T.ins T.cap X hX.1.2 (by rw [hX.1.1]) (T.nz sz X hsz.1 hX)
 have hsr:c5 sz F.code.length (hJ sz X F.code F.code.length):=⟨jT _ _ _ _,fun s hs'=>by
  obtain ⟨i,hi,rfl⟩:=List.mem_iff_getElem.1 hs'
  rw [jT] at hi
  have h:=tQ (sz:=sz) T.ins hX.1.2 (by rw [hX.1.1]) i hi
  rwa [lR,List.getD_eq_getElem?_getD,List.getElem?_eq_getElem (by rw [jT];exact hi)] at h⟩
 have bBS:L.length≤100:=by
  have:=T.ok.lens
  simp only at this
  omega
 simp only [aE.aQ,jS.aQ] at hrc hrg ⊢
 refine j7 63 aO6 a52 a53 mix Tryz.func58 rfl (by kernel_rfl) (by simp) fun h=>?_
 simp -dsimp -implicitDefEqProofs only [go_sem,↓reduceIte,Tryz.f58]
 first | refine aG.mk (hfi) ?_ | refine aD.mk (hfi) ?_ | refine aG.a5 (hfi) ?_ | refine aD.mk (aX.cD (hfi)) ?_
 simp -dsimp -implicitDefEqProofs only [go_sem,↓reduceIte,Tryz.f58]
 first | refine aG.mk (hrc) ?_ | refine aD.mk (hrc) ?_ | refine aG.a5 (hrc) ?_ | refine aD.mk (aX.cD (hrc)) ?_
 simp -dsimp -implicitDefEqProofs only [go_sem,↓reduceIte,Tryz.f58]
 refine fun n zn=>?_
 try simp -dsimp -implicitDefEqProofs only [go_sem,↓reduceIte,Tryz.f58,aO]
 first | refine aG.mk (ho) ?_ | refine aD.mk (ho) ?_ | refine aG.a5 (ho) ?_ | refine aD.mk (aX.cD (ho)) ?_
 simp -dsimp -implicitDefEqProofs only [go_sem,↓reduceIte,Tryz.f58]
 first | refine aG.mk (hrg) ?_ | refine aD.mk (hrg) ?_ | refine aG.a5 (hrg) ?_ | refine aD.mk (aX.cD (hrg)) ?_
 simp -dsimp -implicitDefEqProofs only [go_sem,↓reduceIte,Tryz.f58]
 refine ⟨Nat.zero_lt_one,fun _=>?_⟩
 rw [aO]
 generalize hgB:a7 h n (.row 4 [[.v (I start.length),.v (cY 4 aY.c F.code),.v (cY 2 dT.c F.guards),.v (ints L)]]) = hB
 have hBn:hB n = some (.row 4 [[.v (I start.length),.v (cY 4 aY.c F.code),.v (cY 2 dT.c F.guards),.v (ints L)]]):=by rw [← hgB,aH]
 have hBl:h.le hB:=by rw [← hgB];exact aA.bI zn (aA.le_refl _)
 generalize hgr:hJ sz X F.code F.code.length = rg at *
 have hsl:(sO F.code L rg sz start.length).length = L.length:=by simp [sO]
 have hpk:=aW8 rg L (fun r hr'=>by have:=T.outs r hr';rw [hsr.1];exact this) (by omega)
 have hpe:(L.map fun r=>rg.getD r.toNat []) = L.map fun r=>lR sz X F.code r.toNat:=List.map_congr_left fun r _=>by rw [lR,hgr]
 rw [hpe] at hpk
 refine bQ (keep:=aO6) (ib:=a52) (mk:=a53) mix (by kernel_rfl) (fun x:Nat × Option Nat=>[(2,bB X),(9,.op n 4 0 0),(11,bB rg),(12,eU 1 ((sO F.code L rg sz start.length).take x.1).length x.2),(39,I L.length),(40,I x.1)]) (fun x=>gB hB (.row 1 ((((sO F.code L rg sz start.length).take x.1).map fun s=>[bB s]).map (List.map .v))) x.2) (fun x=>x.1≤L.length∧eF hB ((sO F.code L rg sz start.length).take x.1) x.2) (fun x=>L.length - x.1) (0,none) ⟨by simp [bU,bF,eU],by simp only [aP];exact aA.le_refl _,Nat.zero_le _,by simp [eF]⟩ ?_
 rintro ⟨k,o⟩ ⟨hk,hos⟩
 simp only at hk hos ⊢
 rcases Nat.lt_or_ge k L.length with hlt | hge
 ·have hy:(sO F.code L rg sz start.length).take (k + 1) = (sO F.code L rg sz start.length).take k ++ [aMQ F.code L rg sz start.length k]:=by
   rw [List.take_succ_eq_append_getElem (by omega)];simp [sO]
  have hlk:((sO F.code L rg sz start.length).take k).length = k:=by rw [List.length_take];omega
  have hu:=bAV L.length k (by omega) hlt
  have had:=aWP ⟨start.length,F.code,F.guards,L⟩ hsz T.ins ⟨T.one,T.cap⟩ rg hsr (vO L.length k) (by simp [vO]) (tR _ _) bBS T.outs
  have hA0:=vS (sz:=sz) hsz.1 T.outs (tR L.length k) L.length (Nat.le_refl _)
  have hA:=qM hsz T.ins hsr hA0 F.code.length 0 rfl
  have hby:=aWV ⟨start.length,F.code,F.guards,L⟩ hsz rfl hs.2 T.ins ⟨T.one,T.cap⟩ _ hA
  have heB:aMQ F.code L rg sz start.length k = byK F.code (pM F.code rg (qL L (vO L.length k) (List.replicate F.code.length (vR sz)) L.length) F.code.length 0) sz start.length F.code.length:=rfl
  simp only [jS.aQ] at had hby
  rw [← heB] at hby
  generalize aMQ F.code L rg sz start.length k = s at *
  cases o with
  |none =>
   rw [a6] at hos
   rw [hos] at hy ⊢
   simp -dsimp -implicitDefEqProofs only [go_sem,↓reduceIte,Tryz.f58,a8,aP,hlt,hBn]
   refine ⟨by decide,by decide,?_⟩
   first | refine aG.mk (hu) ?_ | refine aD.mk (hu) ?_ | refine aG.a5 (hu) ?_ | refine aD.mk (aX.cD (hu)) ?_
   simp -dsimp -implicitDefEqProofs only [go_sem,↓reduceIte,Tryz.f58]
   first | refine aG.mk (had) ?_ | refine aD.mk (had) ?_ | refine aG.a5 (had) ?_ | refine aD.mk (aX.cD (had)) ?_
   simp -dsimp -implicitDefEqProofs only [go_sem,↓reduceIte,Tryz.f58]
   first | refine aG.mk (hby) ?_ | refine aD.mk (hby) ?_ | refine aG.a5 (hby) ?_ | refine aD.mk (aX.cD (hby)) ?_
   simp -dsimp -implicitDefEqProofs only [go_sem,↓reduceIte,Tryz.f58]
   repeat' (with_reducible first | intro _ | refine And.intro ?_ ?_)
   all_goals try (first | omega | decide)
   rename_i b hb
   refine ⟨(k + 1,some b),?_⟩
   simp only [hy]
   refine ⟨⟨rfl,?_⟩,aA.le_refl _,⟨by omega,hb⟩,by omega⟩
   rw [IntWalk.i64_in _ (by omega)];rfl
  |some m =>
   rw [aU] at hos
   have jE:¬ m = n:=fun e=>by rw [e,hBn] at hos;cases hos
   have o5:¬ n = m:=Ne.symm jE
   have c8:(m = n) = False:=eq_false jE
   have c9:(n = m) = False:=eq_false o5
   simp -dsimp -implicitDefEqProofs only [go_sem,↓reduceIte,Tryz.f58,aT,aK,hlt,c8,c9,aF,hBn]
   refine ⟨by decide,by decide,?_⟩
   first | refine aG.mk (hu) ?_ | refine aD.mk (hu) ?_ | refine aG.a5 (hu) ?_ | refine aD.mk (aX.cD (hu)) ?_
   simp -dsimp -implicitDefEqProofs only [go_sem,↓reduceIte,Tryz.f58]
   first | refine aG.mk (had) ?_ | refine aD.mk (had) ?_ | refine aG.a5 (had) ?_ | refine aD.mk (aX.cD (had)) ?_
   simp -dsimp -implicitDefEqProofs only [go_sem,↓reduceIte,Tryz.f58]
   first | refine aG.mk (hby) ?_ | refine aD.mk (hby) ?_ | refine aG.a5 (hby) ?_ | refine aD.mk (aX.cD (hby)) ?_
   simp -dsimp -implicitDefEqProofs only [go_sem,↓reduceIte,Tryz.f58]
   repeat' (with_reducible first | intro _ | refine And.intro ?_ ?_)
   all_goals try (first | omega | decide | exact Nat.le_refl _)
   rename_i b hb
   refine ⟨(k + 1,some b),?_⟩
   simp only [hy,aK,aT,aU]
   refine ⟨⟨by rw [List.length_append];rfl,?_⟩,?_,⟨by omega,hb.2⟩,by omega⟩
   ·rw [IntWalk.i64_in _ (by omega)];rfl
   ·rw [← dQ];exact iX hos
 ·have hk':k = L.length:=by omega
  subst hk'
  rw [List.take_of_length_le (by omega)] at hos ⊢
  cases o with
  |none =>
   rw [a6] at hos
   simp -dsimp -implicitDefEqProofs only [go_sem,↓reduceIte,Tryz.f58,a8,aP,Nat.lt_irrefl,Int.lt_irrefl,hBn]
   first | refine aG.mk (hpk) ?_ | refine aD.mk (hpk) ?_ | refine aG.a5 (hpk) ?_ | refine aD.mk (aX.cD (hpk)) ?_
   simp -dsimp -implicitDefEqProofs only [go_sem,↓reduceIte,Tryz.f58]
   rw [hos]
   exact Shift.of (Sub.gW (.cons (.refl _) (.cons (Sub.loose _ _ _) (.cons (.refl _) .nil)))) hBl
  |some m =>
   rw [aU] at hos
   have jE:¬ m = n:=fun e=>by rw [e,hBn] at hos;cases hos
   have o5:¬ n = m:=Ne.symm jE
   have c8:(m = n) = False:=eq_false jE
   have c9:(n = m) = False:=eq_false o5
   simp -dsimp -implicitDefEqProofs only [go_sem,↓reduceIte,Tryz.f58,aT,aK,Nat.lt_irrefl,Int.lt_irrefl,c8,c9,aF,hBn]
   first | refine aG.mk (hpk) ?_ | refine aD.mk (hpk) ?_ | refine aG.a5 (hpk) ?_ | refine aD.mk (aX.cD (hpk)) ?_
   simp -dsimp -implicitDefEqProofs only [go_sem,↓reduceIte,Tryz.f58]
   refine Shift.trans (fH ((sO F.code L rg sz start.length).map fun s=>[bB s]) hos (aA.le_refl _) (by simp [dF,dG]) ?_) (cG hBl)
   simp [aC.cR,iF,List.take_of_length_le]
theorem aW9 {h:aA} {n:Nat} {l:List Int} {k:Nat} (hk:k = l.length) (hn:h n = some (mF l)):View h (.os n 1 0 k) (ints l):=by
 have h1:=View.ovD (h:=h) (d:=ints l) (OV.sl n 1 (l.map fun x=>[.v (I x)])) (OS.lQ (c:=fun n=>[I n]) (R:=oP I) (fun _ _ q=>xI q) (OS.mk (xJ l))) (fun p hp=>by
  rw [OV.cK,fW,eS,List.mem_singleton] at hp
  rw [hp];exact hn)
 rw [OV.iQ] at h1
 rwa [hk]
theorem LLG.keep {h:aA} {L:List (List Int)} {x:LLx} (H:LLG h L x) {q:Nat} {o:bH} (hq:h q = some o):wZ x q = some o:=by
 obtain ⟨op,es,g⟩:=x
 have h1:g q = some o:=H.2.1.keep hq
 cases op with
 |none=>exact h1
 |some n =>
  have h2:g n = none:=H.2.2
  have h3:¬ q = n:=fun e=>by rw [e,h2] at h1;cases h1
  rw [wZ,aK,aF _ _ _ _ h3];exact h1
theorem aXA {h g:aA} {Z:List (List Int)} {n sz b:Nat} {es:List (List OV)} (hes:OR (oL I) Z es) (hnw:g8 h (OV.bR [OV.sl b 1 es]) g) (hZ:c5 sz n Z) (hsz:1≤sz) {k:Nat} (hk:k < n) :
  ∃ m,es[k]? = some (oI m (Z.getD k []))∧(OV.cells es)[k]? = some [.v (.os m 1 0 sz)]∧g m = some (mF (Z.getD k []))∧¬ m = b:=by
 have hz:=hZ.get hk
 obtain ⟨e,he,y,rfl,hy⟩:=hes.bAH k _ hz.1
 rcases hy.vL with ⟨rfl,h0⟩ | ⟨m,rfl⟩
 ·have:=hz.2.1
  rw [h0] at this;simp at this;omega
 ·have hr:=hnw.bAU he
  refine ⟨m,he,?_,hr.1,hr.2⟩
  have:=aS0 he
  rw [this,List.map_singleton,OV.iQ,hz.2.1]
theorem aFE {code:List aY} {L:List Int} {rg:List (List Int)} {sz inp i:Nat} (hsz:1≤sz∧sz≤1048576) (hins:∀ i c,code[i]? = some c→bK inp i c) (hsr:c5 sz code.length rg) (ho:∀ r∈L,0≤r∧r < code.length):c5 sz inp (aMQ code L rg sz inp i) :=
 zE hins (qM hsz hins hsr (vS hsz.1 ho (tR L.length i) L.length (Nat.le_refl _)) code.length 0 rfl) code.length (Nat.le_refl _)
theorem zN {sz:Nat} {X:List (List Int)} {code:List aY} {inp:Nat} (hins:∀ i c,code[i]? = some c→bK inp i c) (hX:c5 sz inp X):c5 sz code.length (hJ sz X code code.length):=⟨jT _ _ _ _,fun s hs'=>by
 obtain ⟨i,hi,rfl⟩:=List.mem_iff_getElem.1 hs'
 rw [jT] at hi
 have h:=tQ (sz:=sz) hins hX.2 (by rw [hX.1]) i hi
 rwa [lR,List.getD_eq_getElem?_getD,List.getElem?_eq_getElem (by rw [jT];exact hi)] at h⟩
theorem a24:∀ {l:List Int} {X:List (List Int)},X.length = l.length→(∀ s∈X,1≤s.length)→(∀ i,i < l.length→(X.getD i []).getD 0 0 = l.getD i 0)→eR (l.map fun n=>[n]) X
 | [],[],_,_,_=>trivial
 |a :: l,[] :: X,_,h,_=>by have:=h [] List.mem_cons_self;simp at this
 |a :: l,(b :: s) :: X,hl,h,h0=>by
  have h1:=h0 0 (by simp)
  simp at h1
  subst h1
  exact ⟨.inr ⟨b,[],s,rfl,rfl⟩,a24 (by simpa using hl) (fun s hs=>h s (List.mem_cons_of_mem _ hs)) fun i hi=>by simpa using h0 (i + 1) (by simp;omega)⟩
 | [],_ :: _,h,_,_=>by simp at h
 | _ :: _,[],h,_,_=>by simp at h
theorem aCZ {p:aE} (hp:p.ok) {f:Int} (hf:0≤f∧f < p.aJ.length) {start:List Int} (ns:hH start) (hl:∀ F,p.aJ[f.toNat]? = some F→(start.length:Int) = F.a9) {c:Int} (h:rP p f start = .error c) :
  evF p 1 f (start.map fun n=>[n]) = .error c∧∀ sz X,1≤sz→St start sz X→evF p sz f X = .error c:=by
 have h1:=(aIS hp f hf start ns hl).2
 rw [h] at h1
 cases hX:evF p 1 f (start.map fun n=>[n]) with
 |ok q=>rw [hX] at h1;exact h1.elim
 |error d =>
  rw [hX] at h1
  have h2:c = d:=h1
  subst h2
  refine ⟨rfl,fun sz X hsz hX'=>?_⟩
  have h3:=aVN p 0 (sz - 1) f _ _ (a24 hX'.1.1 (fun s hs=>by rw [(hX'.1.2 s hs).1];exact hsz) hX'.2)
  rw [Nat.sub_add_cancel hsz,hX] at h3
  cases hY:evF p sz f X with
  |ok q=>rw [hY] at h3;exact h3.elim
  |error d =>
   rw [hY] at h3
   have h4:c = d:=h3
   rw [h4]
theorem aMR {h:aA} (c:Int):∃ r1 g l,Shift (.gW [.bO,I c]) h r1 g∧QS (OS (oL I) 1 []) (fun y=>.gW [y,I c]) r1 l∧g8 h l g :=
 ⟨.gW [(OV.nil 1).val,I c],h,[],Shift.of (Sub.gW (.cons (Sub.nil 1 true) (.cons (.refl _) .nil))) (aA.le_refl _),⟨_,OS.nil,rfl,by rw [OV.kZ]⟩,g8.nil h⟩
theorem aXB (p:aE) (hps:p.s≤4194304) (f:Int):dI Tryz.prog 161 [.ip 1 [p.c] 0 0,I f] (I (if p.ok then if 0≤f∧f≤(p.aJ.length:Int) - 1 then 0 else 2 else 1)):=by
 have hok:=bAM p hps
 have hl:=p.aG2
 rw [aE.aQ] at hok ⊢
 refine dJ 17 a0I bM bC mix Tryz.func161 rfl (by kernel_rfl) (by simp) fun h=>?_
 simp -dsimp -implicitDefEqProofs only [go_sem,↓reduceIte,Tryz.f161]
 refine aG.mk hok ?_
 simp -dsimp -implicitDefEqProofs only [go_sem,↓reduceIte,Tryz.f161]
 rw [IntWalk.i64_in ((p.aJ.length:Int) - 1) (by omega)]
 refine ⟨fun q=>by rw [if_neg q],fun q _=>?_⟩
 first | refine aG.mk (eH f 0 ((p.aJ.length:Int) - 1)) ?_ | refine aD.mk (eH f 0 ((p.aJ.length:Int) - 1)) ?_ | refine aG.a5 (eH f 0 ((p.aJ.length:Int) - 1)) ?_ | refine aD.mk (aX.cD (eH f 0 ((p.aJ.length:Int) - 1))) ?_
 simp -dsimp -implicitDefEqProofs only [go_sem,↓reduceIte,Tryz.f161]
 refine ⟨fun h=>by rw [if_pos q,if_neg h],fun h=>by rw [if_pos q,if_pos h]⟩
@[go_sem] def aR4:List Nat:=[0,1,2,6,7,8,9,10,11,19,31,39,52,59,65,78,91,104]
@[go_sem] def a25:List Nat:=[12,29,40,115]
@[go_sem] def a26:Marks:=fun id=>match id with | 10=>([2,4,7,9],(.op 0 (.op 1 (.op 5 (.op 6 (.op 2 (.op 3 (.op 4 (.op 7 (.op 8 (.op 9 (.op 10 (.op 11 .nil)))))))))))),[]) | 16=>([2,4,7,9],(.op 0 (.op 1 (.op 5 (.op 6 (.op 2 (.op 3 (.op 4 (.op 7 (.op 8 (.op 9 (.op 10 (.op 11 .nil)))))))))))),[]) | 18=>([2,4,7,9],(.op 0 (.op 1 (.op 5 (.op 6 (.op 2 (.op 3 (.op 4 (.op 7 (.op 8 (.op 9 (.op 10 (.op 11 .nil)))))))))))),[]) | 20=>([2,4,7,9],(.op 0 (.op 1 (.op 5 (.op 6 (.op 2 (.op 3 (.op 4 (.op 7 (.op 8 (.op 9 (.op 10 (.op 11 .nil)))))))))))),[]) | _=>([],.nil,[])
theorem aTJ (t:jS) {sz:Nat} (hsz:1≤sz∧sz≤1048576) (hins:∀ i c,t.aM[i]? = some c→bK t.gM i c) (hcl:t.aM.length≤3200) (args:List (List Int)) (ha:∀ s∈args,bD sz s) (hal:(args.length:Int) = t.gM)
  (hdiv:∀ (i:Nat) (c:aY),t.aM[i]? = some c→c.fX = 6→¬ (lR sz args t.aM c.fB.toNat).getD 0 0 = 0):dI Tryz.prog 127 [.ip 4 [t.c] 0 0,bB args,I sz] (.gW [bB (hJ sz args t.aM t.aM.length),.bool true]):=by
 rw [jS.aQ]
 refine j7 118 aR4 a25 a26 mix Tryz.func127 rfl (by kernel_rfl) (by simp) fun h=>?_
 simp -dsimp -implicitDefEqProofs only [go_sem,↓reduceIte,Tryz.f127]
 refine ⟨by decide,?_⟩
 refine bQ (keep:=aR4) (ib:=a25) (mk:=a26) mix (by kernel_rfl) (fun x:Nat × Option Nat=>[(0,.ip 4 [[I t.gM,cY 4 aY.c t.aM,cY 2 dT.c t.kV,ints t.aL]] 0 0),(1,bB args),(2,I sz),(8,eU 1 x.1 x.2),(9,I x.1)]) (fun x=>gB h (b7 (hJ sz args t.aM x.1)) x.2) (fun x=>x.1≤t.aM.length∧eF h (hJ sz args t.aM x.1) x.2) (fun x=>t.aM.length - x.1) (0,none) ⟨by simp [bU,bF,eU],aA.le_refl _,Nat.zero_le _,rfl⟩ ?_
 rintro ⟨k,o⟩ ⟨hk,hos⟩
 simp only at hk hos ⊢
 have hml:=jT sz args t.aM k
 rcases Nat.lt_or_ge k t.aM.length with hlt | hge
 ·have ek:t.aM[k]? = some t.aM[k]:=List.getElem?_eq_getElem hlt
  have hin:=hins k _ ek
  have hdk:=hdiv k _ ek
  have hst:hJ sz args t.aM (k + 1) = hJ sz args t.aM k ++ [uJ sz args (hJ sz args t.aM k) t.aM[k]]:=by
   rw [hJ,show t.aM.getD k ⟨0,0,0,0⟩ = t.aM[k] by rw [List.getD_eq_getElem?_getD,ek];rfl]
  have aMS:bD sz (uJ sz args (hJ sz args t.aM k) t.aM[k]):=by
   rw [← aI5 ek];exact tQ hins ha hal k hlt
  generalize hc:t.aM[k] = c at *
  generalize hR:hJ sz args t.aM k = R at *
  have hgR:∀ i:Int,0≤i∧i < k→R[i.toNat]? = some (R.getD i.toNat [])∧bD sz (R.getD i.toNat []):=fun i hi=>by
   refine ⟨lN (by omega),?_⟩
   have h1:=tQ (sz:=sz) hins ha hal i.toNat (by omega)
   rwa [lR,oZ sz args t.aM (k:=k) (by omega) _ (by omega),hR] at h1
  cases o with
  |none =>
   rw [a6] at hos
   subst hos
   obtain rfl:k = 0:=hml.symm
   have hnext:∀ (g:aA) (b:Nat) (s:List Int),s = uJ sz args [] c→h b = none→(a7 h b (b7 [s])).le g→∃ x':Nat × Option Nat,(aC.os b 1 0 1 = eU 1 x'.1 x'.2∧IntKind.i64.wrap (((0:Nat):Int) + 1) = (x'.1:Int))∧(gB h (b7 (hJ sz args t.aM x'.1)) x'.2).le g∧(x'.1≤t.aM.length∧eF h (hJ sz args t.aM x'.1) x'.2)∧t.aM.length - x'.1 < t.aM.length - 0:=fun g b s e z l=>by
    subst e
    exact ⟨(1,some b),⟨rfl,IntWalk.i64_in _ (by omega)⟩,by simp only [aK,hst];exact l,⟨hlt,z⟩,by simp only;omega⟩
   have uO:=jB (uJ sz args [] c) (by rw [aMS.1];omega)
   rcases (show c.fX = 1∨c.fX = 2 by unfold bK at hin;omega) with h1 | h1
   ·have hn:0≤c.aW∧c.aW < args.length:=by unfold bK at hin;omega
    have ea:args[c.aW.toNat]? = some (args.getD c.aW.toNat []):=lN (by omega)
    simp -dsimp -implicitDefEqProofs only [go_sem,↓reduceIte,Tryz.f127,a8,aP,hlt,ek,aY.aQ,h1,ea]
    refine fun _ m hm=>⟨Nat.zero_lt_one,hn.1,hn.2,?_⟩
    rw [show args.getD c.aW.toNat [] = uJ sz args [] c by rw [uJ,if_pos h1]]
    first | refine aG.mk (uO) ?_ | refine aD.mk (uO) ?_ | refine aG.a5 (uO) ?_ | refine aD.mk (aX.cD (uO)) ?_
    simp -dsimp -implicitDefEqProofs only [go_sem,↓reduceIte,Tryz.f127]
    refine ⟨by decide,by decide,by decide,fun b ⟨b1,_,b2⟩=>hnext _ b _ rfl b2 ?_⟩
    rw [aO]
    exact aA.fN (aA.bI hm (aA.le_refl _))
   ·simp -dsimp -implicitDefEqProofs only [go_sem,↓reduceIte,Tryz.f127,a8,aP,hlt,ek,aY.aQ,h1]
    refine fun _ m hm=>⟨Nat.zero_lt_one,?_⟩
    first | refine aG.mk (dR c.aW sz hsz.2) ?_ | refine aD.mk (dR c.aW sz hsz.2) ?_ | refine aG.a5 (dR c.aW sz hsz.2) ?_ | refine aD.mk (aX.cD (dR c.aW sz hsz.2)) ?_
    simp -dsimp -implicitDefEqProofs only [go_sem,↓reduceIte,Tryz.f127]
    rw [show bJ c.aW sz = uJ sz args [] c by rw [uJ,if_neg (by omega),if_pos h1]]
    first | refine aG.mk (uO) ?_ | refine aD.mk (uO) ?_ | refine aG.a5 (uO) ?_ | refine aD.mk (aX.cD (uO)) ?_
    simp -dsimp -implicitDefEqProofs only [go_sem,↓reduceIte,Tryz.f127]
    refine ⟨by decide,by decide,by decide,fun b ⟨b1,_,b2⟩=>hnext _ b _ rfl b2 ?_⟩
    rw [aO]
    exact aA.fN (aA.bI hm (aA.le_refl _))
  |some n =>
   rw [aU] at hos
   have hnext:∀ (g:aA) (b:Nat) (s:List Int),s = uJ sz args R c→h b = none→(a7 h b (b7 (R ++ [s]))).le g→∃ x':Nat × Option Nat,(aC.os b 1 0 (k + 1) = eU 1 x'.1 x'.2∧IntKind.i64.wrap ((k:Int) + 1) = (x'.1:Int))∧(gB h (b7 (hJ sz args t.aM x'.1)) x'.2).le g∧(x'.1≤t.aM.length∧eF h (hJ sz args t.aM x'.1) x'.2)∧t.aM.length - x'.1 < t.aM.length - k:=fun g b s e z l=>by
    subst e
    exact ⟨(k + 1,some b),⟨rfl,IntWalk.i64_in _ (by omega)⟩,by simp only [aK,hst];exact l,⟨hlt,z⟩,by simp only;omega⟩
   have hop:3≤c.fX→opW c.fX (R.getD c.fA.toNat []) (R.getD c.fB.toNat []) = uJ sz args R c:=fun q=>by rw [uJ,if_neg (by omega),if_neg (by omega)]
   have hor:=hin
   unfold bK at hor
   simp -dsimp -implicitDefEqProofs only [go_sem,↓reduceIte,Tryz.f127,aT,aK,hlt,ek,aY.aQ]
   refine fun _ m ⟨dm,zm⟩=>⟨Nat.zero_lt_one,?_⟩
   have jE:¬ m = n:=dm
   have o5:¬ n = m:=Ne.symm jE
   have c8:(m = n) = False:=eq_false jE
   have c9:(n = m) = False:=eq_false o5
   have qK:∀ X Y Z,h.le (a7 (a7 (a7 (a7 h n X) m Y) m Z) n .gone):=fun X Y Z q=>by
    by_cases e1:q = n
    ·subst e1;exact .inl hos
    by_cases e2:q = m
    ·subst e2;exact .inl zm
    rw [aF _ _ _ _ e1,aF _ _ _ _ e2,aF _ _ _ _ e2,aF _ _ _ _ e1];exact .inr rfl
   have uO:=jB (uJ sz args R c) (by rw [aMS.1];omega)
   rcases (show c.fX = 1∨c.fX = 2∨c.fX = 3∨c.fX = 4∨c.fX = 5∨c.fX = 6∨c.fX = 7 by omega) with h1 | h1 | h1 | h1 | h1 | h1 | h1
   ·have hn:0≤c.aW∧c.aW < args.length:=by omega
    have ea:args[c.aW.toNat]? = some (args.getD c.aW.toNat []):=lN (by omega)
    simp -dsimp -implicitDefEqProofs only [go_sem,↓reduceIte,Tryz.f127,h1,ea,c8,c9,aF,b7]
    refine ⟨hn.1,hn.2,?_⟩
    rw [show args.getD c.aW.toNat [] = uJ sz args R c by rw [uJ,if_pos h1]]
    first | refine aG.mk (uO) ?_ | refine aD.mk (uO) ?_ | refine aG.a5 (uO) ?_ | refine aD.mk (aX.cD (uO)) ?_
    simp -dsimp -implicitDefEqProofs only [go_sem,↓reduceIte,Tryz.f127,c8,c9,aF,b7]
    refine ⟨by decide,by decide,by decide,by omega,by omega,by omega,fun b hb=>hnext _ b _ rfl (by first | exact hb.2.2.2 | exact hb.2.2) ?_⟩
    try rw [dN R hml]
    exact aA.fN (qK _ _ _)
   ·simp -dsimp -implicitDefEqProofs only [go_sem,↓reduceIte,Tryz.f127,h1,c8,c9,aF,b7]
    first | refine aG.mk (dR c.aW sz hsz.2) ?_ | refine aD.mk (dR c.aW sz hsz.2) ?_ | refine aG.a5 (dR c.aW sz hsz.2) ?_ | refine aD.mk (aX.cD (dR c.aW sz hsz.2)) ?_
    simp -dsimp -implicitDefEqProofs only [go_sem,↓reduceIte,Tryz.f127,c8,c9,aF,b7]
    rw [show bJ c.aW sz = uJ sz args R c by rw [uJ,if_neg (by omega),if_pos h1]]
    first | refine aG.mk (uO) ?_ | refine aD.mk (uO) ?_ | refine aG.a5 (uO) ?_ | refine aD.mk (aX.cD (uO)) ?_
    simp -dsimp -implicitDefEqProofs only [go_sem,↓reduceIte,Tryz.f127,c8,c9,aF,b7]
    refine ⟨by decide,by decide,by decide,by omega,by omega,by omega,fun b hb=>hnext _ b _ rfl (by first | exact hb.2.2.2 | exact hb.2.2) ?_⟩
    try rw [dN R hml]
    exact aA.fN (qK _ _ _)
   ·have na:=hgR c.fA (by omega)
    have nb:=hgR c.fB (by omega)
    simp -dsimp -implicitDefEqProofs only [go_sem,↓reduceIte,Tryz.f127,h1,b7,na.1,nb.1,c8,c9,aF]
    refine ⟨by omega,by omega,by omega,by omega,?_⟩
    have hcall:=lX (R.getD c.fA.toNat []) (R.getD c.fB.toNat []) (by rw [nb.2.1,na.2.1]) (by rw [na.2.1];omega) na.2.2 nb.2.2
    rw [h1,show opW 3 (R.getD c.fA.toNat []) (R.getD c.fB.toNat []) = j8 (R.getD c.fA.toNat []) (R.getD c.fB.toNat []) from rfl] at hop
    rw [hop (by omega)] at hcall
    first | refine aG.mk (hcall) ?_ | refine aD.mk (hcall) ?_ | refine aG.a5 (hcall) ?_ | refine aD.mk (aX.cD (hcall)) ?_
    simp -dsimp -implicitDefEqProofs only [go_sem,↓reduceIte,Tryz.f127,b7,c8,c9,aF]
    first | refine aG.mk (uO) ?_ | refine aD.mk (uO) ?_ | refine aG.a5 (uO) ?_ | refine aD.mk (aX.cD (uO)) ?_
    simp -dsimp -implicitDefEqProofs only [go_sem,↓reduceIte,Tryz.f127,c8,c9,aF,b7]
    refine ⟨by decide,by decide,by decide,by omega,by omega,by omega,fun b hb=>hnext _ b _ rfl (by first | exact hb.2.2.2 | exact hb.2.2) ?_⟩
    try rw [dN R hml]
    exact aA.fN (qK _ _ _)
   ·have na:=hgR c.fA (by omega)
    have nb:=hgR c.fB (by omega)
    simp -dsimp -implicitDefEqProofs only [go_sem,↓reduceIte,Tryz.f127,h1,b7,na.1,nb.1,c8,c9,aF]
    refine ⟨by omega,by omega,by omega,by omega,?_⟩
    have hcall:=nO (R.getD c.fA.toNat []) (R.getD c.fB.toNat []) (by rw [nb.2.1,na.2.1]) (by rw [na.2.1];omega) na.2.2 nb.2.2
    rw [h1,show opW 4 (R.getD c.fA.toNat []) (R.getD c.fB.toNat []) = jQ (R.getD c.fA.toNat []) (R.getD c.fB.toNat []) from rfl] at hop
    rw [hop (by omega)] at hcall
    first | refine aG.mk (hcall) ?_ | refine aD.mk (hcall) ?_ | refine aG.a5 (hcall) ?_ | refine aD.mk (aX.cD (hcall)) ?_
    simp -dsimp -implicitDefEqProofs only [go_sem,↓reduceIte,Tryz.f127,b7,c8,c9,aF]
    first | refine aG.mk (uO) ?_ | refine aD.mk (uO) ?_ | refine aG.a5 (uO) ?_ | refine aD.mk (aX.cD (uO)) ?_
    simp -dsimp -implicitDefEqProofs only [go_sem,↓reduceIte,Tryz.f127,c8,c9,aF,b7]
    refine ⟨by decide,by decide,by decide,by omega,by omega,by omega,fun b hb=>hnext _ b _ rfl (by first | exact hb.2.2.2 | exact hb.2.2) ?_⟩
    try rw [dN R hml]
    exact aA.fN (qK _ _ _)
   ·have na:=hgR c.fA (by omega)
    have nb:=hgR c.fB (by omega)
    simp -dsimp -implicitDefEqProofs only [go_sem,↓reduceIte,Tryz.f127,h1,b7,na.1,nb.1,c8,c9,aF]
    refine ⟨by omega,by omega,by omega,by omega,?_⟩
    have hcall:=lY (R.getD c.fA.toNat []) (R.getD c.fB.toNat []) (by rw [nb.2.1,na.2.1]) (by rw [na.2.1];omega) na.2.2 nb.2.2
    rw [h1,show opW 5 (R.getD c.fA.toNat []) (R.getD c.fB.toNat []) = mulL (R.getD c.fA.toNat []) (R.getD c.fB.toNat []) from rfl] at hop
    rw [hop (by omega)] at hcall
    first | refine aG.mk (hcall) ?_ | refine aD.mk (hcall) ?_ | refine aG.a5 (hcall) ?_ | refine aD.mk (aX.cD (hcall)) ?_
    simp -dsimp -implicitDefEqProofs only [go_sem,↓reduceIte,Tryz.f127,b7,c8,c9,aF]
    first | refine aG.mk (uO) ?_ | refine aD.mk (uO) ?_ | refine aG.a5 (uO) ?_ | refine aD.mk (aX.cD (uO)) ?_
    simp -dsimp -implicitDefEqProofs only [go_sem,↓reduceIte,Tryz.f127,c8,c9,aF,b7]
    refine ⟨by decide,by decide,by decide,by omega,by omega,by omega,fun b hb=>hnext _ b _ rfl (by first | exact hb.2.2.2 | exact hb.2.2) ?_⟩
    try rw [dN R hml]
    exact aA.fN (qK _ _ _)
   ·have na:=hgR c.fA (by omega)
    have nb:=hgR c.fB (by omega)
    have hz:¬ (R.getD c.fB.toNat []).getD 0 0 = 0:=by
     have h2:=hdk h1
     rwa [lR,oZ sz args t.aM (k:=k) (by omega) _ (by omega),hR] at h2
    have gz:(R.getD c.fB.toNat [])[Int.toNat 0]? = some ((R.getD c.fB.toNat []).getD 0 0):=b9 (by rw [nb.2.1];exact hsz.1)
    have lz:=nb.2.1
    simp -dsimp -implicitDefEqProofs only [go_sem,↓reduceIte,Tryz.f127,h1,b7,na.1,nb.1,gz,hz,c8,c9,aF]
    refine ⟨by omega,by omega,by rw [lz];omega,by omega,by omega,by omega,by omega,?_⟩
    have hcall:=aAS (R.getD c.fA.toNat []) (R.getD c.fB.toNat []) (by rw [nb.2.1,na.2.1]) (by rw [na.2.1];omega) (by rw [na.2.1];omega) na.2.2 nb.2.2
    rw [h1,show opW 6 (R.getD c.fA.toNat []) (R.getD c.fB.toNat []) = gH (R.getD c.fA.toNat []) (R.getD c.fB.toNat []) from rfl] at hop
    rw [hop (by omega)] at hcall
    first | refine aG.mk (hcall) ?_ | refine aD.mk (hcall) ?_ | refine aG.a5 (hcall) ?_ | refine aD.mk (aX.cD (hcall)) ?_
    simp -dsimp -implicitDefEqProofs only [go_sem,↓reduceIte,Tryz.f127,b7,c8,c9,aF]
    first | refine aG.mk (uO) ?_ | refine aD.mk (uO) ?_ | refine aG.a5 (uO) ?_ | refine aD.mk (aX.cD (uO)) ?_
    simp -dsimp -implicitDefEqProofs only [go_sem,↓reduceIte,Tryz.f127,c8,c9,aF,b7]
    refine ⟨by decide,by decide,by decide,by omega,by omega,by omega,fun b hb=>hnext _ b _ rfl (by first | exact hb.2.2.2 | exact hb.2.2) ?_⟩
    try rw [dN R hml]
    exact aA.fN (qK _ _ _)
   ·have na:=hgR c.fA (by omega)
    simp -dsimp -implicitDefEqProofs only [go_sem,↓reduceIte,Tryz.f127,h1,b7,na.1,c8,c9,aF]
    refine ⟨by omega,by omega,?_⟩
    have hcall:=kJ (R.getD c.fA.toNat []) 1000002 (by unfold fP;omega) (by rw [na.2.1];omega) na.2.2
    rw [h1,show opW 7 (R.getD c.fA.toNat []) (R.getD c.fB.toNat []) = gS (R.getD c.fA.toNat []) 1000002 from rfl] at hop
    rw [hop (by omega)] at hcall
    first | refine aG.mk (hcall) ?_ | refine aD.mk (hcall) ?_ | refine aG.a5 (hcall) ?_ | refine aD.mk (aX.cD (hcall)) ?_
    simp -dsimp -implicitDefEqProofs only [go_sem,↓reduceIte,Tryz.f127,b7,c8,c9,aF]
    first | refine aG.mk (uO) ?_ | refine aD.mk (uO) ?_ | refine aG.a5 (uO) ?_ | refine aD.mk (aX.cD (uO)) ?_
    simp -dsimp -implicitDefEqProofs only [go_sem,↓reduceIte,Tryz.f127,c8,c9,aF,b7]
    refine ⟨by decide,by decide,by decide,by omega,by omega,by omega,fun b hb=>hnext _ b _ rfl (by first | exact hb.2.2.2 | exact hb.2.2) ?_⟩
    try rw [dN R hml]
    exact aA.fN (qK _ _ _)
 ·have hk':k = t.aM.length:=by omega
  subst hk'
  cases o with
  |none =>
   rw [a6] at hos
   simp -dsimp -implicitDefEqProofs only [go_sem,↓reduceIte,Tryz.f127,a8,aP,Nat.lt_irrefl,Int.lt_irrefl]
   rw [hos]
   exact fun _=>Shift.of (Sub.gW (.cons (Sub.loose _ _ _) (.cons (.refl _) .nil))) (aA.le_refl _)
  |some n =>
   rw [aU] at hos
   simp -dsimp -implicitDefEqProofs only [go_sem,↓reduceIte,Tryz.f127,aT,aK,Nat.lt_irrefl,Int.lt_irrefl]
   refine fun _=>fH ((hJ sz args t.aM t.aM.length).map fun s=>[ints s]) hos (aA.le_refl _) (by simp [dF,dG,jT]) ?_
   have hte:List.take t.aM.length ((hJ sz args t.aM t.aM.length).map fun s=>[ints s]) = (hJ sz args t.aM t.aM.length).map fun s=>[ints s]:=List.take_of_length_le (by rw [List.length_map,jT];exact Nat.le_refl _)
   simp [aC.cR,iF,hte]
theorem aAJ.bBT {P:Program} {N:Nat} {c:Code} {Q:Exit→bE→aA→Prop} {τ:bE} {h:aA} {t:Tag (c,Q)} (n:Nat) {sz:Nat} {es:List (List aC)} (hh:h n = none) (hb:τ.all (fun p=>dF n sz es.length p.2) = true)
  (x:aAJ P N c Q (τ.map fun p=>(p.1,p.2.cR n es)) (a7 h n .gone) ()):aAJ P N c Q τ (a7 h n (.row sz (es.map (List.map .v)))) t:=by
 have y:=mM.nV (c:=c) (Q:=Q) (τ:=τ) (N:=N) (P:=P) (h:=a7 h n (.row sz (es.map (List.map .v)))) n (sz:=sz) (es:=es.map (List.map .v)) (aH _ _ _) (by simpa using hb)
 rw [aO,kN] at y
 exact y x
theorem aXC (sz:Nat) (dirs:List (List Int)) (rg:Nat→List Int) {code:List aY} {k:Nat} {c:aY} (e:code[k]? = some c):zZ sz dirs rg code (k + 1) = zZ sz dirs rg code k ++ [qN sz dirs (fun i=>(zZ sz dirs rg code k).getD i []) rg k c]:=by rw [zZ,wM e]
@[go_sem] def aO7:List Nat:=[0,1,2,3,8,9,11,12,13,14,15,30,41,67,78,85,101,117,145,163]
@[go_sem] def a55:List Nat:=[23,65,76,83,99,115,143,154,156,178]
@[go_sem] def a56:Marks:=fun id=>match id with | 8=>([3,5,12,14,19,24],(.op 0 (.op 1 (.op 2 (.op 6 (.op 7 (.op 8 (.op 9 (.op 10 (.op 11 (.op 17 (.op 18 (.op 3 (.op 4 (.op 5 (.op 12 (.op 13 (.op 14 (.op 15 (.op 16 (.op 19 (.op 20 (.op 21 (.op 22 (.op 23 (.op 24 (.op 25 .nil)))))))))))))))))))))))))),[]) | 14=>([3,5,8,10,13],(.op 0 (.op 1 (.op 2 (.op 6 (.op 7 (.op 3 (.op 4 (.op 5 (.op 8 (.op 9 (.op 10 (.op 11 (.op 12 (.op 13 (.op 14 .nil))))))))))))))),[]) | 16=>([3,5,8,10,13],(.op 0 (.op 1 (.op 2 (.op 6 (.op 7 (.op 3 (.op 4 (.op 5 (.op 8 (.op 9 (.op 10 (.op 11 (.op 12 (.op 13 (.op 14 .nil))))))))))))))),[]) | 18=>([3,5,8,14,19,21,25],(.op 0 (.op 1 (.op 2 (.op 6 (.op 7 (.op 12 (.op 13 (.op 17 (.op 18 (.op 3 (.op 4 (.op 5 (.op 8 (.op 9 (.op 10 (.op 11 (.op 14 (.op 15 (.op 16 (.op 19 (.op 20 (.op 21 (.op 22 (.op 23 (.op 24 (.op 25 (.op 26 .nil))))))))))))))))))))))))))),[]) | _=>([],.nil,[])
set_option maxHeartbeats 1000000 in
theorem aO8 (t:jS) {sz inp:Nat} (hsz:1≤sz∧sz≤1048576) (hinp:t.gM = inp) (hins:∀ i c,t.aM[i]? = some c→bK inp i c) (hcl:1≤t.aM.length∧t.aM.length≤3200) {args dirs:List (List Int)} (ha:c5 sz inp args) (hd:c5 sz inp dirs)
  (hdiv:∀ (i:Nat) (c:aY),t.aM[i]? = some c→c.fX = 6→¬ (lR sz args t.aM c.fB.toNat).getD 0 0 = 0) (ho:∀ r∈t.aL,0≤r∧r < t.aM.length) (hol:t.aL.length≤1048576):rN Tryz.prog 52 [.ip 4 [t.c] 0 0,bB args,bB dirs,I sz] (QS (OS (oL I) 1 (t.aL.map fun r=>z3 sz dirs (lR sz args t.aM) t.aM r.toNat))):=by
 have hsr:=aTJ t hsz (by rw [hinp];exact hins) hcl.2 args ha.2 (by rw [ha.1,hinp]) hdiv
 have hrs:=zN hins ha
 have hrgd:∀ i,(hJ sz args t.aM t.aM.length).getD i [] = lR sz args t.aM i:=fun i=>rfl
 have hrgS:∀ i:Int,0≤i∧i < t.aM.length→(hJ sz args t.aM t.aM.length)[i.toNat]? = some (lR sz args t.aM i.toNat)∧bD sz (lR sz args t.aM i.toNat):=fun i hi=>by
  have:=hrs.get (i:=i.toNat) (by omega)
  rwa [hrgd] at this
 have hdS:∀ k,k < t.aM.length→bD sz (z3 sz dirs (lR sz args t.aM) t.aM k):=fun k hk=>aJF hsz.1 hins hd.2 (by rw [hd.1]) (fun k hk=>(hrgS k (by omega)).2) (k + 1) k (by omega) hk
 generalize hJ sz args t.aM t.aM.length = rs at *
 generalize hrg:lR sz args t.aM = rg at *
 rw [jS.aQ] at hsr ⊢
 refine pI 181 aO7 a55 a56 mix Tryz.func52 rfl (by kernel_rfl) (by simp) fun h=>?_
 simp -dsimp -implicitDefEqProofs only [go_sem,↓reduceIte,Tryz.f52]
 first | refine aG.mk (hsr) ?_ | refine aD.mk (hsr) ?_ | refine aG.a5 (hsr) ?_ | refine aD.mk (aX.cD (hsr)) ?_
 simp -dsimp -implicitDefEqProofs only [go_sem,↓reduceIte,Tryz.f52]
 refine ⟨by decide,?_⟩
 refine bQ (keep:=aO7) (ib:=a55) (mk:=a56) mix (by kernel_rfl) (fun x:Nat × Option Nat=>[(0,.ip 4 [[I t.gM,cY 4 aY.c t.aM,cY 2 dT.c t.kV,ints t.aL]] 0 0),(2,bB dirs),(3,I sz),(9,bB rs),(11,eU 1 x.1 x.2),(12,I x.1)]) (fun x=>gB h (b7 (zZ sz dirs rg t.aM x.1)) x.2) (fun x=>x.1≤t.aM.length∧eF h (zZ sz dirs rg t.aM x.1) x.2) (fun x=>t.aM.length - x.1) (0,none) ⟨by simp [bU,bF,eU],aA.le_refl _,Nat.zero_le _,rfl⟩ ?_
 rintro ⟨k,o⟩ ⟨hk,hos⟩
 simp only at hk hos ⊢
 have hml:=wP sz dirs rg t.aM k
 rcases Nat.lt_or_ge k t.aM.length with hlt | hge
 ·have ek:t.aM[k]? = some t.aM[k]:=List.getElem?_eq_getElem hlt
  have hin:=hins k _ ek
  have hst:=aXC sz dirs rg ek
  have hkr:=hrgS (k:Int) (by omega)
  rw [Int.toNat_natCast] at hkr
  have aMS:=hdS k hlt
  rw [aE6 ek hin] at aMS
  generalize hc:t.aM[k] = c at *
  have hgR:∀ i:Int,0≤i∧i < k→(zZ sz dirs rg t.aM k)[i.toNat]? = some ((zZ sz dirs rg t.aM k).getD i.toNat [])∧bD sz ((zZ sz dirs rg t.aM k).getD i.toNat []):=fun i hi=>by
   refine ⟨lN (by omega),?_⟩
   have h1:=hdS i.toNat (by omega)
   rwa [z3,zH sz dirs rg t.aM (k:=k) (by omega) _ (by omega)] at h1
  have hdo:qN sz dirs (z3 sz dirs rg t.aM) rg k c = qN sz dirs (fun i=>(zZ sz dirs rg t.aM k).getD i []) rg k c:=by
   rw [← aE6 ek hin,z3,zH sz dirs rg t.aM (k:=k + 1) (by omega) _ (by omega),hst,List.getD_eq_getElem?_getD,List.getElem?_append_right (by rw [hml];exact Nat.le_refl _),hml,Nat.sub_self];rfl
  rw [hdo] at aMS
  generalize hR:zZ sz dirs rg t.aM k = R at *
  clear hdo hdS
  cases o with
  |none =>
   rw [a6] at hos
   subst hos
   obtain rfl:k = 0:=hml.symm
   have hnext:∀ (g:aA) (b:Nat) (s:List Int),s = qN sz dirs (fun i=>([]:List (List Int)).getD i []) rg 0 c→h b = none→(a7 h b (b7 [s])).le g→∃ x':Nat × Option Nat,(aC.os b 1 0 1 = eU 1 x'.1 x'.2∧IntKind.i64.wrap (((0:Nat):Int) + 1) = (x'.1:Int))∧(gB h (b7 (zZ sz dirs rg t.aM x'.1)) x'.2).le g∧(x'.1≤t.aM.length∧eF h (zZ sz dirs rg t.aM x'.1) x'.2)∧t.aM.length - x'.1 < t.aM.length - 0:=fun g b s e z l=>by
    subst e
    exact ⟨(1,some b),⟨rfl,IntWalk.i64_in _ (by omega)⟩,by simp only [aK,hst];exact l,⟨hlt,z⟩,by simp only;omega⟩
   rcases (show c.fX = 1∨c.fX = 2 by unfold bK at hin;omega) with h1 | h1
   ·have hn:0≤c.aW∧c.aW < inp:=by unfold bK at hin;omega
    have ea:=hd.get (i:=c.aW.toNat) (by omega)
    have edl:=hd.1
    simp -dsimp -implicitDefEqProofs only [go_sem,↓reduceIte,Tryz.f52,a8,aP,hlt,ek,aY.aQ,h1,ea.1,edl]
    refine fun _ m hm=>⟨hn.1,hn.2,?_⟩
    first | refine aG.mk (jB (dirs.getD c.aW.toNat []) (by rw [ea.2.1];omega)) ?_ | refine aD.mk (jB (dirs.getD c.aW.toNat []) (by rw [ea.2.1];omega)) ?_ | refine aG.a5 (jB (dirs.getD c.aW.toNat []) (by rw [ea.2.1];omega)) ?_ | refine aD.mk (aX.cD (jB (dirs.getD c.aW.toNat []) (by rw [ea.2.1];omega))) ?_
    simp -dsimp -implicitDefEqProofs only [go_sem,↓reduceIte,Tryz.f52]
    refine ⟨by decide,by decide,by decide,fun b ⟨b1,_,b2⟩=>hnext _ b _ (by rw [qN,if_pos h1]) b2 ?_⟩
    rw [aO]
    exact aA.fN (aA.bI hm (aA.le_refl _))
   ·simp -dsimp -implicitDefEqProofs only [go_sem,↓reduceIte,Tryz.f52,a8,aP,hlt,ek,aY.aQ,h1]
    refine fun _ m hm=>?_
    first | refine aG.mk (dR 0 sz hsz.2) ?_ | refine aD.mk (dR 0 sz hsz.2) ?_ | refine aG.a5 (dR 0 sz hsz.2) ?_ | refine aD.mk (aX.cD (dR 0 sz hsz.2)) ?_
    simp -dsimp -implicitDefEqProofs only [go_sem,↓reduceIte,Tryz.f52]
    refine ⟨by decide,by decide,by decide,fun b ⟨b1,_,b2⟩=>hnext _ b _ (by rw [qN,if_neg (by omega),if_pos h1]) b2 ?_⟩
    rw [aO]
    exact aA.fN (aA.bI hm (aA.le_refl _))
  |some n =>
   rw [aU] at hos
   have hnext:∀ (g:aA) (b:Nat) (s:List Int),s = qN sz dirs (fun i=>R.getD i []) rg k c→h b = none→(a7 h b (b7 (R ++ [s]))).le g→∃ x':Nat × Option Nat,(aC.os b 1 0 (k + 1) = eU 1 x'.1 x'.2∧IntKind.i64.wrap ((k:Int) + 1) = (x'.1:Int))∧(gB h (b7 (zZ sz dirs rg t.aM x'.1)) x'.2).le g∧(x'.1≤t.aM.length∧eF h (zZ sz dirs rg t.aM x'.1) x'.2)∧t.aM.length - x'.1 < t.aM.length - k:=fun g b s e z l=>by
    subst e
    exact ⟨(k + 1,some b),⟨rfl,IntWalk.i64_in _ (by omega)⟩,by simp only [aK,hst];exact l,⟨hlt,z⟩,by simp only;omega⟩
   have hor:=hin
   unfold bK at hor
   simp -dsimp -implicitDefEqProofs only [go_sem,↓reduceIte,Tryz.f52,aT,aK,hlt,ek,aY.aQ]
   refine fun _ m ⟨dm,zm⟩=>?_
   have jE:¬ m = n:=dm
   have o5:¬ n = m:=Ne.symm jE
   have c8:(m = n) = False:=eq_false jE
   have c9:(n = m) = False:=eq_false o5
   have qK:∀ X Y Z,h.le (a7 (a7 (a7 (a7 h n X) m Y) m Z) n .gone):=fun X Y Z q=>by
    by_cases e1:q = n
    ·subst e1;exact .inl hos
    by_cases e2:q = m
    ·subst e2;exact .inl zm
    rw [aF _ _ _ _ e1,aF _ _ _ _ e2,aF _ _ _ _ e2,aF _ _ _ _ e1];exact .inr rfl
   rcases (show c.fX = 1∨c.fX = 2∨c.fX = 3∨c.fX = 4∨c.fX = 5∨c.fX = 6∨c.fX = 7 by omega) with h1 | h1 | h1 | h1 | h1 | h1 | h1
   ·have hn:0≤c.aW∧c.aW < inp:=by omega
    have ea:=hd.get (i:=c.aW.toNat) (by omega)
    have edl:=hd.1
    simp -dsimp -implicitDefEqProofs only [go_sem,↓reduceIte,Tryz.f52,h1,ea.1,edl,c8,c9,aF,b7]
    refine ⟨hn.1,hn.2,?_⟩
    first | refine aG.mk (jB (dirs.getD c.aW.toNat []) (by rw [ea.2.1];omega)) ?_ | refine aD.mk (jB (dirs.getD c.aW.toNat []) (by rw [ea.2.1];omega)) ?_ | refine aG.a5 (jB (dirs.getD c.aW.toNat []) (by rw [ea.2.1];omega)) ?_ | refine aD.mk (aX.cD (jB (dirs.getD c.aW.toNat []) (by rw [ea.2.1];omega))) ?_
    simp -dsimp -implicitDefEqProofs only [go_sem,↓reduceIte,Tryz.f52,c8,c9,aF,b7]
    refine ⟨by decide,by decide,by decide,by omega,by omega,by omega,fun b hb=>hnext _ b _ (by rw [qN,if_pos h1]) (by first | exact hb.2.2.2 | exact hb.2.2) ?_⟩
    try rw [dN R hml]
    exact aA.fN (qK _ _ _)
   ·simp -dsimp -implicitDefEqProofs only [go_sem,↓reduceIte,Tryz.f52,h1,c8,c9,aF,b7]
    first | refine aG.mk (dR 0 sz hsz.2) ?_ | refine aD.mk (dR 0 sz hsz.2) ?_ | refine aG.a5 (dR 0 sz hsz.2) ?_ | refine aD.mk (aX.cD (dR 0 sz hsz.2)) ?_
    simp -dsimp -implicitDefEqProofs only [go_sem,↓reduceIte,Tryz.f52,c8,c9,aF,b7]
    refine ⟨by decide,by decide,by decide,by omega,by omega,by omega,fun b hb=>hnext _ b _ (by rw [qN,if_neg (by omega),if_pos h1]) (by first | exact hb.2.2.2 | exact hb.2.2) ?_⟩
    try rw [dN R hml]
    exact aA.fN (qK _ _ _)
   ·have na:=hgR c.fA (by omega)
    have nb:=hgR c.fB (by omega)
    simp -dsimp -implicitDefEqProofs only [go_sem,↓reduceIte,Tryz.f52,h1,b7,na.1,nb.1,c8,c9,aF]
    refine ⟨by omega,by omega,by omega,by omega,?_⟩
    first | refine aG.mk (lX (R.getD c.fA.toNat []) (R.getD c.fB.toNat []) (by rw [nb.2.1,na.2.1]) (by rw [na.2.1];omega) na.2.2 nb.2.2) ?_ | refine aD.mk (lX (R.getD c.fA.toNat []) (R.getD c.fB.toNat []) (by rw [nb.2.1,na.2.1]) (by rw [na.2.1];omega) na.2.2 nb.2.2) ?_ | refine aG.a5 (lX (R.getD c.fA.toNat []) (R.getD c.fB.toNat []) (by rw [nb.2.1,na.2.1]) (by rw [na.2.1];omega) na.2.2 nb.2.2) ?_ | refine aD.mk (aX.cD (lX (R.getD c.fA.toNat []) (R.getD c.fB.toNat []) (by rw [nb.2.1,na.2.1]) (by rw [na.2.1];omega) na.2.2 nb.2.2)) ?_
    simp -dsimp -implicitDefEqProofs only [go_sem,↓reduceIte,Tryz.f52,b7,c8,c9,aF]
    refine ⟨by decide,by decide,by decide,by omega,by omega,by omega,fun b hb=>hnext _ b _ (by rw [qN,if_neg (by omega),if_neg (by omega),if_pos h1]) (by first | exact hb.2.2.2 | exact hb.2.2) ?_⟩
    try rw [dN R hml]
    exact aA.fN (qK _ _ _)
   ·have na:=hgR c.fA (by omega)
    have nb:=hgR c.fB (by omega)
    simp -dsimp -implicitDefEqProofs only [go_sem,↓reduceIte,Tryz.f52,h1,b7,na.1,nb.1,c8,c9,aF]
    refine ⟨by omega,by omega,by omega,by omega,?_⟩
    first | refine aG.mk (nO (R.getD c.fA.toNat []) (R.getD c.fB.toNat []) (by rw [nb.2.1,na.2.1]) (by rw [na.2.1];omega) na.2.2 nb.2.2) ?_ | refine aD.mk (nO (R.getD c.fA.toNat []) (R.getD c.fB.toNat []) (by rw [nb.2.1,na.2.1]) (by rw [na.2.1];omega) na.2.2 nb.2.2) ?_ | refine aG.a5 (nO (R.getD c.fA.toNat []) (R.getD c.fB.toNat []) (by rw [nb.2.1,na.2.1]) (by rw [na.2.1];omega) na.2.2 nb.2.2) ?_ | refine aD.mk (aX.cD (nO (R.getD c.fA.toNat []) (R.getD c.fB.toNat []) (by rw [nb.2.1,na.2.1]) (by rw [na.2.1];omega) na.2.2 nb.2.2)) ?_
    simp -dsimp -implicitDefEqProofs only [go_sem,↓reduceIte,Tryz.f52,b7,c8,c9,aF]
    refine ⟨by decide,by decide,by decide,by omega,by omega,by omega,fun b hb=>hnext _ b _ (by rw [qN,if_neg (by omega),if_neg (by omega),if_neg (by omega),if_pos h1]) (by first | exact hb.2.2.2 | exact hb.2.2) ?_⟩
    try rw [dN R hml]
    exact aA.fN (qK _ _ _)
   ·have na:=hgR c.fA (by omega)
    have nb:=hgR c.fB (by omega)
    have ra:=hrgS c.fA (by omega)
    have rb:=hrgS c.fB (by omega)
    have erl:=hrs.1
    simp -dsimp -implicitDefEqProofs only [go_sem,↓reduceIte,Tryz.f52,h1,b7,na.1,nb.1,ra.1,rb.1,erl,c8,c9,aF]
    refine ⟨by omega,by omega,by omega,by omega,?_⟩
    have m1:=cE (rg c.fB.toNat) na.2
    have m2:=cE (R.getD c.fB.toNat []) ra.2
    first | refine aG.mk (lY (R.getD c.fA.toNat []) (rg c.fB.toNat) (by rw [rb.2.1,na.2.1]) (by rw [na.2.1];omega) na.2.2 rb.2.2) ?_ | refine aD.mk (lY (R.getD c.fA.toNat []) (rg c.fB.toNat) (by rw [rb.2.1,na.2.1]) (by rw [na.2.1];omega) na.2.2 rb.2.2) ?_ | refine aG.a5 (lY (R.getD c.fA.toNat []) (rg c.fB.toNat) (by rw [rb.2.1,na.2.1]) (by rw [na.2.1];omega) na.2.2 rb.2.2) ?_ | refine aD.mk (aX.cD (lY (R.getD c.fA.toNat []) (rg c.fB.toNat) (by rw [rb.2.1,na.2.1]) (by rw [na.2.1];omega) na.2.2 rb.2.2)) ?_
    simp -dsimp -implicitDefEqProofs only [go_sem,↓reduceIte,Tryz.f52,b7,na.1,nb.1,ra.1,rb.1,erl,c8,c9,aF]
    refine ⟨by omega,by omega,by omega,by omega,?_⟩
    first | refine aG.mk (lY (rg c.fA.toNat) (R.getD c.fB.toNat []) (by rw [nb.2.1,ra.2.1]) (by rw [ra.2.1];omega) ra.2.2 nb.2.2) ?_ | refine aD.mk (lY (rg c.fA.toNat) (R.getD c.fB.toNat []) (by rw [nb.2.1,ra.2.1]) (by rw [ra.2.1];omega) ra.2.2 nb.2.2) ?_ | refine aG.a5 (lY (rg c.fA.toNat) (R.getD c.fB.toNat []) (by rw [nb.2.1,ra.2.1]) (by rw [ra.2.1];omega) ra.2.2 nb.2.2) ?_ | refine aD.mk (aX.cD (lY (rg c.fA.toNat) (R.getD c.fB.toNat []) (by rw [nb.2.1,ra.2.1]) (by rw [ra.2.1];omega) ra.2.2 nb.2.2)) ?_
    simp -dsimp -implicitDefEqProofs only [go_sem,↓reduceIte,Tryz.f52,b7,c8,c9,aF]
    first | refine aG.mk (lX _ _ (by rw [m2.1,m1.1]) (by rw [m1.1];omega) m1.2 m2.2) ?_ | refine aD.mk (lX _ _ (by rw [m2.1,m1.1]) (by rw [m1.1];omega) m1.2 m2.2) ?_ | refine aG.a5 (lX _ _ (by rw [m2.1,m1.1]) (by rw [m1.1];omega) m1.2 m2.2) ?_ | refine aD.mk (aX.cD (lX _ _ (by rw [m2.1,m1.1]) (by rw [m1.1];omega) m1.2 m2.2)) ?_
    simp -dsimp -implicitDefEqProofs only [go_sem,↓reduceIte,Tryz.f52,b7,c8,c9,aF]
    refine ⟨by decide,by decide,by decide,by omega,by omega,by omega,fun b hb=>hnext _ b _ (by rw [qN,if_neg (by omega),if_neg (by omega),if_neg (by omega),if_neg (by omega),if_pos h1]) (by first | exact hb.2.2.2 | exact hb.2.2) ?_⟩
    try rw [dN R hml]
    exact aA.fN (qK _ _ _)
   ·have na:=hgR c.fA (by omega)
    have nb:=hgR c.fB (by omega)
    have rb:=hrgS c.fB (by omega)
    have erl:=hrs.1
    simp -dsimp -implicitDefEqProofs only [go_sem,↓reduceIte,Tryz.f52,h1,b7,na.1,nb.1,hkr.1,rb.1,erl,c8,c9,aF]
    refine ⟨by omega,by omega,by omega,by omega,by omega,?_⟩
    have m1:=cE (R.getD c.fB.toNat []) hkr.2
    have m2:=lB na.2 m1
    first | refine aG.mk (lY (rg k) (R.getD c.fB.toNat []) (by rw [nb.2.1,hkr.2.1]) (by rw [hkr.2.1];omega) hkr.2.2 nb.2.2) ?_ | refine aD.mk (lY (rg k) (R.getD c.fB.toNat []) (by rw [nb.2.1,hkr.2.1]) (by rw [hkr.2.1];omega) hkr.2.2 nb.2.2) ?_ | refine aG.a5 (lY (rg k) (R.getD c.fB.toNat []) (by rw [nb.2.1,hkr.2.1]) (by rw [hkr.2.1];omega) hkr.2.2 nb.2.2) ?_ | refine aD.mk (aX.cD (lY (rg k) (R.getD c.fB.toNat []) (by rw [nb.2.1,hkr.2.1]) (by rw [hkr.2.1];omega) hkr.2.2 nb.2.2)) ?_
    simp -dsimp -implicitDefEqProofs only [go_sem,↓reduceIte,Tryz.f52,b7,na.1,nb.1,hkr.1,rb.1,erl,c8,c9,aF]
    first | refine aG.mk (nO (R.getD c.fA.toNat []) _ (by rw [m1.1,na.2.1]) (by rw [na.2.1];omega) na.2.2 m1.2) ?_ | refine aD.mk (nO (R.getD c.fA.toNat []) _ (by rw [m1.1,na.2.1]) (by rw [na.2.1];omega) na.2.2 m1.2) ?_ | refine aG.a5 (nO (R.getD c.fA.toNat []) _ (by rw [m1.1,na.2.1]) (by rw [na.2.1];omega) na.2.2 m1.2) ?_ | refine aD.mk (aX.cD (nO (R.getD c.fA.toNat []) _ (by rw [m1.1,na.2.1]) (by rw [na.2.1];omega) na.2.2 m1.2)) ?_
    simp -dsimp -implicitDefEqProofs only [go_sem,↓reduceIte,Tryz.f52,b7,na.1,nb.1,hkr.1,rb.1,erl,c8,c9,aF]
    refine ⟨by omega,by omega,?_⟩
    first | refine aG.mk (aAS _ (rg c.fB.toNat) (by rw [rb.2.1,m2.1]) (by rw [m2.1];omega) (by rw [m2.1];omega) m2.2 rb.2.2) ?_ | refine aD.mk (aAS _ (rg c.fB.toNat) (by rw [rb.2.1,m2.1]) (by rw [m2.1];omega) (by rw [m2.1];omega) m2.2 rb.2.2) ?_ | refine aG.a5 (aAS _ (rg c.fB.toNat) (by rw [rb.2.1,m2.1]) (by rw [m2.1];omega) (by rw [m2.1];omega) m2.2 rb.2.2) ?_ | refine aD.mk (aX.cD (aAS _ (rg c.fB.toNat) (by rw [rb.2.1,m2.1]) (by rw [m2.1];omega) (by rw [m2.1];omega) m2.2 rb.2.2)) ?_
    simp -dsimp -implicitDefEqProofs only [go_sem,↓reduceIte,Tryz.f52,b7,c8,c9,aF]
    refine ⟨by decide,by decide,by decide,by omega,by omega,by omega,fun b hb=>hnext _ b _ (by rw [qN,if_neg (by omega),if_neg (by omega),if_neg (by omega),if_neg (by omega),if_neg (by omega),if_neg (by omega)]) (by first | exact hb.2.2.2 | exact hb.2.2) ?_⟩
    try rw [dN R hml]
    exact aA.fN (qK _ _ _)
   ·have na:=hgR c.fA (by omega)
    simp -dsimp -implicitDefEqProofs only [go_sem,↓reduceIte,Tryz.f52,h1,b7,na.1,c8,c9,aF]
    refine ⟨by omega,by omega,?_⟩
    first | refine aG.mk (kJ (R.getD c.fA.toNat []) 1000002 (by unfold fP;omega) (by rw [na.2.1];omega) na.2.2) ?_ | refine aD.mk (kJ (R.getD c.fA.toNat []) 1000002 (by unfold fP;omega) (by rw [na.2.1];omega) na.2.2) ?_ | refine aG.a5 (kJ (R.getD c.fA.toNat []) 1000002 (by unfold fP;omega) (by rw [na.2.1];omega) na.2.2) ?_ | refine aD.mk (aX.cD (kJ (R.getD c.fA.toNat []) 1000002 (by unfold fP;omega) (by rw [na.2.1];omega) na.2.2)) ?_
    simp -dsimp -implicitDefEqProofs only [go_sem,↓reduceIte,Tryz.f52,b7,c8,c9,aF]
    refine ⟨by decide,by decide,by decide,by omega,by omega,by omega,fun b hb=>hnext _ b _ (by rw [qN,if_neg (by omega),if_neg (by omega),if_neg (by omega),if_neg (by omega),if_neg (by omega),if_pos h1]) (by first | exact hb.2.2.2 | exact hb.2.2) ?_⟩
    try rw [dN R hml]
    exact aA.fN (qK _ _ _)
 ·have hk':k = t.aM.length:=by omega
  subst hk'
  have hdg:∀ r,(zZ sz dirs rg t.aM t.aM.length).getD r [] = z3 sz dirs rg t.aM r:=fun r=>rfl
  have hmap:(t.aL.map fun r=>z3 sz dirs rg t.aM r.toNat).length = t.aL.length:=List.length_map _
  generalize hD:zZ sz dirs rg t.aM t.aM.length = D at *
  have hDget:∀ r,0≤r∧r < (t.aM.length:Int)→D[r.toNat]? = some (z3 sz dirs rg t.aM r.toNat):=fun r hr=>by
   rw [← hdg];exact lN (by omega)
  cases o with
  |none =>
   rw [a6] at hos
   rw [hos] at hml;simp at hml;omega
  |some nd =>
   rw [aU] at hos
   simp -dsimp -implicitDefEqProofs only [go_sem,↓reduceIte,Tryz.f52,aT,aK,Nat.lt_irrefl,Int.lt_irrefl]
   refine fun _=>⟨Nat.zero_lt_one,?_⟩
   have hDl:D.length = t.aM.length:=by rw [← hD,wP]
   refine aAJ.bBT nd (es:=D.map fun s=>[ints s]) hos (by simp [dF,dG,hDl]) ?_
   obtain ⟨Z,hZ⟩:∃ Z,Z = t.aL.map fun r=>z3 sz dirs rg t.aM r.toNat:=⟨_,rfl⟩
   rw [← hZ] at hmap ⊢
   refine bQ (keep:=aO7) (ib:=a55) (mk:=a56) mix (by kernel_rfl) (fun x:Nat × LLx=>[(0,.ip 4 [[I t.gM,cY 4 aY.c t.aM,cY 2 dT.c t.kV,ints t.aL]] 0 0),(11,bB D),(14,eU 1 x.1 x.2.1),(15,I x.1)]) (fun x=>wZ x.2) (fun x=>x.1≤t.aL.length∧LLG h (Z.take x.1) x.2) (fun x=>t.aL.length - x.1) (0,none,[],h) ⟨by simp [bU,bF,eU,aC.cR,List.take_of_length_le,hDl],aA.bI hos (aA.le_refl _),Nat.zero_le _,LLG.init _⟩ ?_
   rintro ⟨k,op,es,g⟩ ⟨hk,H⟩
   simp only at hk H ⊢
   rcases Nat.lt_or_ge k t.aL.length with hlt | aAP
   ·have ea:t.aL[k]? = some t.aL[k]:=List.getElem?_eq_getElem hlt
    have hr0:=ho _ (List.getElem_mem hlt)
    have eg:=hDget _ hr0
    have hs0:=hdS t.aL[k].toNat (by omega)
    have hy:Z.take (k + 1) = Z.take k ++ [z3 sz dirs rg t.aM t.aL[k].toNat]:=by
     rw [List.take_succ_eq_append_getElem (by omega)];simp [hZ]
    have hlk:(Z.take k).length = k:=by rw [List.length_take];omega
    have tZ:=H.len
    simp only [hlk] at tZ
    generalize z3 sz dirs rg t.aM t.aL[k].toNat = s at *
    have hown:=aIM s (by rw [hs0.1];omega)
    have hc:s.length = sz:=hs0.1
    cases op with
    |none =>
     obtain ⟨h1,rfl,rfl⟩:=H.nil
     obtain rfl:k = 0:=by rw [← hlk,h1];rfl
     simp -dsimp -implicitDefEqProofs only [go_sem,↓reduceIte,Tryz.f52,hlt,ea,a8,wZ,aP,eg]
     refine fun _=>⟨hr0.1,by rw [hDl];exact hr0.2,?_⟩
     refine aG.wn0 (hown) ?_
     rintro r_ l_ g ⟨y_,oy_,rfl,rfl⟩ zO
     rcases oy_.vL with ⟨_,q_⟩ | ⟨m,rfl⟩
     ·rw [q_] at hc;simp at hc;omega
     rw [OV.iQ]
     rw [OV.cK,fW,eS] at zO
     obtain ⟨zm,rfl⟩:=zO.pE
     simp -dsimp -implicitDefEqProofs only [go_sem,↓reduceIte,Tryz.f52,hc,a8]
     refine ⟨Nat.zero_lt_one,Nat.zero_lt_one,Nat.zero_lt_one,fun b ⟨b1,b2⟩=>?_⟩
     obtain ⟨x',e',H',L'⟩:=H.fin (m:=m) (b:=b) (s:=s) (hc) zm b2 b1 (aA.le_refl _)
     refine ⟨(1,x'),⟨by simp only [e'];rfl,IntWalk.i64_in _ (by omega)⟩,L',⟨hlt,by simp only;rw [hy];exact H'⟩,by simp only;omega⟩
    |some n =>
     simp -dsimp -implicitDefEqProofs only [go_sem,↓reduceIte,Tryz.f52,hlt,ea,aT,wZ,aK,lA,tZ,eg]
     refine fun _=>⟨hr0.1,by rw [hDl];exact hr0.2,?_⟩
     refine aG.wn1 (hown) H.2.2 ?_
     rintro r_ l_ g' ⟨y_,oy_,rfl,rfl⟩ zO zn
     rcases oy_.vL with ⟨_,q_⟩ | ⟨m,rfl⟩
     ·rw [q_] at hc;simp at hc;omega
     rw [OV.iQ]
     rw [OV.cK,fW,eS] at zO
     obtain ⟨zm,rfl⟩:=zO.pE
     have jE:¬ m = n:=fun e=>by rw [e,aH] at zn;cases zn
     have o5:¬ n = m:=Ne.symm jE
     have c8:(m = n) = False:=eq_false jE
     have c9:(n = m) = False:=eq_false o5
     simp -dsimp -implicitDefEqProofs only [go_sem,↓reduceIte,Tryz.f52,hc,c8,c9,aF,lA,tZ,aT]
     refine ⟨Nat.zero_lt_one,Nat.zero_lt_one,Nat.zero_lt_one,Nat.le_refl _,by omega,by omega,fun b ⟨bn,bm,bz⟩=>?_⟩
     rw [show List.take k (OV.cells es) = OV.cells es from tZ ▸ s8 es]
     refine ⟨(k + 1,some b,es ++ [oI m (s)],a7 g m (mF (s))),⟨rfl,IntWalk.i64_in _ (by omega)⟩,?_,⟨hlt,by simp only;rw [hy];exact H.snoc (s) zm bz bm⟩,by simp only;omega⟩
     show (wZ (some b,es ++ [oI m (s)],a7 g m (mF (s)))).le _
     rw [wZ.snoc,show List.length (s) = _ from hc]
     exact aCY H.2.2 jE bn (fun q hq=>by simp only [dX,if_neg hq];(repeat' split) <;> first | rfl | contradiction)
   ·obtain rfl:k = t.aL.length:=by omega
    simp -dsimp -implicitDefEqProofs only [go_sem,↓reduceIte,Tryz.f52,Nat.lt_irrefl,Int.lt_irrefl]
    rw [List.take_of_length_le (by omega)] at H
    obtain ⟨z,hz,hv,hw⟩:=H.done
    rw [hmap] at hv
    rw [← hv]
    exact fun _=>⟨_,wZ (op,es,g),_,aZ _ _,⟨z,hz,rfl,rfl⟩,hw⟩
theorem g8.a27 {h g:aA} {b k m:Nat} {es:List (List OV)} {l:List Int} (l':List Int) (X:g8 h (OV.bR [OV.sl b 1 es]) g) (hk:es[k]? = some (oI m l)) (hl:l'.length = l.length):g8 h (OV.bR [OV.sl b 1 (es.set k (oI m l'))]) (a7 g m (mF l'))∧OV.cells (es.set k (oI m l')) = OV.cells es:=by
 obtain ⟨hlt,he⟩:=List.getElem?_eq_some_iff.1 hk
 obtain ⟨A,B,rfl,rfl⟩:∃ A B,es = A ++ oI m l :: B∧k = A.length:=⟨es.take k,es.drop (k + 1),by rw [← he,List.getElem_cons_drop,List.take_append_drop],by rw [List.length_take];omega⟩
 have hset:(A ++ oI m l :: B).set A.length (oI m l') = A ++ oI m l' :: B:=by rw [List.set_append_right _ _ (Nat.le_refl _),Nat.sub_self];rfl
 have hrw:∀ s,OV.bR [OV.sl b 1 (A ++ oI m s :: B)] = ((b,bH.row 1 (OV.cells (A ++ oI m s :: B))) :: OV.bG A) ++ (m,mF s) :: OV.bG B:=fun s=>by
  rw [OV.cO,OV.dV,List.append_nil,OV.cK,OV.mK,cI,oI,OV.cO,OV.dV,List.append_nil,OV.cK,fW,eS];rfl
 have hce:OV.cells (A ++ oI m l' :: B) = OV.cells (A ++ oI m l :: B):=by
  have h1:∀ s,OV.cells (A ++ oI m s :: B) = OV.cells A ++ [.v (.os m 1 0 s.length)] :: OV.cells B:=fun s=>by
   rw [cP,show oI m s :: B = [oI m s] ++ B from rfl,cP,aSZ,aR2];rfl
  rw [h1,h1,hl]
 rw [hset]
 refine ⟨?_,hce⟩
 rw [hrw] at X ⊢
 rw [hce]
 exact ((X.perm List.perm_middle).set).perm List.perm_middle.symm
theorem aA1 (n:Int) {sz:Nat} (hs:1≤sz∧sz≤1048576):rN Tryz.prog 51 [I n,I sz] (QS (OS (oP I) 1 (bJ n sz))):=by
 have e2:=aCK (x:=[aC.int .i64 0]) hs.1
 refine pI 14 tA bM bC mix Tryz.func51 rfl (by kernel_rfl) (by simp) fun h=>?_
 simp -dsimp -implicitDefEqProofs only [go_sem,↓reduceIte,Tryz.f51,Int.toNat_natCast,e2]
 refine ⟨Nat.zero_lt_one,Nat.le_refl _,by omega,by omega,fun m hm=>⟨fun _=>⟨by omega,?_⟩,fun q=>absurd q (by omega)⟩⟩
 rw [aO,show Int.toNat 0 = 0 from rfl,aEK]
 have:=s7 (c:=I) (l:=bJ n sz) (sz:=1) hm
 rwa [oF] at this
theorem aTK {h g:aA} {b len:Nat} {es:List (List OV)} {L:List (List Int)} (hes:OR (oL I) L es) (hnw:g8 h (OV.bR [OV.sl b 1 es]) g) (hl:len = L.length):View g (.os b 1 0 len) (bB L):=by
 have h1:=View.ovD (h:=g) (d:=bB L) (OV.sl b 1 es) (sN (OS.mk hes)) (by
  have:=hnw.iD
  rw [OV.cO,OV.dV,List.append_nil] at this
  exact this)
 rw [OV.nJ,← hes.length] at h1
 rwa [hl]
def gI {α:Type} (c:α→aC) (s:List α):bH:=.row 1 ((s.map fun x=>[c x]).map (List.map .v))
def gJ {α:Type} (w:Nat) (a:Nat→α):List α:=(List.range w).map a
def qO (w:Nat) (N:List Nat):List (List Cell):=(N.map fun n=>[aC.os n 1 0 w]).map (List.map .v)
theorem bX {α:Type} (w:Nat) (a:Nat→α):(gJ w a).length = w:=by simp [gJ]
theorem e8 {α:Type} {w:Nat} (a:Nat→α) {k:Nat} (h:k < w):(gJ w a)[k]? = some (a k):=by rw [gJ,List.getElem?_map,List.getElem?_range h];rfl
theorem dB {α:Type} {w:Nat} {a b:Nat→α} (h:∀ k,k < w→a k = b k):gJ w a = gJ w b:=List.map_congr_left fun k hk=>h k (List.mem_range.1 hk)
theorem aC0 {α:Type} {w:Nat} (a:Nat→α) (k:Nat) (v:α):(gJ w a).set k v = gJ w fun q=>if q = k then v else a q:=by
 apply List.ext_getElem
 ·simp [gJ]
 ·intro i h1 h2
  rw [List.getElem_set]
  simp only [gJ,List.getElem_map,List.getElem_range]
  by_cases e:k = i
  ·rw [if_pos e,if_pos e.symm]
  ·rw [if_neg e,if_neg (Ne.symm e)]
theorem cH {w:Nat} {N:List Nat} {k n:Nat} (h:N[k]? = some n):(qO w N)[k]? = some [.v (.os n 1 0 w)]:=by rw [qO,List.getElem?_map,List.getElem?_map,h];rfl
theorem cV (w:Nat) (N:List Nat):(qO w N).length = N.length:=by simp [qO]
theorem aHH (w:Nat) (N:List Nat) (n:Nat):qO w (N ++ [n]) = qO w N ++ [[.v (.os n 1 0 w)]]:=by simp [qO]
theorem vV (w:Nat) (N:List Nat) (k n:Nat):(qO w N).set k [.v (.os n 1 0 w)] = qO w (N.set k n):=by simp [qO,List.map_set]
structure OM {α:Type} (c:α→aC) (h:aA) (b w:Nat) (N:List Nat) (A:Nat→Nat→α) (g:aA):Prop where
 nodup:N.Nodup
 out:∀ n∈N,¬ n = b∧h n = none
 get:∀ k n,N[k]? = some n→g n = some (gI c (gJ w (A k)))
 bk:g b = some (.row 1 (qO w N))
 keep:∀ q o,h q = some o→g q = some o
 bn:h b = none
theorem OM.le {α:Type} {c:α→aC} {h g:aA} {b w:Nat} {N:List Nat} {A:Nat→Nat→α} (H:OM c h b w N A g):h.le g:=fun q=>by
 cases e:h q with
 |none=>exact .inl rfl
 |some o=>exact .inr (H.keep q o e).symm
theorem OM.apart {α:Type} {c:α→aC} {h g:aA} {b w:Nat} {N:List Nat} {A:Nat→Nat→α} (H:OM c h b w N A g) {i j n m:Nat} (hi:N[i]? = some n) (hj:N[j]? = some m) (hne:¬ i = j):¬ n = m:=fun e=>hne ((List.getElem?_inj (List.getElem?_eq_some_iff.1 hi).1 H.nodup).1 (by rw [hi,hj,e]))
theorem OM.free {α:Type} {c:α→aC} {h g:aA} {b w:Nat} {N:List Nat} {A:Nat→Nat→α} (H:OM c h b w N A g) {n:Nat} (hn:g n = none):¬ n = b∧n ∉ N∧h n = none:=by
 refine ⟨(fun e=>by rw [e,H.bk] at hn;cases hn),fun e=>?_,?_⟩
 ·obtain ⟨k,hk,ek⟩:=List.mem_iff_getElem.1 e
  have:=H.get k n (by rw [List.getElem?_eq_getElem hk,ek])
  rw [this] at hn;cases hn
 ·cases hq:h n with
  |none=>rfl
  |some o=>rw [H.keep n o hq] at hn;cases hn
theorem OM.set {α:Type} {c:α→aC} {h g:aA} {b w:Nat} {N:List Nat} {A B:Nat→Nat→α} (H:OM c h b w N A g) {r n:Nat} (hr:N[r]? = some n) (hB:∀ i,¬ i = r→∀ k,k < w→B i k = A i k):OM c h b w N B (a7 g n (gI c (gJ w (B r)))):=by
 have ho:=H.out n (List.mem_of_getElem? hr)
 refine ⟨H.nodup,H.out,fun k m hk=>?_,?_,fun q o hq=>?_,H.bn⟩
 ·by_cases e:k = r
  ·subst e
   rw [hr] at hk
   cases hk
   rw [aH]
  ·have hne:¬ m = n:=fun q=>by
    subst q
    have hkl:k < N.length:=(List.getElem?_eq_some_iff.1 hk).1
    exact e ((List.getElem?_inj hkl H.nodup).1 (hk.trans hr.symm))
   rw [aF _ _ _ _ hne,H.get k m hk,dB (hB k e)]
 ·rw [aF _ _ _ _ (Ne.symm ho.1)];exact H.bk
 ·rw [aF _ _ _ _ (fun e=>by rw [e,ho.2] at hq;cases hq)];exact H.keep q o hq
theorem OM.congr {α:Type} {c:α→aC} {h g:aA} {b w:Nat} {N:List Nat} {A B:Nat→Nat→α} (H:OM c h b w N A g) (hB:∀ i,i < N.length→∀ k,k < w→B i k = A i k):OM c h b w N B g :=
 ⟨H.nodup,H.out,fun k n hk=>by rw [H.get k n hk,dB (hB k (List.getElem?_eq_some_iff.1 hk).1)],H.bk,H.keep,H.bn⟩
theorem OM.more {α:Type} {c:α→aC} {h g F:aA} {b b2 w n:Nat} {N:List Nat} {A:Nat→Nat→α} (H:OM c h b w N A g) (hn:g n = none) (hb:g b2 = none) (hnb:¬ n = b2) (h1:F n = some (gI c (gJ w (A N.length)))) (h2:F b2 = some (.row 1 (qO w (N ++ [n])))) (h3:∀ q,¬ q = n→¬ q = b2→¬ q = b→∀ o,g q = some o→F q = some o):OM c h b2 w (N ++ [n]) A F:=by
 obtain ⟨f1,f2,f3⟩:=H.free hn
 obtain ⟨e1,e2,e3⟩:=H.free hb
 refine ⟨?_,fun m hm=>?_,fun k m hk=>?_,h2,fun q o hq=>?_,e3⟩
 ·rw [List.nodup_append]
  exact ⟨H.nodup,by simp,fun x hx y hy e=>by rw [List.mem_singleton.1 hy] at e;exact f2 (e ▸ hx)⟩
 ·rcases List.mem_append.1 hm with hm | hm
  ·exact ⟨fun e=>e2 (e ▸ hm),(H.out m hm).2⟩
  ·rw [List.mem_singleton.1 hm];exact ⟨hnb,f3⟩
 ·rcases Nat.lt_or_ge k N.length with hl | hl
  ·rw [List.getElem?_append_left hl] at hk
   have hmem:=List.mem_of_getElem? hk
   exact h3 m (fun e=>f2 (e ▸ hmem)) (fun e=>e2 (e ▸ hmem)) (H.out m hmem).1 _ (H.get k m hk)
  ·rw [List.getElem?_append_right hl] at hk
   have h2:k - N.length = 0:=by
    rcases Nat.eq_zero_or_pos (k - N.length) with q | q
    ·exact q
    ·rw [List.getElem?_eq_none (by rw [List.length_singleton];exact q)] at hk;cases hk
   rw [h2] at hk
   cases hk
   rw [show k = N.length by omega];exact h1
 ·exact h3 q (fun e=>by rw [e,f3] at hq;cases hq) (fun e=>by rw [e,e3] at hq;cases hq) (fun e=>by rw [e,H.bn] at hq;cases hq) o (H.keep q o hq)
theorem OM.one {α:Type} {c:α→aC} {h F:aA} {b w n:Nat} {A:Nat→Nat→α} (hn:h n = none) (hb:h b = none) (hnb:¬ n = b) (h1:F n = some (gI c (gJ w (A 0)))) (h2:F b = some (.row 1 (qO w [n]))) (h3:∀ q o,h q = some o→F q = some o):OM c h b w [n] A F :=
 ⟨by simp,fun m hm=>(by rw [List.mem_singleton.1 hm];exact ⟨hnb,hn⟩),fun k m hk=>(by
  cases k with
  |zero=>cases hk;exact h1
  |succ k=>cases hk),h2,h3,hb⟩
theorem aHI {N:List Nat} (h:N.Nodup) {c r nc nr:Nat} (hc:N[c]? = some nc) (hr:N[r]? = some nr):((N.set c nr).set r nc).Nodup:=by
 obtain ⟨c1,c2⟩:=List.getElem?_eq_some_iff.1 hc
 obtain ⟨r1,r2⟩:=List.getElem?_eq_some_iff.1 hr
 rw [List.nodup_iff_pairwise_ne,List.pairwise_iff_getElem] at h ⊢
 have hx:∀ i (hi:i < N.length) j (hj:j < N.length),N[i] = N[j]→i = j:=fun i hi j hj e=>by
  rcases Nat.lt_trichotomy i j with q | q | q
  ·exact absurd e (h i j hi hj q)
  ·exact q
  ·exact absurd e.symm (h j i hj hi q)
 intro i j hi hj hij e
 simp only [List.length_set] at hi hj
 rw [List.getElem_set,List.getElem_set,List.getElem_set,List.getElem_set] at e
 subst c2 r2
 split at e <;> split at e <;> (try split at e) <;> (try split at e) <;> first | omega | (have:=hx _ _ _ _ e;omega)
theorem OM.swap {α:Type} {c:α→aC} {h g:aA} {b w:Nat} {N:List Nat} {A:Nat→Nat→α} (H:OM c h b w N A g) {i j ni nj:Nat} (hi:N[i]? = some ni) (hj:N[j]? = some nj):OM c h b w ((N.set i nj).set j ni) (lE A i j) (a7 g b (.row 1 (qO w ((N.set i nj).set j ni)))):=by
 have hil:=(List.getElem?_eq_some_iff.1 hi).1
 have hjl:=(List.getElem?_eq_some_iff.1 hj).1
 have hmem:∀ m,m∈(N.set i nj).set j ni→m∈N:=fun m hm=>by
  rcases List.mem_or_eq_of_mem_set hm with hm | rfl
  ·rcases List.mem_or_eq_of_mem_set hm with hm | rfl
   ·exact hm
   ·exact List.mem_of_getElem? hj
  ·exact List.mem_of_getElem? hi
 refine ⟨aHI H.nodup hi hj,fun m hm=>H.out m (hmem m hm),fun k m hk=>?_,aH _ _ _,fun q o hq=>?_,H.bn⟩
 ·rw [aF _ _ _ _ (H.out m (hmem m (List.mem_of_getElem? hk))).1]
  by_cases e1:k = j
  ·subst e1
   rw [List.getElem?_set_self (by rw [List.length_set];exact hjl)] at hk
   cases hk
   rw [H.get i _ hi]
   congr 2
   refine dB fun q _=>?_
   unfold lE
   by_cases e2:k = i
   ·rw [if_pos e2,e2]
   ·rw [if_neg e2,if_pos rfl]
  ·rw [List.getElem?_set_ne (Ne.symm e1)] at hk
   by_cases e2:k = i
   ·subst e2
    rw [List.getElem?_set_self hil] at hk
    cases hk
    rw [H.get j _ hj]
    congr 2
    refine dB fun q _=>?_
    rw [lE,if_pos rfl]
   ·rw [List.getElem?_set_ne (Ne.symm e2)] at hk
    rw [H.get k _ hk]
    congr 2
    refine dB fun q _=>?_
    rw [lE,if_neg e2,if_neg e1]
 ·rw [aF _ _ _ _ (fun e=>by rw [e,H.bn] at hq;cases hq)];exact H.keep q o hq
@[go_sem] def a0M:List Nat:=[0,2,4]
@[go_sem] def bBU:List Nat:=[5]
theorem a0N (l:List (List Int)) (hl:l.length≤1048576):rN Tryz.prog 170 [bB l] (QS (OS (oP ints) 1 l)):=by
 refine pI 8 a0M bBU bC mix Tryz.func170 rfl (by kernel_rfl) (by simp) fun h=>?_
 simp -dsimp -implicitDefEqProofs only [go_sem,↓reduceIte,Tryz.f170]
 repeat' (with_reducible first | intro _ | refine And.intro ?_ ?_)
 all_goals try (first | exact aQD (by assumption) | exact aQE (by assumption) | exact s7 (by assumption) | omega)
theorem aMT {α:Type} {F:Ops α} {n:Nat} {M:Nat→Nat→α} {c:Nat} (h:pD F n M c = none):∀ d,pD F n M (c + d) = none
 |0=>h
 |d + 1=>by rw [← Nat.add_assoc,pD,aMT h d]
theorem aMU {α:Type} {F:Ops α} {n:Nat} {M A:Nat→Nat→α} {c:Nat} (hc:c < n) (h:pD F n M c = some A) (hp:oK F.z A c n (n - c) = n):pD F n M n = none:=by
 have h1:pD F n M (c + 1) = none:=by rw [pD,h];simp only [if_pos hp]
 have:=aMT h1 (n - (c + 1))
 rwa [show c + 1 + (n - (c + 1)) = n by omega] at this
theorem aXD {α:Type} {F:Ops α} {n:Nat} {M A:Nat→Nat→α} {c r:Nat} (h:pD F n M c = some A) (hr:r < n) (hp:oK F.z A c n (n - c) = r):pD F n M (c + 1) = some (uU F (lE A c r) c):=by
 rw [pD,h]
 simp only [hp]
 rw [if_neg (by omega)]
def aO9 (n:Nat) (M:Nat→Nat→List Int):List (List Int) × Bool:=match pD rR n M n with
 |some A=>(gJ n fun i=>A i n,true)
 |none=>([],false)
theorem OM.app {α:Type} {c:α→aC} {h g:aA} {b b2 w m n k:Nat} {N:List Nat} {A:Nat→Nat→α} (H:OM c h b w N A g) (hN:N.length = k) (zm:g m = none) (hn:g n = none) (hb:g b2 = none) (hnb:¬ n = b2) (hnm:¬ n = m) {X Y:bH}:OM c h b2 w (N ++ [n]) A (a7 (a7 (a7 (a7 (a7 g m X) m Y) n (.row 1 (((gJ w (A k)).map fun x=>[c x]).map (List.map .v)))) b .gone) b2 (.row 1 (List.take k (qO w N) ++ [[.v (.os n 1 0 w)]]))):=by
 have aOX:¬ n = b:=fun e=>by rw [e,H.bk] at hn;cases hn
 refine OM.more H hn hb hnb ?_ ?_ fun q q1 q2 q3 o ho=>?_
 ·rw [aF _ _ _ _ hnb,aF _ _ _ _ aOX,aH,hN];rfl
 ·rw [aH,aHH,List.take_of_length_le (by rw [cV,hN];exact Nat.le_refl _)]
 ·have q4:¬ q = m:=fun e=>by rw [e,zm] at ho;cases ho
  rw [aF _ _ _ _ q2,aF _ _ _ _ q3,aF _ _ _ _ q1,aF _ _ _ _ q4,aF _ _ _ _ q4];exact ho
@[go_sem] def vW:List Nat:=[0,1,4,5,6,7,8,9,10,11,12,13,14,15,16,17,19,23,24,25,26,42,43,44,61,66,92,93,94,112,113,114,118,130,131,132,161,162,163,164]
@[go_sem] def aMV:List Nat:=[37,39,160,172]
@[go_sem] def aMW:Marks:=fun id=>match id with | 5=>([2,8,10],(.op 0 (.op 1 (.op 3 (.op 4 (.op 5 (.op 6 (.op 7 (.op 2 (.op 8 (.op 9 (.op 10 (.op 11 .nil)))))))))))),[]) | 15=>([7,11,13,15],(.op 0 (.op 1 (.op 2 (.op 3 (.op 4 (.op 5 (.op 6 (.op 8 (.op 9 (.op 10 (.op 7 (.op 11 (.op 12 (.op 13 (.op 14 (.op 15 .nil)))))))))))))))),[]) | 20=>([3,8,11,15],(.op 0 (.op 1 (.op 2 (.op 4 (.op 5 (.op 6 (.op 7 (.op 9 (.op 12 (.op 3 (.op 8 (.op 10 (.op 11 (.op 13 (.op 14 (.op 15 .nil)))))))))))))))),[]) | 30=>([3,8,11,16,19,23],(.op 0 (.op 1 (.op 2 (.op 4 (.op 5 (.op 6 (.op 7 (.op 9 (.op 12 (.op 13 (.op 14 (.op 15 (.op 17 (.op 3 (.op 8 (.op 10 (.op 11 (.op 16 (.op 18 (.op 19 (.op 20 (.op 21 (.op 22 (.op 23 .nil)))))))))))))))))))))))),[]) | _=>([],.nil,[])
set_option maxHeartbeats 4000000 in
theorem solved {n sz:Nat} (hn:1≤n∧n≤12) (hsz:1≤sz∧sz≤1048576) {a:List (List (List Int))} {b:List (List Int)} (hal:a.length = n) (ha:∀ i,i < n→c5 sz n (a.getD i [])) (hb:c5 sz n b) {M:Nat→Nat→List Int} (hM:M = gV n (fun i k=>(a.getD i []).getD k []) fun i=>b.getD i []) :
  dI Tryz.prog 98 [j2 a,bB b] (.gW [bB (aO9 n M).1,.bool (aO9 n M).2]):=by
 have hMok:okM (bD sz) n M:=fun i hi k hk=>by
  rw [hM];unfold gV
  split
  ·exact ((ha i hi).get (by assumption)).2
  ·exact (hb.get hi).2
 have hrow:∀ i,i < n→gJ (n + 1) (M i) = a.getD i [] ++ [b.getD i []]:=fun i hi=>by
  rw [hM]
  apply List.ext_getElem
  ·rw [bX,List.length_append,(ha i hi).1];rfl
  ·intro k h1 h2
   rw [bX] at h1
   simp only [gJ,List.getElem_map,List.getElem_range,gV]
   rcases Nat.lt_or_ge k n with h3 | h3
   ·rw [if_pos h3,List.getElem_append_left (by rw [(ha i hi).1];exact h3),List.getD_eq_getElem?_getD,List.getElem?_eq_getElem (by rw [(ha i hi).1];exact h3)];rfl
   ·rw [if_neg (by omega)]
    have:k = n:=by omega
    subst this
    rw [List.getElem_append_right (by rw [(ha i hi).1];exact Nat.le_refl _)]
    simp [(ha i hi).1]
 refine j7 176 vW aMV aMW mix Tryz.func98 rfl (by kernel_rfl) (by simp) fun h=>?_
 simp -dsimp -implicitDefEqProofs only [go_sem,↓reduceIte,Tryz.f98,hal]
 refine fun _=>⟨by decide,fun b0 hb0 _=>?_⟩
 refine bQ (keep:=vW) (ib:=aMV) (mk:=aMW) mix (by kernel_rfl) (fun x:Nat × Nat × List Nat × aA=>[(0,j2 a),(1,bB b),(6,I n),(7,.os x.2.1 1 0 x.1),(23,j2 a),(24,I n),(25,I x.1)]) (fun x=>x.2.2.2) (fun x=>x.1≤n∧x.2.2.1.length = x.1∧OM ints h x.2.1 (n + 1) x.2.2.1 M x.2.2.2) (fun x=>n - x.1) (0,b0,[],a7 h b0 (.row 1 [])) ⟨by simp [bU,bF],aA.le_refl _,Nat.zero_le _,rfl,⟨by simp,by simp,by simp,aH _ _ _,fun q o hq=>(aF _ _ _ _ (fun e=>by rw [e,hb0] at hq;cases hq)).trans hq,hb0⟩⟩ ?_
 rintro ⟨k,bb,N,g⟩ ⟨hk,hN,H⟩
 simp only at hk hN H ⊢
 rcases Nat.lt_or_ge k n with hlt | hge
 ·have ea:a[k]? = some (a.getD k []):=by rw [List.getD_eq_getElem?_getD,List.getElem?_eq_getElem (by omega)];rfl
  have eb:=hb.get hlt
  have har:=(ha k hlt).1
  have hcl:=a0N (a.getD k []) (by omega)
  have hr:=hrow k hlt
  have hgb:=H.bk
  simp -dsimp -implicitDefEqProofs only [go_sem,↓reduceIte,Tryz.f98,hlt,ea,hal,eb.1,hb.1]
  refine ⟨Nat.zero_lt_one,Nat.zero_lt_one,aG.wn0 hcl ?_⟩
  rintro r l g2 ⟨y,oy,rfl,rfl⟩ wn
  rcases oy.vL with ⟨_,q⟩ | ⟨m,rfl⟩
  ·rw [q] at har;simp at har;omega
  rw [OV.iQ]
  rw [OV.cK,fW,eS] at wn
  obtain ⟨zm,rfl⟩:=wn.pE
  have xX:¬ m = bb:=fun e=>by rw [e,hgb] at zm;cases zm
  have aA2:¬ bb = m:=Ne.symm xX
  have aFF:(m = bb) = False:=eq_false xX
  have aFG:(bb = m) = False:=eq_false aA2
  simp -dsimp -implicitDefEqProofs only [go_sem,↓reduceIte,Tryz.f98,har,eb.1,hb.1,hlt,aFF,aFG,aF,hgb,cV,hN]
  have bFJ:List.take n (List.map (List.map Cell.v) (List.map (fun s=>[ints s]) (a.getD k []))) ++ [[Cell.v (ints (b.getD k []))]] = ((gJ (n + 1) (M k)).map fun s=>[ints s]).map (List.map .v):=by rw [hr,← dQ ints,har]
  refine ⟨Nat.zero_lt_one,Nat.le_refl _,by omega,by omega,fun m2 ⟨m3,zm2⟩=>⟨Nat.zero_lt_one,Nat.zero_lt_one,Nat.zero_lt_one,?_⟩⟩
  have aFH:¬ m2 = m:=m3
  have aJR:¬ m = m2:=Ne.symm aFH
  have aFI:(m2 = m) = False:=eq_false aFH
  have aFJ:(m = m2) = False:=eq_false aJR
  have zP:¬ m2 = bb:=fun e=>by rw [e,hgb] at zm2;cases zm2
  have aJS:¬ bb = m2:=Ne.symm zP
  have aJT:(m2 = bb) = False:=eq_false zP
  have aJU:(bb = m2) = False:=eq_false aJS
  rw [bFJ]
  simp -dsimp -implicitDefEqProofs only [go_sem,↓reduceIte,Tryz.f98,aFF,aFJ,aFG,aJU,aFI,aJT,aF,hgb,cV,hN]
  refine ⟨Nat.le_refl _,by omega,by omega,fun b' ⟨b1,b2,_,b4⟩=>?_⟩
  have HF:=OM.app (X:=.row 1 (((a.getD k []).map fun s=>[ints s]).map (List.map .v))) (Y:=.gone) H hN zm zm2 b4 (Ne.symm b1) aFH
  generalize hF:a7 (a7 _ bb bH.gone) b' _ = F at HF ⊢
  exact ⟨(k + 1,b',N ++ [m2],F),⟨rfl,IntWalk.i64_in _ (by omega)⟩,aA.le_refl _,⟨hlt,by simp [hN],HF⟩,by simp only;omega⟩
 ·obtain rfl:k = n:=by omega
  simp -dsimp -implicitDefEqProofs only [go_sem,↓reduceIte,Tryz.f98,Nat.lt_irrefl,Int.lt_irrefl]
  refine bQ (keep:=vW) (ib:=aMV) (mk:=aMW) mix (by kernel_rfl) (fun x:Nat × (Nat→Nat→List Int) × List Nat × aA=>[(6,I k),(7,.os bb 1 0 k),(42,I k),(43,I x.1)]) (fun x=>x.2.2.2) (fun x=>x.1≤k∧x.2.2.1.length = k∧pD rR k M x.1 = some x.2.1∧okM (bD sz) k x.2.1∧OM ints h bb (k + 1) x.2.2.1 x.2.1 x.2.2.2) (fun x=>k - x.1) (0,M,N,g) ⟨by simp [bU,bF],aA.le_refl _,Nat.zero_le _,hN,rfl,hMok,H⟩ ?_
  rintro ⟨c,A,N,g⟩ ⟨hc,hN,hgj,hA,H⟩
  simp only at hc hN hgj hA H ⊢
  have hgb:=H.bk
  rcases Nat.lt_or_ge c k with hlt | hge
  ·simp -dsimp -implicitDefEqProofs only [go_sem,↓reduceIte,Tryz.f98,hlt]
   refine jM (keep:=vW) (ib:=aMV) (mk:=aMW) mix (by kernel_rfl) (fun r:Nat=>[(6,I k),(7,.os bb 1 0 k),(10,I c),(11,I r),(42,I k),(43,I c)]) (fun r=>r≤k∧c≤r∧oK rR.z A c k (k - r) = oK rR.z A c k (k - c)) (fun r=>k - r) c ⟨by simp [bU,bF],by omega,Nat.le_refl _,rfl⟩ ?_
   rintro r ⟨hr,hcr,hpv⟩
   rcases Nat.lt_or_ge r k with hrk | hrk
   ·obtain ⟨nr,hnr⟩:∃ nr,N[r]? = some nr:=⟨_,List.getElem?_eq_getElem (by omega)⟩
    obtain ⟨nc,hnc⟩:∃ nc,N[c]? = some nc:=⟨_,List.getElem?_eq_getElem (by omega)⟩
    have hpr:oK rR.z A c k (k - r) = if rR.z (A r c) = true then oK rR.z A c k (k - (r + 1)) else r:=by
     rw [show k - r = (k - (r + 1)) + 1 by omega,oK,show k - (k - (r + 1) + 1) = r by omega]
    have hgr:=H.get r nr hnr
    have hAr:=hA r hrk c (by omega)
    have e0:(A r c)[Int.toNat 0]? = some ((A r c).getD 0 0):=b9 (l:=A r c) (i:=0) (by rw [hAr.1];exact hsz.1)
    have e0l:=hAr.1
    have bBV:c = r→nc = nr:=fun e=>by rw [e,hnr] at hnc;exact (Option.some.inj hnc).symm
    have hx1:(N.set c nr)[r]? = some nr:=by
     by_cases e:c = r
     ·rw [e,List.getElem?_set_self (by omega)]
     ·rw [List.getElem?_set_ne e];exact hnr
    have zX:((N.set c nr).set r nc)[c]? = some nr:=by
     by_cases e:c = r
     ·rw [bBV e,← e,List.getElem?_set_self (by rw [List.length_set];omega)]
     ·rw [List.getElem?_set_ne (Ne.symm e),List.getElem?_set_self (by omega)]
    have aR5:¬ nr = bb:=(H.out nr (List.mem_of_getElem? hnr)).1
    have a0O:¬ bb = nr:=Ne.symm aR5
    have a0P:(nr = bb) = False:=eq_false aR5
    have a0Q:(bb = nr) = False:=eq_false a0O
    simp -dsimp -implicitDefEqProofs only [go_sem,↓reduceIte,Tryz.f98,hrk,hgb,cH hnr,cV,hN,hgr,gI,bX,e8 (A r) (show c < k + 1 by omega),e0,e0l,cH hnc,vV,cH hx1,cH zX,List.length_set,a0P,a0Q,aF]
    refine ⟨by omega,by omega,fun q=>⟨r + 1,IntWalk.i64_in _ (by omega),⟨hrk,by omega,?_⟩,by omega⟩,fun q=>⟨fun e=>absurd e (by omega),fun _=>⟨hlt,?_⟩⟩⟩
    ·rw [← hpv,hpr,if_pos (show rR.z (A r c) = true from decide_eq_true q)]
    rw [hpr,if_neg (show ¬ rR.z (A r c) = true from fun e=>q (of_decide_eq_true e))] at hpv
    have hgo:=aXD hgj hrk hpv.symm
    have HS:=H.swap hnc hnr
    have hN2:((N.set c nr).set r nc).length = k:=by simp [hN]
    have hB:okM (bD sz) k (lE A c r):=aO2 hlt hrk hA
    refine ⟨hlt,hlt,by omega,hlt,fun _=>?_⟩
    rw [aO]
    generalize bIR:(N.set c nr).set r nc = N2 at *
    generalize a7 g bb (.row 1 (qO (k + 1) N2)) = G at HS ⊢
    have hd0:A r c = lE A c r c c:=by rw [lE,if_pos rfl]
    rw [hd0]
    have hdz:¬ (lE A c r c c).getD 0 0 = 0:=by rw [← hd0];exact q
    generalize lE A c r = B at *
    clear hx1 bBV hgr hAr e0 e0l hpr hpv hgb H hgj hA hnr hnc hd0 q
    refine bQ (keep:=vW) (ib:=aMV) (mk:=aMW) mix (by kernel_rfl) (fun x:Nat × aA=>[(6,I k),(7,.os bb 1 0 k),(10,I c),(12,ints (B c c)),(42,I k),(43,I c),(92,I ((k:Int) + 1)),(93,I x.1)]) (fun x=>x.2) (fun x=>x.1≤k + 1∧OM ints h bb (k + 1) N2 (fun i j=>if i = c∧j < x.1 then gH (B c j) (B c c) else B i j) x.2) (fun x=>k + 1 - x.1) (0,G) ⟨by simp [bU,bF],aA.le_refl _,Nat.zero_le _,HS.congr fun i _ j _=>by simp⟩ ?_
    ·rintro ⟨q,G⟩ ⟨hq,H⟩
     simp only at hq H ⊢
     have hgb:=H.bk
     have hgc:G nr = some (gI ints (gJ (k + 1) fun j=>if j < q then gH (B c j) (B c c) else B c j)):=by have:=H.get c nr zX;simpa using this
     rcases Nat.lt_or_ge q (k + 1) with jO | aAP
     ·have hqn:((q:Nat):Int) < (k:Int) + 1:=by omega
      have hBq:=hB c hlt q (by omega)
      have hBc:=hB c hlt c (by omega)
      have ecq:(gJ (k + 1) fun j=>if j < q then gH (B c j) (B c c) else B c j)[q]? = some (B c q):=by rw [e8 _ jO,if_neg (Nat.lt_irrefl q)]
      simp -dsimp -implicitDefEqProofs only [go_sem,↓reduceIte,Tryz.f98,hqn,hgb,cH zX,cV,hN2,hgc,gI,bX,ecq]
      refine ⟨hlt,hlt,by omega,?_⟩
      first | refine aG.mk (quotient (B c q) (B c c) (by rw [hBc.1,hBq.1]) (by rw [hBq.1];omega) (by rw [hBq.1];omega) hBq.2 hBc.2) ?_ | refine aD.mk (quotient (B c q) (B c c) (by rw [hBc.1,hBq.1]) (by rw [hBq.1];omega) (by rw [hBq.1];omega) hBq.2 hBc.2) ?_ | refine aG.a5 (quotient (B c q) (B c c) (by rw [hBc.1,hBq.1]) (by rw [hBq.1];omega) (by rw [hBq.1];omega) hBq.2 hBc.2) ?_ | refine aD.mk (aX.cD (quotient (B c q) (B c c) (by rw [hBc.1,hBq.1]) (by rw [hBq.1];omega) (by rw [hBq.1];omega) hBq.2 hBc.2)) ?_
      simp -dsimp -implicitDefEqProofs only [go_sem,↓reduceIte,Tryz.f98,hgb,cH zX,cV,hN2,hgc,gI,bX,ecq]
      have h3:(gJ (k + 1) fun j=>if j < q then gH (B c j) (B c c) else B c j).set q (gH (B c q) (B c c)) = gJ (k + 1) fun j=>if j < q + 1 then gH (B c j) (B c c) else B c j:=by
       rw [aC0]
       refine dB fun j _=>?_
       by_cases e:j = q
       ·rw [if_pos e,if_pos (by omega),e]
       ·rw [if_neg e]
        by_cases e2:j < q
        ·rw [if_pos e2,if_pos (by omega)]
        ·rw [if_neg e2,if_neg (by omega)]
      rw [nL ints,h3]
      have HF:=H.set (B:=fun i j=>if i = c∧j < q + 1 then gH (B c j) (B c c) else B i j) zX fun i hi j _=>by simp [hi]
      have hrf:gJ (k + 1) ((fun i j=>if i = c∧j < q + 1 then gH (B c j) (B c c) else B i j) c) = gJ (k + 1) fun j=>if j < q + 1 then gH (B c j) (B c c) else B c j:=dB fun j _=>by simp
      rw [hrf] at HF
      exact ⟨jO,(q + 1,a7 G nr (gI ints (gJ (k + 1) fun j=>if j < q + 1 then gH (B c j) (B c c) else B c j))),IntWalk.i64_in _ (by omega),aA.le_refl _,⟨jO,HF⟩,by simp only;omega⟩
     ·obtain rfl:q = k + 1:=by omega
      simp -dsimp -implicitDefEqProofs only [go_sem,↓reduceIte,Tryz.f98,show ¬ (((k + 1:Nat):Int) < (k:Int) + 1) by omega]
      have HD:=H.congr (B:=fun i j=>if i = c then gH (B c j) (B c c) else B i j) fun i _ j hj=>by simp [hj]
      have hD:∀ j,j < k + 1→bD sz (gH (B c j) (B c c)):=fun j hj=>lC _ (hB c hlt j (by omega))
      clear H hgc hgb HS aAP hq
      generalize hDe:(fun j=>gH (B c j) (B c c)) = D
      refine bQ (keep:=vW) (ib:=aMV) (mk:=aMW) mix (by kernel_rfl) (fun x:Nat × aA=>[(6,I k),(7,.os bb 1 0 k),(10,I c),(42,I k),(43,I c),(112,I k),(113,I x.1)]) (fun x=>x.2) (fun x=>x.1≤k∧OM ints h bb (k + 1) N2 (fun i j=>if i = c then D j else if i < x.1 then jQ (B i j) (mulL (B i c) (D j)) else B i j) x.2) (fun x=>k - x.1) (0,G) ⟨by simp [bU,bF],aA.le_refl _,Nat.zero_le _,HD.congr fun i _ j _=>by simp [← hDe]⟩ ?_
      rintro ⟨i,G⟩ ⟨hi,H⟩
      simp only at hi H ⊢
      have hgb:=H.bk
      rcases Nat.lt_or_ge i k with uP | bFK
      ·obtain ⟨ni,hni⟩:∃ ni,N2[i]? = some ni:=⟨_,List.getElem?_eq_getElem (by omega)⟩
       have hBi:=hB i uP
       by_cases hic:i = c
       ·have HC:OM ints h bb (k + 1) N2 (fun i' j=>if i' = c then D j else if i' < i + 1 then jQ (B i' j) (mulL (B i' c) (D j)) else B i' j) G:=H.congr fun i' _ j _=>by
         by_cases e:i' = c
         ·rw [if_pos e,if_pos e]
         ·rw [if_neg e,if_neg e]
          by_cases e2:i' < i
          ·rw [if_pos e2,if_pos (by omega)]
          ·rw [if_neg e2,if_neg (by omega)]
        simp -dsimp -implicitDefEqProofs only [go_sem,↓reduceIte,Tryz.f98,uP]
        exact ⟨fun _=>⟨(i + 1,G),IntWalk.i64_in _ (by omega),aA.le_refl _,⟨uP,HC⟩,by simp only;omega⟩,fun q=>absurd hic q⟩
       have hii:¬ ((i:Nat):Int) = (c:Int):=by omega
       have hgi:G ni = some (gI ints (gJ (k + 1) (B i))):=by
        have:=H.get i ni hni
        rw [this]
        exact congrArg (fun r=>some (gI ints r)) (dB fun j _=>by rw [if_neg hic,if_neg (Nat.lt_irrefl i)])
       simp -dsimp -implicitDefEqProofs only [go_sem,↓reduceIte,Tryz.f98,uP,hii,hgb,cH hni,cV,hN2,hgi,gI,bX,e8 (B i) (show c < k + 1 by omega)]
       refine ⟨by omega,fun _=>?_⟩
       refine bQ (keep:=vW) (ib:=aMV) (mk:=aMW) mix (by kernel_rfl) (fun x:Nat × aA=>[(6,I k),(7,.os bb 1 0 k),(10,I c),(14,I i),(15,ints (B i c)),(42,I k),(43,I c),(112,I k),(113,I i),(130,I ((k:Int) + 1)),(131,I x.1)]) (fun x=>x.2) (fun x=>x.1≤k + 1∧OM ints h bb (k + 1) N2 (fun i' j=>if i' = c then D j else if i' < i∨i' = i∧j < x.1 then jQ (B i' j) (mulL (B i' c) (D j)) else B i' j) x.2) (fun x=>k + 1 - x.1) (0,G) ⟨by simp [bU,bF],aA.le_refl _,Nat.zero_le _,H.congr fun i' _ j _=>by simp⟩ ?_
       clear H hgb hgi
       rintro ⟨q,G⟩ ⟨hq,H⟩
       simp only at hq H ⊢
       have hgb:=H.bk
       rcases Nat.lt_or_ge q (k + 1) with a0R | bIS
       ·have hqn:((q:Nat):Int) < (k:Int) + 1:=by omega
        have hgi:G ni = some (gI ints (gJ (k + 1) fun j=>if j < q then jQ (B i j) (mulL (B i c) (D j)) else B i j)):=by
         rw [H.get i ni hni]
         exact congrArg (fun r=>some (gI ints r)) (dB fun j _=>by rw [if_neg hic];simp)
        have hgc:G nr = some (gI ints (gJ (k + 1) D)):=by
         rw [H.get c nr zX]
         exact congrArg (fun r=>some (gI ints r)) (dB fun j _=>by rw [if_pos rfl])
        have eiq:(gJ (k + 1) fun j=>if j < q then jQ (B i j) (mulL (B i c) (D j)) else B i j)[q]? = some (B i q):=by rw [e8 _ a0R,if_neg (Nat.lt_irrefl q)]
        have hDq:bD sz (D q):=by rw [← hDe];exact hD q a0R
        have hiq:=hBi q (by omega)
        have hicv:=hBi c (by omega)
        simp -dsimp -implicitDefEqProofs only [go_sem,↓reduceIte,Tryz.f98,hqn,hgb,cH zX,cH hni,cV,hN2,hgc,hgi,gI,bX,eiq,e8 D a0R]
        refine ⟨uP,uP,hlt,by omega,by omega,?_⟩
        have hpm:=cE (D q) hicv
        first | refine aG.mk (product (B i c) (D q) (by rw [hDq.1,hicv.1]) (by rw [hicv.1];omega) hicv.2 hDq.2) ?_ | refine aD.mk (product (B i c) (D q) (by rw [hDq.1,hicv.1]) (by rw [hicv.1];omega) hicv.2 hDq.2) ?_ | refine aG.a5 (product (B i c) (D q) (by rw [hDq.1,hicv.1]) (by rw [hicv.1];omega) hicv.2 hDq.2) ?_ | refine aD.mk (aX.cD (product (B i c) (D q) (by rw [hDq.1,hicv.1]) (by rw [hicv.1];omega) hicv.2 hDq.2)) ?_
        simp -dsimp -implicitDefEqProofs only [go_sem,↓reduceIte,Tryz.f98,hgb,cH hni,cV,hN2,hgi,gI,bX,eiq]
        first | refine aG.mk (reduced (B i q) (mulL (B i c) (D q)) (by rw [hpm.1,hiq.1]) (by rw [hiq.1];omega) hiq.2 hpm.2) ?_ | refine aD.mk (reduced (B i q) (mulL (B i c) (D q)) (by rw [hpm.1,hiq.1]) (by rw [hiq.1];omega) hiq.2 hpm.2) ?_ | refine aG.a5 (reduced (B i q) (mulL (B i c) (D q)) (by rw [hpm.1,hiq.1]) (by rw [hiq.1];omega) hiq.2 hpm.2) ?_ | refine aD.mk (aX.cD (reduced (B i q) (mulL (B i c) (D q)) (by rw [hpm.1,hiq.1]) (by rw [hiq.1];omega) hiq.2 hpm.2)) ?_
        simp -dsimp -implicitDefEqProofs only [go_sem,↓reduceIte,Tryz.f98,hgb,cH hni,cV,hN2,hgi,gI,bX,eiq]
        have h3:(gJ (k + 1) fun j=>if j < q then jQ (B i j) (mulL (B i c) (D j)) else B i j).set q (jQ (B i q) (mulL (B i c) (D q))) = gJ (k + 1) fun j=>if j < q + 1 then jQ (B i j) (mulL (B i c) (D j)) else B i j:=by
         rw [aC0]
         refine dB fun j _=>?_
         by_cases e:j = q
         ·rw [if_pos e,if_pos (by omega),e]
         ·rw [if_neg e]
          by_cases e2:j < q
          ·rw [if_pos e2,if_pos (by omega)]
          ·rw [if_neg e2,if_neg (by omega)]
        rw [nL ints,h3]
        have HF:=H.set (B:=fun i' j=>if i' = c then D j else if i' < i∨i' = i∧j < q + 1 then jQ (B i' j) (mulL (B i' c) (D j)) else B i' j) hni fun i' hi' j _=>by simp [hi']
        have hrf:gJ (k + 1) ((fun i' j=>if i' = c then D j else if i' < i∨i' = i∧j < q + 1 then jQ (B i' j) (mulL (B i' c) (D j)) else B i' j) i) = gJ (k + 1) fun j=>if j < q + 1 then jQ (B i j) (mulL (B i c) (D j)) else B i j:=dB fun j _=>by simp [hic]
        rw [hrf] at HF
        refine ⟨by omega,(q + 1,a7 G ni (gI ints (gJ (k + 1) fun j=>if j < q + 1 then jQ (B i j) (mulL (B i c) (D j)) else B i j))),IntWalk.i64_in _ (by omega),aA.le_refl _,⟨a0R,HF⟩,by simp only;omega⟩
       ·obtain rfl:q = k + 1:=by omega
        simp -dsimp -implicitDefEqProofs only [go_sem,↓reduceIte,Tryz.f98,show ¬ (((k + 1:Nat):Int) < (k:Int) + 1) by omega]
        exact ⟨(i + 1,G),IntWalk.i64_in _ (by omega),aA.le_refl _,⟨uP,H.congr fun i' _ j hj=>by
         by_cases e:i' = c
         ·rw [if_pos e,if_pos e]
         ·rw [if_neg e,if_neg e]
          by_cases e2:i' < i + 1
          ·rw [if_pos e2,if_pos (by omega)]
          ·rw [if_neg e2,if_neg (by omega)]⟩,by simp only;omega⟩
      ·obtain rfl:i = k:=by omega
       simp -dsimp -implicitDefEqProofs only [go_sem,↓reduceIte,Tryz.f98,Nat.lt_irrefl,Int.lt_irrefl]
       refine ⟨(c + 1,uU rR B c,N2,G),IntWalk.i64_in _ (by omega),aA.le_refl _,⟨hlt,hN2,hgo,aO3 (aCV sz) hlt hB (decide_eq_false hdz),H.congr fun i' hi' j _=>?_⟩,by simp only;omega⟩
       rw [hN2] at hi'
       show uU rR B c i' j = _
       unfold uU
       by_cases e:i' = c
       ·rw [if_pos e,if_pos e,← hDe];rfl
       ·rw [if_neg e,if_neg e,if_pos hi',← hDe];rfl
   ·obtain rfl:r = k:=by omega
    simp -dsimp -implicitDefEqProofs only [go_sem,↓reduceIte,Tryz.f98,Nat.lt_irrefl,Int.lt_irrefl]
    rw [Nat.sub_self,oK] at hpv
    have hno:=aMU (by omega) hgj hpv.symm
    rw [aO9,hno]
    exact Shift.of (Sub.gW (.cons (Sub.nil 1 false) (.cons (.refl _) .nil))) H.le
  ·obtain rfl:c = k:=by omega
   simp -dsimp -implicitDefEqProofs only [go_sem,↓reduceIte,Tryz.f98,Nat.lt_irrefl,Int.lt_irrefl,hgb,cV,hN]
   refine ⟨Nat.zero_lt_one,fun _=>?_⟩
   have hxl:(gJ c fun i=>A i c).length = c:=bX _ _
   have jC:aO9 c M = (gJ c fun i=>A i c,true):=by rw [aO9,hgj]
   rw [jC]
   refine bQ (keep:=vW) (ib:=aMV) (mk:=aMW) mix (by kernel_rfl) (fun x:Nat × Option Nat=>[(6,I c),(17,eU 1 ((gJ c fun i=>A i c).take x.1).length x.2),(161,.os bb 1 0 c),(162,I c),(163,I x.1)]) (fun x=>gB g (.row 1 ((((gJ c fun i=>A i c).take x.1).map fun s=>[ints s]).map (List.map .v))) x.2) (fun x=>x.1≤c∧eF g ((gJ c fun i=>A i c).take x.1) x.2) (fun x=>c - x.1) (0,none) ⟨by simp [bU,bF,eU],by simp only [aP];exact aA.le_refl _,Nat.zero_le _,by simp [eF]⟩ ?_
   rintro ⟨k,o⟩ ⟨hk,hos⟩
   simp only at hk hos ⊢
   rcases Nat.lt_or_ge k c with hlt | hge
   ·obtain ⟨nk,hnk⟩:∃ nk,N[k]? = some nk:=⟨_,List.getElem?_eq_getElem (by omega)⟩
    have hgk:=H.get k nk hnk
    have hy:(gJ c fun i=>A i c).take (k + 1) = (gJ c fun i=>A i c).take k ++ [A k c]:=by
     rw [List.take_succ_eq_append_getElem (by omega)];simp [gJ]
    have hlk:((gJ c fun i=>A i c).take k).length = k:=by rw [List.length_take];omega
    cases o with
    |none =>
     rw [a6] at hos
     rw [hos] at hy ⊢
     simp -dsimp -implicitDefEqProofs only [go_sem,↓reduceIte,Tryz.f98,a8,aP,hlt,hgb,cH hnk,cV,hN,hgk,gI,bX,e8 (A k) (Nat.lt_succ_self c)]
     repeat' (with_reducible first | intro _ | refine And.intro ?_ ?_)
     all_goals try (first | omega | decide)
     rename_i b hb
     refine ⟨(k + 1,some b),?_⟩
     simp only [hy]
     refine ⟨⟨rfl,?_⟩,aA.le_refl _,⟨by omega,hb⟩,by omega⟩
     rw [IntWalk.i64_in _ (by omega)];rfl
    |some m =>
     rw [aU] at hos
     have aA2:¬ bb = m:=fun e=>by rw [← e,hgb] at hos;cases hos
     have xX:¬ m = bb:=Ne.symm aA2
     have aFG:(bb = m) = False:=eq_false aA2
     have aFF:(m = bb) = False:=eq_false xX
     have aJW:¬ nk = m:=fun e=>by rw [← e,hgk] at hos;cases hos
     have aJX:¬ m = nk:=Ne.symm aJW
     have aPA:(nk = m) = False:=eq_false aJW
     have aPB:(m = nk) = False:=eq_false aJX
     simp -dsimp -implicitDefEqProofs only [go_sem,↓reduceIte,Tryz.f98,aT,aK,hlt,hgb,cH hnk,cV,hN,hgk,gI,bX,e8 (A k) (Nat.lt_succ_self c),aFG,aFF,aPA,aPB,aF]
     repeat' (with_reducible first | intro _ | refine And.intro ?_ ?_)
     all_goals try (first | omega | decide | exact Nat.le_refl _)
     rename_i b hb
     refine ⟨(k + 1,some b),?_⟩
     simp only [hy,aK,aT,aU]
     refine ⟨⟨by rw [List.length_append];rfl,?_⟩,?_,⟨by omega,hb.2⟩,by omega⟩
     ·rw [IntWalk.i64_in _ (by omega)];rfl
     ·rw [← dQ];exact iX hos
   ·have hk':k = c:=by omega
    subst hk'
    rw [List.take_of_length_le (by omega)] at hos ⊢
    cases o with
    |none =>
     rw [a6] at hos
     simp -dsimp -implicitDefEqProofs only [go_sem,↓reduceIte,Tryz.f98,a8,aP,Nat.lt_irrefl,Int.lt_irrefl]
     rw [hos]
     exact Shift.of (Sub.gW (.cons (Sub.loose _ _ _) (.cons (.refl _) .nil))) H.le
    |some m =>
     rw [aU] at hos
     simp -dsimp -implicitDefEqProofs only [go_sem,↓reduceIte,Tryz.f98,aT,aK,Nat.lt_irrefl,Int.lt_irrefl]
     refine Shift.trans (fH ((gJ k fun i=>A i k).map fun s=>[ints s]) hos (aA.le_refl _) (by simp [dF,dG]) ?_) (cG H.le)
     simp [aC.cR,iF,List.take_of_length_le]
theorem OM.bFL {α:Type} {c:α→aC} {h g:aA} {b b2 w n k:Nat} {N:List Nat} {A:Nat→Nat→α} (H:OM c h b w N A g) (hN:N.length = k) (hn:g n = none) (hb:g b2 = none) (hnb:¬ n = b2):OM c h b2 w (N ++ [n]) A (a7 (a7 (a7 g n (.row 1 (((gJ w (A k)).map fun x=>[c x]).map (List.map .v)))) b .gone) b2 (.row 1 (List.take k (qO w N) ++ [[.v (.os n 1 0 w)]]))):=by
 have aOX:¬ n = b:=fun e=>by rw [e,H.bk] at hn;cases hn
 refine OM.more H hn hb hnb ?_ ?_ fun q q1 q2 q3 o ho=>?_
 ·rw [aF _ _ _ _ hnb,aF _ _ _ _ aOX,aH,hN];rfl
 ·rw [aH,aHH,List.take_of_length_le (by rw [cV,hN];exact Nat.le_refl _)]
 ·rw [aF _ _ _ _ q2,aF _ _ _ _ q3,aF _ _ _ _ q1];exact ho
theorem a0S {α:Type} {w x:Nat} (f a:Nat→α):(gJ w fun k=>if k < x then f k else a k).set x (f x) = gJ w fun k=>if k < x + 1 then f k else a k:=by
 rw [aC0]
 refine dB fun j _=>?_
 by_cases e:j = x
 ·rw [if_pos e,if_pos (by omega),e]
 ·rw [if_neg e]
  by_cases e2:j < x
  ·rw [if_pos e2,if_pos (by omega)]
  ·rw [if_neg e2,if_neg (by omega)]
@[go_sem] def a28:List Nat:=[18]
theorem aR6 {n w:Nat} (hn:n≤1048576) (hw:1≤w∧w≤1048576) {L:List (List Int)} (hL:L.length = n) (hLw:∀ i,i < n→(L.getD i []).length = w) (h:aA):fE Tryz.prog 147 [bB L] h fun r h'=>∃ b N,r = .os b 1 0 n∧N.length = n∧OM I h b w N (fun i k=>(L.getD i []).getD k 0) h':=by
 refine iY 21 aGZ a28 bC mix Tryz.func147 rfl (by kernel_rfl) (by simp) ?_
 simp -dsimp -implicitDefEqProofs only [go_sem,↓reduceIte,Tryz.f147,hL]
 refine ⟨by decide,fun b0 hb0=>?_⟩
 refine bQ (keep:=aGZ) (ib:=a28) (mk:=bC) mix (by kernel_rfl) (fun x:Nat × Nat × List Nat × aA=>[(0,bB L),(3,.os x.2.1 1 0 x.1),(4,I x.1)]) (fun x=>x.2.2.2) (fun x=>x.1≤n∧x.2.2.1.length = x.1∧OM I h x.2.1 w x.2.2.1 (fun i k=>(L.getD i []).getD k 0) x.2.2.2) (fun x=>n - x.1) (0,b0,[],a7 h b0 (.row 1 [])) ⟨by simp [bU,bF],aA.le_refl _,Nat.zero_le _,rfl,⟨by simp,by simp,by simp,aH _ _ _,fun q o hq=>(aF _ _ _ _ (fun e=>by rw [e,hb0] at hq;cases hq)).trans hq,hb0⟩⟩ ?_
 rintro ⟨k,bb,N,g⟩ ⟨hk,hN,H⟩
 simp only at hk hN H ⊢
 rcases Nat.lt_or_ge k n with hlt | hge
 ·have ea:L[k]? = some (L.getD k []):=by rw [List.getD_eq_getElem?_getD,List.getElem?_eq_getElem (by omega)];rfl
  have hlw:=hLw k hlt
  have hgb:=H.bk
  have hr:gJ w (fun j=>(L.getD k []).getD j 0) = L.getD k []:=by
   apply List.ext_getElem
   ·rw [bX,hlw]
   ·intro j h1 h2
    simp only [gJ,List.getElem_map,List.getElem_range]
    rw [List.getD_eq_getElem?_getD,List.getElem?_eq_getElem h2];rfl
  simp -dsimp -implicitDefEqProofs only [go_sem,↓reduceIte,Tryz.f147,hlt,ea,hL]
  intro _
  refine aG.wn0 (aIM (L.getD k []) (by omega)) ?_
  rintro r l g2 ⟨y,oy,rfl,rfl⟩ wn
  rcases oy.vL with ⟨_,q⟩ | ⟨m2,rfl⟩
  ·rw [q] at hlw;simp at hlw;omega
  rw [OV.iQ]
  rw [OV.cK,fW,eS] at wn
  obtain ⟨zm2,rfl⟩:=wn.pE
  have zP:¬ m2 = bb:=fun e=>by rw [e,hgb] at zm2;cases zm2
  have aJS:¬ bb = m2:=Ne.symm zP
  have aJT:(m2 = bb) = False:=eq_false zP
  have aJU:(bb = m2) = False:=eq_false aJS
  rw [← hr]
  simp -dsimp -implicitDefEqProofs only [go_sem,↓reduceIte,Tryz.f147,aJU,aJT,aF,hgb,cV,hN,bX]
  refine ⟨by decide,by decide,by decide,Nat.le_refl _,by omega,by omega,fun b' ⟨b1,b4⟩=>?_⟩
  have HF:=OM.bFL H hN zm2 b4 (Ne.symm b1)
  generalize hF:a7 (a7 _ bb bH.gone) b' _ = F at HF ⊢
  exact ⟨(k + 1,b',N ++ [m2],F),⟨rfl,IntWalk.i64_in _ (by omega)⟩,aA.le_refl _,⟨hlt,by simp [hN],HF⟩,by simp only;omega⟩
 ·obtain rfl:k = n:=by omega
  simp -dsimp -implicitDefEqProofs only [go_sem,↓reduceIte,Tryz.f147,Nat.lt_irrefl,Int.lt_irrefl,hL]
  exact fun _=>⟨_,g,aZ _ _,bb,N,rfl,hN,H⟩
@[go_sem] def aR7:List Nat:=[0,1,2,6,10]
@[go_sem] def a29:Marks:=fun id=>match id with | 3=>([5,10,14],(.op 0 (.op 1 (.op 2 (.op 3 (.op 4 (.op 6 (.op 7 (.op 8 (.op 9 (.op 5 (.op 10 (.op 11 (.op 12 (.op 13 (.op 14 .nil))))))))))))))),[]) | _=>([],.nil,[])
theorem aMX {w m m2:Nat} (hw:w≤1048576) {a b:Nat→Int} {by_:Int} (ha:∀ k,k < w→fP (a k)) (hb:∀ k,k < w→fP (b k)) (hy:fP by_) {g:aA} (hm:g m = some (gI I (gJ w a))) (hm2:g m2 = some (gI I (gJ w b))) (hne:¬ m = m2):fE Tryz.prog 148 [.os m 1 0 w,.os m2 1 0 w,I by_] g fun _ h'=>h' = a7 g m (gI I (gJ w fun k=>dW.tk (a k) by_ (b k))):=by
 have aJR:¬ m = m2:=hne
 have aFH:¬ m2 = m:=Ne.symm aJR
 have aFJ:(m = m2) = False:=eq_false aJR
 have aFI:(m2 = m) = False:=eq_false aFH
 refine yP 27 aR7 bM a29 mix Tryz.func148 rfl (by kernel_rfl) (by simp) ?_
 simp -dsimp -implicitDefEqProofs only [go_sem,↓reduceIte,Tryz.f148,hm,hm2]
 refine bQ (keep:=aR7) (ib:=bM) (mk:=a29) mix (by kernel_rfl) (fun x:Nat=>[(0,.os m 1 0 w),(1,.os m2 1 0 w),(2,I by_),(6,I x)]) (fun x=>a7 g m (gI I (gJ w fun k=>if k < x then dW.tk (a k) by_ (b k) else a k))) (fun x=>x≤w) (fun x=>w - x) 0 ⟨by simp [bU,bF],by simp only [Nat.not_lt_zero,if_false];rw [sB hm];exact aA.le_refl _,Nat.zero_le _⟩ ?_
 intro x hx
 rcases Nat.lt_or_ge x w with hlt | hge
 ·have e1:(gJ w fun k=>if k < x then dW.tk (a k) by_ (b k) else a k)[x]? = some (a x):=by rw [e8 _ hlt,if_neg (Nat.lt_irrefl x)]
  simp -dsimp -implicitDefEqProofs only [go_sem,↓reduceIte,Tryz.f148,hlt,aFJ,aFI,aF,hm2,gI,bX,e1,e8 b hlt]
  intro _
  have hax:=ha x hlt
  have hbx:=hb x hlt
  first | refine aG.mk (aV by_ (b x) hy hbx) ?_ | refine aD.mk (aV by_ (b x) hy hbx) ?_ | refine aG.a5 (aV by_ (b x) hy hbx) ?_ | refine aD.mk (aX.cD (aV by_ (b x) hy hbx)) ?_
  simp -dsimp -implicitDefEqProofs only [go_sem,↓reduceIte,Tryz.f148,aFJ,aFI,aF,hm2,gI,bX,e1]
  first | refine aG.mk (kI (a x) (by_ * b x % 1000003) hax (c7 _)) ?_ | refine aD.mk (kI (a x) (by_ * b x % 1000003) hax (c7 _)) ?_ | refine aG.a5 (kI (a x) (by_ * b x % 1000003) hax (c7 _)) ?_ | refine aD.mk (aX.cD (kI (a x) (by_ * b x % 1000003) hax (c7 _))) ?_
  simp -dsimp -implicitDefEqProofs only [go_sem,↓reduceIte,Tryz.f148,aFJ,aFI,aF,hm2,gI,bX,e1]
  refine ⟨hlt,x + 1,IntWalk.i64_in _ (by omega),?_,hlt,by omega⟩
  have h3:=a0S (w:=w) (x:=x) (fun k=>dW.tk (a k) by_ (b k)) a
  rw [aO,nL I,show (a x - by_ * b x % 1000003) % 1000003 = dW.tk (a x) by_ (b x) from rfl,h3]
  exact aA.le_refl _
 ·obtain rfl:x = w:=by omega
  simp -dsimp -implicitDefEqProofs only [go_sem,↓reduceIte,Tryz.f148,Nat.lt_irrefl,Int.lt_irrefl]
  refine fun _=>⟨_,aA.le_refl _,?_⟩
  rw [dB (fun k hk=>if_pos hk)]
def bL (p:aE) (inp:Int) (S:bY) (om og ov:Option Nat):bH :=
 .row 6 [[.v (.ip 1 [[cY 3 aS.c p.aJ]] 0 0),.v (I inp),.v (mQ 4 S.code.length om),.v (mQ 2 S.guards.length og),.v .bO,.v (mQ 1 S.dU.length ov)]]
theorem aMZ (p:aE) (inp:Int):∀ S om og ov,∃ sz cs,bL p inp S om og ov = .row sz cs∧¬ sz = 1∧¬ sz = 2∧¬ sz = 4:=fun S om og ov=>⟨6,_,rfl,by decide,by decide,by decide⟩
@[go_sem] def a3A:List Nat:=[4,14,25]
@[go_sem] def a3B:Marks:=fun id=>match id with | 1=>([5,8,12],(.op 0 (.op 1 (.op 2 (.op 3 (.op 4 (.op 6 (.op 7 (.op 5 (.op 8 (.op 9 (.op 10 (.op 11 (.op 12 .nil))))))))))))),[]) | _=>([],.nil,[])
theorem vX {h0 h:aA} {nb:Nat} {p:aE} {inp:Int} {S:bY} (H:cC (bL p inp) h0 nb S h) (x:aY) (v:Int) (hl:S.code.length = S.dU.length) (hcap:S.dU.length≤1048576) :
  fE Tryz.prog 125 [.op nb 6 0 0,.agg x.c,I v] h fun r h'=>r = I S.dU.length∧cC (bL p inp) h0 nb (S.put x v) h':=by
 obtain ⟨om,og,ov,H⟩:=H
 have hb:=H.box
 have hc:=H.code
 have hv:=H.dU
 unfold bL at hb
 rw [aY.aQ]
 cases om with
 |none =>
  have pC:S.code = []:=fY.1 hc
  cases ov with
  |some v =>
   have qQ:S.dU = []:=List.eq_nil_of_length_eq_zero (by rw [← hl,pC];rfl)
   exact absurd (by rw [qQ];rfl) hv.1
  |none =>
   have qQ:S.dU = []:=fY.1 hv
   refine iY 36 aQN a3A a3B mix Tryz.func125 rfl (by kernel_rfl) (by simp) ?_
   simp -dsimp -implicitDefEqProofs only [go_sem,↓reduceIte,Tryz.f125,hb,sA]
   refine ⟨by decide,by decide,by decide,fun m hm=>?_⟩
   have eI:¬ m = nb:=fun e=>by rw [e,hb] at hm;cases hm
   have dM:¬ nb = m:=Ne.symm eI
   have dY:(m = nb) = False:=eq_false eI
   have dZ:(nb = m) = False:=eq_false dM
   simp -dsimp -implicitDefEqProofs only [go_sem,↓reduceIte,Tryz.f125,hb,sA,dY,dZ,aF]
   refine ⟨by decide,by decide,by decide,fun w ⟨hwb,hwm,hw⟩=>?_⟩
   have mE:¬ w = nb:=hwb
   have tN:¬ nb = w:=Ne.symm mE
   have kT:(w = nb) = False:=eq_false mE
   have kU:(nb = w) = False:=eq_false tN
   have sE:¬ w = m:=hwm
   have y8:¬ m = w:=Ne.symm sE
   have rG:(w = m) = False:=eq_false sE
   have rH:(m = w) = False:=eq_false y8
   try simp -dsimp -implicitDefEqProofs only [go_sem,↓reduceIte,Tryz.f125,hb,dY,rH,dZ,kU,rG,kT,aF]
   obtain ⟨g,hg,hR⟩:=H.put x v hm hw sE (F:=a7 (a7 (a7 h m (.row 4 [x.c.map .v])) w (.row 1 [[.v (I v)]])) nb (bL p inp (S.put x v) (some m) og (some w))) (aH _ _ _)
    (by rw [aF _ _ _ _ eI,aF _ _ _ _ y8,aH,pC];rfl) (by rw [aF _ _ _ _ mE,aH,qQ];rfl) (fun n h1 h2 h3 _ _=>by rw [aF _ _ _ _ h1,aF _ _ _ _ h3,aF _ _ _ _ h2])
   refine ⟨_,g,cG (aA.le_trans hg ?_),by rw [qQ];rfl,hR⟩
   unfold bL
   simp only [bY.put,pC,qQ,cW,aY.aQ,List.nil_append,List.length_singleton,List.map_cons,List.map_nil]
   exact (lL (by repeat' (first | exact jN _ _ | refine lM (by simp only [dX,↓reduceIte,eq_self,if_true,dY,rH,dZ,kU,rG,kT]) ?_ | refine iG (by first | exact .inr (by assumption) | exact .inl (by simp)) ?_)))
 |some m =>
  cases ov with
  |none =>
   have qQ:S.dU = []:=fY.1 hv
   have pC:S.code = []:=List.eq_nil_of_length_eq_zero (by rw [hl,qQ];rfl)
   exact absurd (by rw [pC];rfl) hc.1
  |some w =>
   have hm:=hc.2
   have hw:=hv.2
   have eI:¬ m = nb:=fun e=>by rw [e,hb] at hm;cases hm
   have dM:¬ nb = m:=Ne.symm eI
   have dY:(m = nb) = False:=eq_false eI
   have dZ:(nb = m) = False:=eq_false dM
   have mE:¬ w = nb:=fun e=>by rw [e,hb] at hw;cases hw
   have tN:¬ nb = w:=Ne.symm mE
   have kT:(w = nb) = False:=eq_false mE
   have kU:(nb = w) = False:=eq_false tN
   have sE:¬ w = m:=fun e=>by rw [e,hm] at hw;cases hw
   have y8:¬ m = w:=Ne.symm sE
   have rG:(w = m) = False:=eq_false sE
   have rH:(m = w) = False:=eq_false y8
   refine iY 36 aQN a3A a3B mix Tryz.func125 rfl (by kernel_rfl) (by simp) ?_
   simp -dsimp -implicitDefEqProofs only [go_sem,↓reduceIte,Tryz.f125,hb,cW,hm,hw,dY,rH,dZ,kU,rG,kT,aF]
   refine ⟨by decide,by decide,by decide,by rw [dD];exact Nat.le_refl _,by omega,by omega,fun b jP=>?_⟩
   have bV:¬ b = nb:=fun e=>by rw [e,hb] at jP;cases jP
   have dS:¬ nb = b:=Ne.symm bV
   have cT:(b = nb) = False:=eq_false bV
   have cU:(nb = b) = False:=eq_false dS
   have gU:¬ b = m:=fun e=>by rw [e,hm] at jP;cases jP
   have j5:¬ m = b:=Ne.symm gU
   have k5:(b = m) = False:=eq_false gU
   have k6:(m = b) = False:=eq_false j5
   have aEU:¬ b = w:=fun e=>by rw [e,hw] at jP;cases jP
   have aV6:¬ w = b:=Ne.symm aEU
   have aEV:(b = w) = False:=eq_false aEU
   have aEW:(w = b) = False:=eq_false aV6
   simp -dsimp -implicitDefEqProofs only [go_sem,↓reduceIte,Tryz.f125,hb,hw,dY,rH,k6,dZ,kU,cU,rG,kT,aEW,k5,cT,aEV,aF]
   rw [cW]
   simp -dsimp -implicitDefEqProofs only [go_sem,↓reduceIte,Tryz.f125,hb,hw,dY,rH,k6,dZ,kU,cU,rG,kT,aEW,k5,cT,aEV,aF]
   refine ⟨by decide,by decide,by decide,by rw [dD];exact Nat.le_refl _,by omega,by omega,fun b2 ⟨bFM,a5C,a5D,jG⟩=>?_⟩
   have tO:¬ b2 = nb:=bFM
   have aIT:¬ nb = b2:=Ne.symm tO
   have aCO:(b2 = nb) = False:=eq_false tO
   have aCP:(nb = b2) = False:=eq_false aIT
   have aEX:¬ b2 = m:=a5D
   have aOJ:¬ m = b2:=Ne.symm aEX
   have aIU:(b2 = m) = False:=eq_false aEX
   have aIV:(m = b2) = False:=eq_false aOJ
   have aEY:¬ b2 = w:=fun e=>by rw [e,hw] at jG;cases jG
   have aOK:¬ w = b2:=Ne.symm aEY
   have aIW:(b2 = w) = False:=eq_false aEY
   have aIX:(w = b2) = False:=eq_false aOK
   have xQ:¬ b2 = b:=a5C
   have aEZ:¬ b = b2:=Ne.symm xQ
   have aIY:(b2 = b) = False:=eq_false xQ
   have aIZ:(b = b2) = False:=eq_false aEZ
   simp -dsimp -implicitDefEqProofs only [go_sem,↓reduceIte,Tryz.f125,hb,hw,dY,rH,k6,aIV,dZ,kU,cU,aCP,rG,kT,aEW,aIX,k5,cT,aEV,aIZ,aIU,aCO,aIW,aIY,aF]
   rw [List.take_of_length_le (by rw [dD];exact Nat.le_refl _),List.take_of_length_le (by rw [dD];exact Nat.le_refl _)]
   obtain ⟨g,hg,hR⟩:=H.put x v jP jG xQ (F:=a7 (a7 (a7 (a7 (a7 h m .gone) b (.row 4 (rowsOf aY.c S.code ++ [x.c.map .v]))) w .gone) b2 (.row 1 (rowsOf (fun n=>[I n]) S.dU ++ [[.v (I v)]]))) nb (bL p inp (S.put x v) (some b) og (some b2))) (aH _ _ _)
    (by rw [aF _ _ _ _ bV,aF _ _ _ _ aEZ,aF _ _ _ _ aEU,aH,kP]) (by rw [aF _ _ _ _ tO,aH,kP];rfl)
    (fun n h1 h2 h3 h4 h5=>by rw [aF _ _ _ _ h1,aF _ _ _ _ h3,aF _ _ _ _ (fun q=>h5 (by rw [q])),aF _ _ _ _ h2,aF _ _ _ _ (fun q=>h4 (by rw [q]))])
   refine fun _=>⟨_,g,cG (aA.le_trans hg ?_),?_,hR⟩
   ·unfold bL
    simp only [bY.put,cW,aY.aQ,List.length_append,List.length_singleton,List.map_cons,List.map_nil]
    exact (lL (by repeat' (first | exact jN _ _ | refine lM (by simp only [dX,↓reduceIte,eq_self,if_true,dY,rH,k6,aIV,dZ,kU,cU,aCP,rG,kT,aEW,aIX,k5,cT,aEV,aIZ,aIU,aCO,aIW,aIY]) ?_ | refine iG (by first | exact .inr (by assumption) | exact .inl (by simp)) ?_)))
   ·rw [IntWalk.i64_in _ (by omega)]
    congr 1
    omega
theorem vY (a:Int) (ha:fP a):dI Tryz.prog 90 [I a] (I ((0 - a) % 1000003)):=by
 unfold fP at ha
 refine dJ 6 aAN bM bC mix Tryz.func90 rfl (by kernel_rfl) (by simp) fun h=>?_
 simp -dsimp -implicitDefEqProofs only [go_sem,↓reduceIte,Tryz.f90]
 rw [IntWalk.i64_in _ (by omega)]
 first | refine aG.mk (b6 (0 - a)) ?_ | refine aD.mk (b6 (0 - a)) ?_ | refine aG.a5 (b6 (0 - a)) ?_ | refine aD.mk (aX.cD (b6 (0 - a))) ?_
 simp -dsimp -implicitDefEqProofs only [go_sem,↓reduceIte,Tryz.f90]
@[go_sem] def a0T:List Nat:=[0,2,3,4,6,8]
theorem aR8 (k:Int) (hk:k = 3∨k = 4∨k = 5∨k = 6):dI Tryz.prog 209 [I k] (I k):=by
 refine dJ 10 a0T bM bC mix Tryz.func209 rfl (by kernel_rfl) (by simp) fun h=>?_
 simp -dsimp -implicitDefEqProofs only [go_sem,↓reduceIte,Tryz.f209]
 refine ⟨fun q=>by rw [q],fun q=>⟨fun q4=>by rw [q4],fun q4=>⟨fun q5=>by rw [q5],fun q5=>?_⟩⟩⟩
 rw [show k = 6 by omega]
@[go_sem] def a0U:List Nat:=[0,1,2,6,7,8,13,18]
theorem iR (k a b v:Int) (ha:fP a) (hb:fP b) (hk:k = 3∨k = 4∨k = 5∨k = 6) (hv:opV k a b = some v):dI Tryz.prog 210 [I k,I a,I b] (I v):=by
 have hni:fP (gG b):=num_inv b
 refine dJ 27 a0U bM bC mix Tryz.func210 rfl (by kernel_rfl) (by simp) fun h=>?_
 simp -dsimp -implicitDefEqProofs only [go_sem,↓reduceIte,Tryz.f210]
 refine ⟨fun q=>?_,fun q=>⟨fun q4=>?_,fun q4=>⟨fun q5=>?_,fun q5=>?_⟩⟩⟩
 ·first | refine aG.mk (eW a b) ?_ | refine aD.mk (eW a b) ?_ | refine aG.a5 (eW a b) ?_ | refine aD.mk (aX.cD (eW a b)) ?_
  simp -dsimp -implicitDefEqProofs only [go_sem,↓reduceIte,Tryz.f210]
  unfold opV at hv;rw [if_pos q] at hv;rw [Option.some.inj hv]
 ·first | refine aG.mk (kI a b ha hb) ?_ | refine aD.mk (kI a b ha hb) ?_ | refine aG.a5 (kI a b ha hb) ?_ | refine aD.mk (aX.cD (kI a b ha hb)) ?_
  simp -dsimp -implicitDefEqProofs only [go_sem,↓reduceIte,Tryz.f210]
  unfold opV at hv;rw [if_neg q,if_pos q4] at hv;rw [Option.some.inj hv]
 ·first | refine aG.mk (aV a b ha hb) ?_ | refine aD.mk (aV a b ha hb) ?_ | refine aG.a5 (aV a b ha hb) ?_ | refine aD.mk (aX.cD (aV a b ha hb)) ?_
  simp -dsimp -implicitDefEqProofs only [go_sem,↓reduceIte,Tryz.f210]
  unfold opV at hv;rw [if_neg q,if_neg q4,if_pos q5] at hv;rw [Option.some.inj hv]
 ·first | refine aG.mk (mD b) ?_ | refine aD.mk (mD b) ?_ | refine aG.a5 (mD b) ?_ | refine aD.mk (aX.cD (mD b)) ?_
  simp -dsimp -implicitDefEqProofs only [go_sem,↓reduceIte,Tryz.f210]
  first | refine aG.mk (aV a (gG b) ha hni) ?_ | refine aD.mk (aV a (gG b) ha hni) ?_ | refine aG.a5 (aV a (gG b) ha hni) ?_ | refine aD.mk (aX.cD (aV a (gG b) ha hni)) ?_
  simp -dsimp -implicitDefEqProofs only [go_sem,↓reduceIte,Tryz.f210]
  unfold opV at hv
  rw [if_neg q,if_neg q4,if_neg q5,if_neg (by omega)] at hv
  by_cases hz:b = 0
  ·rw [if_pos hz] at hv;cases hv
  ·rw [if_neg hz] at hv;rw [Option.some.inj hv]
@[go_sem] def nR:List Nat:=[0,1,2,6,7,8,9,10,11,12,13,17,18,31,40,62,94,111,133]
@[go_sem] def vZ:List Nat:=[89,130]
@[go_sem] def v5:Marks:=fun id=>match id with | 3=>([10],(.op 0 (.op 1 (.op 2 (.op 3 (.op 4 (.op 5 (.op 6 (.op 7 (.op 8 (.op 9 (.op 10 (.op 11 .nil)))))))))))),[]) | 18=>([7,10,11],(.op 0 (.op 1 (.op 2 (.op 3 (.op 4 (.op 5 (.op 6 (.op 8 (.op 9 (.op 7 (.op 10 (.op 11 (.op 12 .nil))))))))))))),[]) | 25=>([9,12,16,19,20,21],(.op 0 (.op 1 (.op 2 (.op 3 (.op 4 (.op 5 (.op 6 (.op 7 (.op 8 (.op 10 (.op 13 (.op 14 (.op 15 (.op 17 (.op 9 (.op 11 (.op 12 (.op 16 (.op 18 (.op 19 (.op 20 (.op 21 (.op 22 .nil))))))))))))))))))))))),[]) | _=>([],.nil,[])
def nS (p:aE) (inp:Int) (n:Nat):Prop:=∀ (h0 h:aA) (nb st:Nat) (e:aB) (env:List Int) (S:bY) (funcs:Int) (k:Int) (S':bY) (t:Nat),cC (bL p inp) h0 nb S h→st≤3000→e.ok p funcs env.length→0≤funcs→funcs≤p.aJ.length→Good inp S st→(∀ x∈env,kB S x)→env.length≤412 + st→cM p n st e env S = .ok ((k,S'),t) →
 fE Tryz.prog 184 [.op nb 6 0 0,.ip 5 [e.c] 0 0,ints env] h fun r h'=>r = I k∧cC (bL p inp) h0 nb S' h'
theorem gC {α β:Type} {X:Out α} {F:α→Nat→Out β} {v:β} {t:Nat} (h:X.andThen F = .ok (v,t)):∃ w u,X = .ok (w,u)∧F w u = .ok (v,t):=by
 cases X with
 |ok q=>exact ⟨q.1,q.2,rfl,h⟩
 |error c=>cases h
theorem aM0 (ev:Nat→aB→bY→Out (Int × bY)) (b:List aB):∀ (a:List aB) (t:Nat) (S:bY),jF ev (a ++ b) t S = (jF ev a t S).andThen fun q t=>(jF ev b t q.2).andThen fun r t=>.ok ((q.1 ++ r.1,r.2),t)
 | [],t,S=>by
  show jF ev b t S = (jF ev b t S).andThen fun r t=>.ok (([] ++ r.1,r.2),t)
  cases jF ev b t S with
  |ok q=>rfl
  |error c=>rfl
 |x :: a,t,S=>by
  simp only [List.cons_append,jF,aM0 ev b a,Out.jY,Out.andThen_ok]
theorem kL {ev:Nat→aB→bY→Out (Int × bY)} {l:List aB} {st:Nat} {S:bY} {v:List Int × bY} {t:Nat} (h:jF ev l st S = .ok (v,t)) {k:Nat} (hk:k < l.length) {vs:List Int} {S1:bY} {t1:Nat} (h1:jF ev (l.take k) st S = .ok ((vs,S1),t1)) :
  ∃ j S2 t2,ev t1 l[k] S1 = .ok ((j,S2),t2)∧jF ev (l.take (k + 1)) st S = .ok ((vs ++ [j],S2),t2):=by
 have e:l = l.take k ++ (l[k] :: l.drop (k + 1)):=by rw [← List.drop_eq_getElem_cons hk,List.take_append_drop]
 rw [e,aM0,h1] at h
 have h':(jF ev (l[k] :: l.drop (k + 1)) t1 S1).andThen (fun r t=>.ok ((vs ++ r.1,r.2),t)) = .ok (v,t):=h
 obtain ⟨w,u,h2,_⟩:=gC h'
 obtain ⟨r,u2,h3,_⟩:=gC h2
 refine ⟨r.1,r.2,u2,h3,?_⟩
 rw [List.take_succ_eq_append_getElem hk,aAV,h1]
 show (ev t1 l[k] S1).andThen _ = _
 rw [h3];rfl
end Go.Hl

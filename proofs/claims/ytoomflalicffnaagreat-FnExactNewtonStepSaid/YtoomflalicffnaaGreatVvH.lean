/-
  Contracts of functions and laws of the layer over the walk.
-/
import Derived.Test.YtoomflalicffnaaGreatVvG
import Derived.Test.YtoomflalicffnaaGreatVvF
import Derived.Test.YtoomflalicffnaaGreatVvE
import Derived.Test.YtoomflalicffnaaGreatVvB
namespace Go.Hl
set_option maxRecDepth 100000
open Go.Proofs
set_option linter.unusedVariables false
set_option linter.unusedSimpArgs false
theorem OMW.own {α:Type} {c:α→aC} {h g:aA} {b n:Nat} {P:Nat→Nat} {R:Nat→List α} (H:OMW c h b n P R g):∃ g0 es,OR (oL c) (gJ n R) es∧es.length = n∧g8 h (OV.sl b 1 es).rows g0∧g0.le g:=by
 have h1:∀ l:List Nat,OR (oL c) (l.map R) (l.map fun i=>[OV.sl (P i) 1 ((R i).map fun x=>[.v (c x)])])∧OV.bG (l.map fun i=>[OV.sl (P i) 1 ((R i).map fun x=>[.v (c x)])]) = l.map (fun i=>(P i,gI c (R i)))∧OV.cells (l.map fun i=>[OV.sl (P i) 1 ((R i).map fun x=>[.v (c x)])]) = l.map fun i=>[Cell.v (.os (P i) 1 0 (R i).length)]:=fun l=>by
  induction l with
  |nil=>exact ⟨trivial,by simp [OV.bG],rfl⟩
  |cons i l ih =>
   refine ⟨⟨⟨_,rfl,OS.mk (xJ _)⟩,ih.1⟩,?_,?_⟩
   ·rw [List.map_cons,cI,ih.2.1,OV.cO,OV.dV,List.append_nil,OV.cK,fW,eS];rfl
   ·rw [List.map_cons,eT,ih.2.2,List.map_singleton,OV.iQ];rfl
 obtain ⟨h2,h3,h4⟩:=h1 (List.range n)
 generalize hes:((List.range n).map fun i=>[OV.sl (P i) 1 ((R i).map fun x=>[.v (c x)])]) = es at *
 have hrow:(OV.sl b 1 es).rows = (b,.row 1 (gJ n fun i=>[Cell.v (.os (P i) 1 0 (R i).length)])) :: (List.range n).map fun i=>(P i,gI c (R i)):=by rw [OV.cK,h3,h4];rfl
 have hnm:a4 (OV.sl b 1 es).rows = b :: (List.range n).map P:=by rw [hrow,a4,List.map_cons,List.map_map];rfl
 have hfr:∀ m∈b :: (List.range n).map P,h m = none:=fun m hm=>by
  rcases List.mem_cons.1 hm with rfl | hm
  ·exact H.bn
  ·obtain ⟨i,hi,rfl⟩:=List.mem_map.1 hm
   exact (H.out i (List.mem_range.1 hi)).2
 refine ⟨fun q=>if q∈b :: (List.range n).map P then g q else h q,es,h2,by rw [← hes,List.length_map,List.length_range],⟨?_,?_,fun p hp=>?_,fun q hq=>?_⟩,fun q=>?_⟩
 ·rw [hnm,List.nodup_cons]
  refine ⟨fun hm=>?_,List.pairwise_map.2 (List.Pairwise.imp_of_mem (fun ha hb hne e=>hne (H.inj _ _ (List.mem_range.1 ha) (List.mem_range.1 hb) e)) List.nodup_range)⟩
  obtain ⟨i,hi,e⟩:=List.mem_map.1 hm
  exact (H.out i (List.mem_range.1 hi)).1 e
 ·rw [hnm];exact hfr
 ·have hmem:p.1∈b :: (List.range n).map P:=by rw [← hnm];exact List.mem_map_of_mem hp
  show (if p.1∈b :: (List.range n).map P then g p.1 else h p.1) = some p.2
  rw [if_pos hmem]
  rw [hrow] at hp
  rcases List.mem_cons.1 hp with rfl | hp
  ·exact H.bk
  ·obtain ⟨i,hi,rfl⟩:=List.mem_map.1 hp
   exact H.get i (List.mem_range.1 hi)
 ·rw [hnm] at hq
  exact if_neg hq
 ·show (if q∈b :: (List.range n).map P then g q else h q) = none∨(if q∈b :: (List.range n).map P then g q else h q) = g q
  split
  ·exact .inr rfl
  ·cases hq:h q with
   |none=>exact .inl rfl
   |some o=>exact .inr (H.keep q o hq).symm
theorem a04 {P:Program} {f:FuncId} {args:List aC} {L:List (List (List Int))} (a:rN P f args (QS (OS (oL ints) 1 L))):dI P f args (j2 L):=QS.cD a fun y hy=>OS.lQ (c:=fun s=>[bB s]) (fun _ _ h=>aV2 h) hy
def uD (sz inp k:Nat):List (List Int):=(List.range inp).map fun i=>if i = k then bJ 1 sz else bJ 0 sz
theorem aXS {sz:Nat} (inp k:Nat):c5 sz inp (uD sz inp k):=⟨by simp [uD],fun s hs=>by
 obtain ⟨i,_,rfl⟩:=List.mem_map.1 hs
 split
 ·exact gN (by decide)
 ·exact gN (by decide)⟩
theorem aHO:∀ (j:Nat) (f:Nat→Int),dO f (fun _=>0) j = 0
 |0,f=>by rw [dO];omega
 |j + 1,f=>by rw [dO,aHO j];omega
theorem aHP (a:Int) (k:Nat):∀ m,dA (fun i=>if i = k then a else 0) m = if k < m then a else 0
 |0=>by simp [dA]
 |m + 1=>by
  rw [dA,aHP a k m]
  by_cases e:m = k
  ·rw [if_neg (by omega),if_pos e,if_pos (by omega)];omega
  ·rw [if_neg e]
   by_cases e2:k < m
   ·rw [if_pos e2,if_pos (by omega)];omega
   ·rw [if_neg e2,if_neg (by omega)];omega
theorem aTQ (sz:Nat):sF (bJ 0 sz) = fun _=>0:=funext fun q=>by
 rw [sF,nA,List.getD_eq_getElem?_getD,List.getElem?_replicate]
 split <;> rfl
theorem aTR {sz:Nat} (h:1≤sz):sF (bJ 1 sz) = fun q=>if q = 0 then 1 else 0:=funext fun q=>by
 obtain ⟨m,rfl⟩:∃ m,sz = m + 1:=⟨sz - 1,by omega⟩
 rw [sF,bJ,List.replicate_succ,List.set_cons_zero]
 cases q with
 |zero=>rfl
 |succ q =>
  rw [if_neg (by omega),List.getD_cons_succ,List.getD_eq_getElem?_getD,List.getElem?_replicate]
  split <;> rfl
theorem a6M {sz inp k:Nat} {row:List (List Int)} (hr:c5 sz inp row) (hk:k < inp):aOZ sz row (uD sz inp k) inp = row.getD k []:=by
 refine aJI (zJ hr inp (Nat.le_refl _)) (hr.get hk).2 fun j hj=>?_
 refine (aE9 hj hr inp (Nat.le_refl _)).trans ?_
 refine Cg.of_eq (Eq.trans (jZ (G:=fun i=>if i = k then sF (row.getD k []) j else 0) inp fun i hi=>?_) ((aHP _ k inp).trans (if_pos hk)))
 have e:fA (uD sz inp k) i = if i = k then sF (bJ 1 sz) else sF (bJ 0 sz):=by
  rw [fA,uD,aA0 hi]
  split <;> rfl
 rw [e]
 by_cases h:i = k
 ·rw [if_pos h,if_pos h,aTR (by omega),aCS,h];rfl
 ·rw [if_neg h,if_neg h,aTQ,aHO]
theorem OMW.init {α:Type} {c:α→aC} {h:aA} {b:Nat} {P:Nat→Nat} {R:Nat→List α} (hb:h b = none):OMW c h b 0 P R (a7 h b (.row 1 [])) :=
 ⟨fun _ _ q=>absurd q (by omega),fun _ q=>absurd q (by omega),fun _ q=>absurd q (by omega),aH _ _ _,fun q o ho=>(aF _ _ _ _ fun e=>by rw [e,hb] at ho;cases ho).trans ho,hb⟩
theorem OMW.grow {α:Type} {c:α→aC} {h g F:aA} {b b2 k m:Nat} {P:Nat→Nat} (H:OMW c h b k P (fun _=>[]) g) (hm:g m = none) (jG:g b2 = none) (hne:¬ m = b2) (h1:F m = some (gI c [])) (h2:F b2 = some (.row 1 ((gJ k fun i=>[Cell.v (.os (P i) 1 0 0)]) ++ [[.v (.os m 1 0 0)]]))) (h3:∀ q,¬ q = m→¬ q = b2→¬ q = b→∀ o,g q = some o→F q = some o) :
  OMW c h b2 (k + 1) (fun i=>if i = k then m else P i) (fun _=>[]) F:=by
 have hn:∀ {q},g q = none→h q = none:=fun {q} hq=>by
  cases e:h q with
  |none=>rfl
  |some o=>rw [H.keep q o e] at hq;cases hq
 have hPm:∀ i,i < k→¬ P i = m∧¬ P i = b2∧¬ P i = b:=fun i hi=>⟨(fun e=>by have:=H.get i hi;rw [e,hm] at this;cases this),(fun e=>by have:=H.get i hi;rw [e,jG] at this;cases this),(H.out i hi).1⟩
 refine ⟨fun i j hi hj e=>?_,fun i hi=>?_,fun i hi=>?_,?_,fun q o hq=>?_,hn jG⟩
 ·by_cases e1:i = k
  ·by_cases e2:j = k
   ·rw [e1,e2]
   ·simp only [if_pos e1,if_neg e2] at e
    exact absurd e.symm (hPm j (by omega)).1
  ·by_cases e2:j = k
   ·simp only [if_neg e1,if_pos e2] at e
    exact absurd e (hPm i (by omega)).1
   ·simp only [if_neg e1,if_neg e2] at e
    exact H.inj i j (by omega) (by omega) e
 ·by_cases e1:i = k
  ·simp only [if_pos e1];exact ⟨hne,hn hm⟩
  ·simp only [if_neg e1];exact ⟨(hPm i (by omega)).2.1,(H.out i (by omega)).2⟩
 ·by_cases e1:i = k
  ·simp only [if_pos e1];exact h1
  ·simp only [if_neg e1]
   obtain ⟨q1,q2,q3⟩:=hPm i (by omega)
   exact h3 _ q1 q2 q3 _ (H.get i (by omega))
 ·rw [h2,gJ,gJ,List.range_succ,List.map_append]
  congr 3
  ·exact List.map_congr_left fun i hi=>by rw [if_neg (by have:=List.mem_range.1 hi;omega)];rfl
  ·simp
 ·exact h3 q (fun e=>(by rw [e,hn hm] at hq;cases hq)) (fun e=>(by rw [e,hn jG] at hq;cases hq)) (fun e=>by rw [e,H.bn] at hq;cases hq) o (H.keep q o hq)
theorem a6N {sz inp k:Nat} (hsz:1≤sz) (hk:k < inp):(List.replicate inp (bJ 0 sz)).set k ((bJ 0 sz).set 0 1) = uD sz inp k:=by
 apply List.ext_getElem
 ·simp [uD]
 ·intro i a b
  rw [List.getElem_set]
  simp only [uD,List.getElem_map,List.getElem_range,List.getElem_replicate]
  by_cases e:k = i
  ·rw [if_pos e,if_pos e.symm,nA];rfl
  ·rw [if_neg e,if_neg (Ne.symm e)]
@[go_sem] def aFU:List Nat:=[0,1,2,6,7,8,9,10,11,12,13,21,31,38,59]
@[go_sem] def aXT:List Nat:=[26,34,44,72]
@[go_sem] def aXU:Marks:=fun id=>match id with | 19=>([5,11,13],(.op 0 (.op 1 (.op 2 (.op 3 (.op 4 (.op 6 (.op 7 (.op 8 (.op 9 (.op 10 (.op 5 (.op 11 (.op 12 (.op 13 .nil)))))))))))))),[]) | _=>([],.nil,[])
theorem aTS (t:jS) {sz inp:Nat} (hsz:1≤sz∧sz≤1048576) (hi:1≤inp∧inp≤12) (hinp:t.gM = inp) (hins:∀ i c,t.aM[i]? = some c→bK inp i c) (hcl:1≤t.aM.length∧t.aM.length≤3200) {args:List (List Int)} (ha:c5 sz inp args)
  (hdiv:∀ (i:Nat) (c:aY),t.aM[i]? = some c→c.fX = 6→¬ (lR sz args t.aM c.fB.toNat).getD 0 0 = 0) (ho:∀ r∈t.aL,0≤r∧r < t.aM.length) (hol:1≤t.aL.length∧t.aL.length≤12):dI Tryz.prog 71 [.ip 4 [t.c] 0 0,bB args,I sz] (j2 ((List.range t.aL.length).map fun o=>(List.range (inp - 1)).map fun k=>z3 sz (uD sz inp (k + 1)) (lR sz args t.aM) t.aM (t.aL.getD o 0).toNat)):=by
 have hsl:=fun k=>aO8 t hsz hinp hins hcl ha (aXS (sz:=sz) inp k) hdiv ho (by omega)
 simp only [jS.aQ] at hsl ⊢
 refine a04 ?_
 have hon:=hol
 obtain ⟨w,hwd⟩:∃ w,w = t.aL.length:=⟨_,rfl⟩
 rw [← hwd] at hon ⊢
 obtain ⟨col,hcol⟩:∃ col:Nat→Nat→List Int,col = fun o k=>z3 sz (uD sz inp (k + 1)) (lR sz args t.aM) t.aM (t.aL.getD o 0).toNat:=⟨_,rfl⟩
 have hgoal:((List.range w).map fun o=>(List.range (inp - 1)).map fun k=>z3 sz (uD sz inp (k + 1)) (lR sz args t.aM) t.aM (t.aL.getD o 0).toNat) = gJ w fun o=>(List.range (inp - 1)).map (col o):=by rw [hcol];rfl
 rw [hgoal]
 have hcz:=oF 0 sz
 have hZl:(List.replicate inp (bJ 0 sz)).length = inp:=List.length_replicate
 have hal:=ha.1
 refine pI 76 aFU aXT aXU mix Tryz.func71 rfl (by kernel_rfl) (by simp) fun h=>?_
 simp -dsimp -implicitDefEqProofs only [go_sem,↓reduceIte,Tryz.f71]
 refine ⟨Nat.zero_lt_one,fun b0 hb0=>?_⟩
 refine bQ (keep:=aFU) (ib:=aXT) (mk:=aXU) mix (by kernel_rfl) (fun x:Nat × Nat × (Nat→Nat) × aA=>[(0,.ip 4 [[I t.gM,cY 4 aY.c t.aM,cY 2 dT.c t.kV,ints t.aL]] 0 0),(1,bB args),(2,I sz),(7,.os x.2.1 1 0 x.1),(8,I x.1)]) (fun x=>x.2.2.2) (fun x=>x.1≤w∧OMW ints h x.2.1 x.1 x.2.2.1 (fun _=>[]) x.2.2.2) (fun x=>w - x.1) (0,b0,fun _=>0,a7 h b0 (.row 1 [])) ⟨by simp [bU,bF],aA.le_refl _,Nat.zero_le _,OMW.init hb0⟩ ?_
 rintro ⟨k,bo,P,g⟩ ⟨hk,H⟩
 simp only at hk H ⊢
 have hgb:=H.bk
 rcases Nat.lt_or_ge k w with hlt | hge
 ·simp -dsimp -implicitDefEqProofs only [go_sem,↓reduceIte,Tryz.f71,hlt,hgb,← hwd]
  refine fun _=>⟨Nat.zero_lt_one,fun m hm=>⟨by decide,by decide,by decide,?_⟩⟩
  have xY:¬ m = bo:=fun e=>by rw [e,hgb] at hm;cases hm
  have aPK:¬ bo = m:=Ne.symm xY
  have aPL:(m = bo) = False:=eq_false xY
  have aPM:(bo = m) = False:=eq_false aPK
  simp -dsimp -implicitDefEqProofs only [go_sem,↓reduceIte,Tryz.f71,aPL,aPM,aF,hgb,bX]
  refine ⟨by omega,by omega,by omega,fun b2 b3=>?_⟩
  rw [List.take_of_length_le (by rw [bX];exact Nat.le_refl _)]
  generalize hF:a7 (a7 (a7 g m (bH.row 1 [])) bo bH.gone) b2 _ = F
  have HF:=H.grow (F:=F) hm b3.2 (Ne.symm b3.1) (by rw [← hF,aF _ _ _ _ (Ne.symm b3.1),aF _ _ _ _ xY,aH];rfl) (by rw [← hF,aH]) fun q q1 q2 q3 o ho=>by rw [← hF,aF _ _ _ _ q2,aF _ _ _ _ q3,aF _ _ _ _ q1];exact ho
  exact ⟨(k + 1,b2,(fun i=>if i = k then m else P i),F),⟨rfl,IntWalk.i64_in _ (by omega)⟩,aA.le_refl _,⟨hlt,HF⟩,by simp only;omega⟩
 ·have hkw:k = w:=by omega
  subst hkw
  simp -dsimp -implicitDefEqProofs only [go_sem,↓reduceIte,Tryz.f71,hgb,← hwd,Nat.lt_irrefl,Int.lt_irrefl]
  intro _
  refine bQ (keep:=aFU) (ib:=aXT) (mk:=aXU) mix (by kernel_rfl) (fun x:Nat × (Nat→Nat) × aA=>[(0,.ip 4 [[I t.gM,cY 4 aY.c t.aM,cY 2 dT.c t.kV,ints t.aL]] 0 0),(1,bB args),(2,I sz),(7,.os bo 1 0 k),(9,I (x.1 + 1:Nat))]) (fun x=>x.2.2) (fun x=>x.1≤inp - 1∧OMW ints h bo k x.2.1 (fun o=>(List.range x.1).map (col o)) x.2.2) (fun x=>inp - 1 - x.1) (0,P,g) ⟨by simp [bU,bF],aA.le_refl _,Nat.zero_le _,H⟩ ?_
  clear H hgb hge hk
  rintro ⟨c,P,g0⟩ ⟨pC,H⟩
  simp only at pC H ⊢
  rcases Nat.lt_or_ge c (inp - 1) with hltc | hgec
  ·simp -dsimp -implicitDefEqProofs only [go_sem,↓reduceIte,Tryz.f71,show ((c + 1:Nat):Int) < (inp:Int) by omega,hal]
   refine fun _=>⟨by decide,?_⟩
   refine bQ (keep:=aFU) (ib:=aXT) (mk:=aXU) mix (by kernel_rfl) (fun x:Nat × LLx=>[(0,.ip 4 [[I t.gM,cY 4 aY.c t.aM,cY 2 dT.c t.kV,ints t.aL]] 0 0),(1,bB args),(2,I sz),(7,.os bo 1 0 k),(9,I (c + 1:Nat)),(10,eU 1 x.1 x.2.1),(11,I x.1)]) (fun x=>wZ x.2) (fun x=>x.1≤inp∧LLG g0 ((List.replicate inp (bJ 0 sz)).take x.1) x.2) (fun x=>inp - x.1) (0,none,[],g0) ⟨by simp [bU,bF,eU],aA.le_refl _,Nat.zero_le _,LLG.init _⟩ ?_
   obtain ⟨w,hwk⟩:∃ w,w = k:=⟨_,rfl⟩
   rw [← hwk] at H ⊢
   rintro ⟨k,op,es,g⟩ ⟨hk,HL⟩
   simp only at hk HL ⊢
   rcases Nat.lt_or_ge k inp with hlt | hge
   ·have hy:(List.replicate inp (bJ 0 sz)).take (k + 1) = (List.replicate inp (bJ 0 sz)).take k ++ [bJ 0 sz]:=by
     rw [List.take_succ_eq_append_getElem (by omega)];simp
    have hlk:((List.replicate inp (bJ 0 sz)).take k).length = k:=by rw [List.length_take];omega
    have tZ:=HL.len
    simp only [hlk] at tZ
    have hown:=aA1 0 (sz:=sz) hsz
    have hc:=hcz
    have HO:=H
    clear H
    have H:=HL
    cases op with
    |none =>
     obtain ⟨h1,h2,h3⟩:=H.nil
     subst h2
     subst h3
     obtain rfl:k = 0:=by rw [← hlk,h1];rfl
     simp -dsimp -implicitDefEqProofs only [go_sem,↓reduceIte,Tryz.f71,hlt,hal,a8,wZ,aP]
     intro _
     refine aG.wn0 (hown) ?_
     rintro r_ l_ g ⟨y_,oy_,rfl,rfl⟩ zO
     rcases oy_.vL with ⟨_,q_⟩ | ⟨m,rfl⟩
     ·rw [q_] at hc;simp at hc;omega
     rw [OV.iQ]
     rw [OV.cK,fW,eS] at zO
     obtain ⟨zm,rfl⟩:=zO.pE
     simp -dsimp -implicitDefEqProofs only [go_sem,↓reduceIte,Tryz.f71,hc,a8]
     refine ⟨Nat.zero_lt_one,Nat.zero_lt_one,Nat.zero_lt_one,fun b ⟨b1,b2⟩=>?_⟩
     obtain ⟨x',e',H',L'⟩:=H.fin (m:=m) (b:=b) (s:=bJ 0 sz) (hc) zm b2 b1 (aA.le_refl _)
     refine ⟨(1,x'),⟨by simp only [e'];rfl,IntWalk.i64_in _ (by omega)⟩,L',⟨hlt,by simp only;rw [hy];exact H'⟩,by simp only;omega⟩
    |some n =>
     simp -dsimp -implicitDefEqProofs only [go_sem,↓reduceIte,Tryz.f71,hlt,hal,aT,wZ,aK,lA,tZ]
     intro _
     refine aG.wn1 (hown) H.2.2 ?_
     rintro r_ l_ g' ⟨y_,oy_,rfl,rfl⟩ zO zn
     rcases oy_.vL with ⟨_,q_⟩ | ⟨m,rfl⟩
     ·rw [q_] at hc;simp at hc;omega
     rw [OV.iQ]
     rw [OV.cK,fW,eS] at zO
     obtain ⟨zm,rfl⟩:=zO.pE
     have jE:¬ m = n:=fun e=>by rw [e,aH] at zn;cases zn
     have o5:¬ n = m:=Ne.symm jE
     have c8:(m = n) = False:=eq_false jE
     have c9:(n = m) = False:=eq_false o5
     simp -dsimp -implicitDefEqProofs only [go_sem,↓reduceIte,Tryz.f71,hc,c8,c9,aF,lA,tZ,aT]
     refine ⟨Nat.zero_lt_one,Nat.zero_lt_one,Nat.zero_lt_one,Nat.le_refl _,by omega,by omega,fun b ⟨bn,bm,bz⟩=>?_⟩
     rw [show List.take k (OV.cells es) = OV.cells es from tZ ▸ s8 es]
     refine ⟨(k + 1,some b,es ++ [oI m (bJ 0 sz)],a7 g m (mF (bJ 0 sz))),⟨rfl,IntWalk.i64_in _ (by omega)⟩,?_,⟨hlt,by simp only;rw [hy];exact H.snoc (bJ 0 sz) zm bz bm⟩,by simp only;omega⟩
     show (wZ (some b,es ++ [oI m (bJ 0 sz)],a7 g m (mF (bJ 0 sz)))).le _
     rw [wZ.snoc,show List.length (bJ 0 sz) = _ from hc]
     exact aCY H.2.2 jE bn (fun q hq=>by simp only [dX,if_neg hq];(repeat' split) <;> first | rfl | contradiction)
   ·obtain rfl:k = inp:=by omega
    simp -dsimp -implicitDefEqProofs only [go_sem,↓reduceIte,Tryz.f71,Nat.lt_irrefl,Int.lt_irrefl,hal]
    rw [List.take_of_length_le (by omega)] at HL
    obtain ⟨y,hy,hv,hnw⟩:=HL.done
    rw [hZl] at hv
    generalize wZ (op,es,g) = G0 at *
    rw [← hv]
    rcases hy with ⟨rfl,h0⟩ | ⟨b,es,rfl,hes⟩
    ·rw [h0] at hZl;simp at hZl;omega
    have hesl:es.length = k:=by rw [← hes.length,hZl]
    rw [OV.nJ,hesl]
    have hnw':g8 g0 (OV.bR [OV.sl b 1 es]) G0:=by rw [OV.cO,OV.dV,List.append_nil];exact hnw
    have hgb:G0 b = some (.row 1 (OV.cells es)):=hnw'.aU6 []
    have hser:c5 sz k (List.replicate k (bJ 0 sz)):=⟨hZl,fun s hs=>by rw [List.eq_of_mem_replicate hs];exact gN (by decide)⟩
    obtain ⟨m,q1,q2,q3,q4⟩:=aXA hes hnw' hser hsz.1 (show c + 1 < k by omega)
    have egt:(List.replicate k (bJ 0 sz)).getD (c + 1) [] = bJ 0 sz:=by rw [List.getD_eq_getElem?_getD,List.getElem?_replicate,if_pos (show c + 1 < k by omega)];rfl
    rw [egt] at q1 q3
    have j5:¬ m = b:=q4
    have gU:¬ b = m:=Ne.symm j5
    have k6:(m = b) = False:=eq_false j5
    have k5:(b = m) = False:=eq_false gU
    have ec0:(bJ 0 sz)[Int.toNat 0]? = some ((bJ 0 sz).getD 0 0):=b9 (l:=bJ 0 sz) (i:=0) (by rw [hcz];exact hsz.1)
    simp -dsimp -implicitDefEqProofs only [go_sem,↓reduceIte,Tryz.f71,hgb,lA,hesl,q2,q3,mF,hcz,ec0]
    refine fun _=>⟨by omega,by omega,?_⟩
    rw [show Int.toNat 0 = 0 from rfl,nL I]
    have hpe:=hnw'.a27 ((bJ 0 sz).set 0 1) q1 (by rw [List.length_set])
    have a05:=hes.set (c + 1) ((bJ 0 sz).set 0 1) _ (a5Z m ((bJ 0 sz).set 0 1))
    rw [a6N hsz.1 (by omega)] at a05
    have aPN:=hpe.1
    rw [show a7 G0 m (bH.row 1 (List.map (List.map Cell.v) (List.map (fun n=>[I n]) ((bJ 0 sz).set 0 1)))) = a7 G0 m (mF ((bJ 0 sz).set 0 1)) from rfl]
    generalize hG1:a7 G0 m (mF ((bJ 0 sz).set 0 1)) = G1 at aPN ⊢
    generalize es.set (c + 1) (oI m ((bJ 0 sz).set 0 1)) = es2 at a05 aPN
    have hslk:=hsl (c + 1)
    obtain ⟨CL,hCL⟩:∃ CL,CL = t.aL.map fun r=>z3 sz (uD sz k (c + 1)) (lR sz args t.aM) t.aM r.toNat:=⟨_,rfl⟩
    rw [← hCL] at hslk
    have hCLl:CL.length = w:=by rw [hCL,List.length_map];omega
    have hCLg:∀ i,i < w→CL[i]? = some (col i c):=fun i hi=>by
     have hi2:i < t.aL.length:=by omega
     have e:t.aL.getD i 0 = t.aL[i]:=by rw [List.getD_eq_getElem?_getD,List.getElem?_eq_getElem hi2];rfl
     rw [hCL,List.getElem?_map,List.getElem?_eq_getElem hi2,hcol]
     simp only [e];rfl
    refine aG.a51 hslk (eD.cons (View.same _ _) (eD.cons (View.same _ _) (eD.cons (aTK a05 aPN (by simp [uD])) (eD.cons (View.same _ _) eD.nil)))) ?_
    have HG:OMW ints h bo w P (fun o=>(List.range c).map (col o)) G1:=⟨H.inj,H.out,fun i hi=>aPN.keep (H.get i hi),aPN.keep H.bk,fun q o hq=>aPN.keep (H.keep q o hq),H.bn⟩
    clear H hnw hnw' aPN hes a05 hgb q1 q2 q3 q4 hpe HL
    simp -dsimp -implicitDefEqProofs only [go_sem,↓reduceIte,Tryz.f71]
    refine bQ (keep:=aFU) (ib:=aXT) (mk:=aXU) mix (by kernel_rfl) (fun x:Nat × (Nat→Nat) × aA=>[(0,.ip 4 [[I t.gM,cY 4 aY.c t.aM,cY 2 dT.c t.kV,ints t.aL]] 0 0),(1,bB args),(2,I sz),(7,.os bo 1 0 w),(9,I (c + 1:Nat)),(12,bB CL),(13,I x.1)]) (fun x=>x.2.2) (fun x=>x.1≤w∧OMW ints h bo w x.2.1 (fun o=>(List.range (if o < x.1 then c + 1 else c)).map (col o)) x.2.2) (fun x=>w - x.1) (0,P,G1) ⟨by simp [bU,bF],aA.le_refl _,Nat.zero_le _,by simpa using HG⟩ ?_
    clear HG
    rintro ⟨i,P,g⟩ ⟨hiw,H⟩
    simp only at hiw H ⊢
    have hln:∀ o,((List.range (if o < i then c + 1 else c)).map (col o)).length = if o < i then c + 1 else c:=fun o=>by rw [List.length_map,List.length_range]
    have hgb:g bo = some (.row 1 (gJ w fun o=>[Cell.v (.os (P o) 1 0 (if o < i then c + 1 else c))])):=by rw [H.bk];simp only [hln]
    rcases Nat.lt_or_ge i w with hlti | hgei
    ·have hgi:=H.get i hlti
     rw [if_neg (Nat.lt_irrefl i)] at hgi
     have eCL:=hCLg i hlti
     have eP:(gJ w fun o=>[Cell.v (.os (P o) 1 0 (if o < i then c + 1 else c))])[i]? = some [Cell.v (.os (P i) 1 0 c)]:=by rw [e8 _ hlti,if_neg (Nat.lt_irrefl i)]
     simp -dsimp -implicitDefEqProofs only [go_sem,↓reduceIte,Tryz.f71,hlti,hCLl,hgb,eP,bX,hgi,gI,eCL]
     refine fun _=>⟨by decide,by decide,by decide,by rw [List.length_range];exact Nat.le_refl _,by omega,by omega,fun m zm=>?_⟩
     have xY:¬ m = bo:=fun e=>by rw [e,hgb] at zm;cases zm
     have aPK:¬ bo = m:=Ne.symm xY
     have aPL:(m = bo) = False:=eq_false xY
     have aPM:(bo = m) = False:=eq_false aPK
     have hPb:=(H.out i hlti).1
     have eP1:(P i = bo) = False:=eq_false hPb
     have eP2:(bo = P i) = False:=eq_false (Ne.symm hPb)
     have bFQ:((List.range (c + 1)).map (col i)).length = c + 1:=by simp
     have bFR:List.take c ((((List.range c).map (col i)).map fun s=>[ints s]).map (List.map Cell.v)) ++ [[Cell.v (ints (col i c))]] = (((List.range (c + 1)).map (col i)).map fun s=>[ints s]).map (List.map .v):=by
      rw [List.take_of_length_le (by simp),List.range_succ];simp
     rw [bFR]
     simp -dsimp -implicitDefEqProofs only [go_sem,↓reduceIte,Tryz.f71,aPL,aPM,eP1,eP2,aF,hgb,eP,bX]
     generalize hF:a7 (a7 (a7 g (P i) bH.gone) m _) bo _ = F
     have HF:=H.put (F:=F) hlti zm ((List.range (c + 1)).map (col i)) (by rw [← hF,aF _ _ _ _ xY,aH,List.range_succ];rfl) (by rw [← hF,aH,bFQ];simp only [hln]) fun q q1 q2 q3 o ho=>by rw [← hF,aF _ _ _ _ q2,aF _ _ _ _ q1,aF _ _ _ _ q3];exact ho
     have hR:(fun j=>if j = i then (List.range (c + 1)).map (col i) else (List.range (if j < i then c + 1 else c)).map (col j)) = fun o=>(List.range (if o < i + 1 then c + 1 else c)).map (col o):=funext fun j=>by
      by_cases e:j = i
      ·rw [if_pos e,if_pos (by omega),e]
      ·rw [if_neg e]
       by_cases e2:j < i
       ·rw [if_pos e2,if_pos (by omega)]
       ·rw [if_neg e2,if_neg (by omega)]
     rw [hR] at HF
     exact ⟨(i + 1,(fun j=>if j = i then m else P j),F),IntWalk.i64_in _ (by omega),aA.le_refl _,⟨hlti,HF⟩,by simp only;omega⟩
    ·obtain rfl:i = w:=by omega
     simp -dsimp -implicitDefEqProofs only [go_sem,↓reduceIte,Tryz.f71,Nat.lt_irrefl,Int.lt_irrefl,hCLl]
     have HH:OMW ints h bo i P (fun o=>(List.range (c + 1)).map (col o)) g:=⟨H.inj,H.out,fun o ho=>by rw [H.get o ho,if_pos ho],by rw [H.bk];exact congrArg (fun r=>some (bH.row 1 r)) (dB fun o ho=>by rw [if_pos ho]),H.keep,H.bn⟩
     exact fun _=>⟨(c + 1,P,g),IntWalk.i64_in _ (by omega),aA.le_refl _,⟨by omega,HH⟩,by simp only;omega⟩
  ·obtain rfl:c = inp - 1:=by omega
   simp -dsimp -implicitDefEqProofs only [go_sem,↓reduceIte,Tryz.f71,show ¬ ((inp - 1 + 1:Nat):Int) < (inp:Int) by omega,hal]
   obtain ⟨g1,es,e1,e2,e3,e4⟩:=H.own
   refine fun _=>⟨_,g1,_,cG e4,⟨OV.sl bo 1 es,OS.mk e1,by rw [OV.nJ,e2],rfl⟩,e3⟩
theorem aM7 {p:aE} (hp:p.ok) {inp:Int} {n:Nat} (hv:nS p inp n) (h0 h:aA) (nb st:Nat) (f:aS) (env:List Int) (S:bY) (funcs:Int) (l:List Int) (S':bY) (t:Nat) (hb:cC (bL p inp) h0 nb S h) (hst:st≤3000)
  (hl:f.aL.length≤1048576) (hok:∀ e∈f.aL,e.ok p funcs env.length) (eM:0≤funcs) (hf:funcs≤p.aJ.length) (hg:Good inp S st) (henv:∀ x∈env,kB S x) (hel:env.length≤412 + st) (hr:jF (fun t e S=>cM p n t e env S) f.aL st S = .ok ((l,S'),t)) :
  fE Tryz.prog 126 [.op nb 6 0 0,.ip 3 [f.c] 0 0,ints env] h fun r h'=>r = ints l∧cC (bL p inp) h0 nb S' h':=by
 rw [aS.aQ]
 refine iY 32 aQK aQL bC mix Tryz.func126 rfl (by kernel_rfl) (by simp) ?_
 simp -dsimp -implicitDefEqProofs only [go_sem,↓reduceIte,Tryz.f126]
 refine ⟨by decide,?_⟩
 refine bQ (keep:=aQK) (ib:=aQL) (mk:=bC) mix (by kernel_rfl) (fun x:Nat × List Int × bY × Nat × aA × Option Nat=>[(0,.op nb 6 0 0),(1,.ip 3 [f.c] 0 0),(2,ints env),(7,eU 1 x.2.1.length x.2.2.2.2.2),(8,I x.1)]) (fun x=>gB x.2.2.2.2.1 (.row 1 ((x.2.1.map fun n=>[I n]).map (List.map .v))) x.2.2.2.2.2) (fun x=>x.1≤f.aL.length∧x.2.1.length = x.1∧jF (fun t e S=>cM p n t e env S) (f.aL.take x.1) st S = .ok ((x.2.1,x.2.2.1),x.2.2.2.1)∧cC (bL p inp) h0 nb x.2.2.1 x.2.2.2.2.1∧eF x.2.2.2.2.1 x.2.1 x.2.2.2.2.2) (fun x=>f.aL.length - x.1) (0,[],S,st,h,none) ⟨by simp [bU,bF,eU,aS.aQ],aA.le_refl _,Nat.zero_le _,rfl,rfl,hb,rfl⟩ ?_
 rintro ⟨k,vs,S1,t1,g,o⟩ ⟨hk,hvl,hs,hR,hos⟩
 simp only at hk hvl hs hR hos ⊢
 rw [aS.aQ]
 rcases Nat.lt_or_ge k f.aL.length with hlt | hge
 ·have ek:f.aL[k]? = some f.aL[k]:=List.getElem?_eq_getElem hlt
  obtain ⟨j,S2,t2,hj,lG⟩:=kL hr hlt hs
  obtain ⟨b1,b2,b3,b4⟩:=fV hp (l:=f.aL.take k) hg hst henv (fun x hx=>hok x (List.mem_of_mem_take hx)) hf _ _ hs
  simp only at b1 b2 b3
  have hsub:fU [.op nb 6 0 0,.ip 5 (f.aL.map aB.c) k 0,ints env] [.op nb 6 0 0,.ip 5 [f.aL[k].c] 0 0,ints env]:=.cons (.refl _) (.cons (Sub.ip (bW hlt) (by simp)) (.cons (.refl _) .nil))
  cases o with
  |none =>
   rw [a6] at hos
   subst hos
   simp -dsimp -implicitDefEqProofs only [go_sem,↓reduceIte,Tryz.f126,a8,aP,hlt,ek]
   refine fun _=>aG.gQ (fE.sub hsub (hv h0 g nb t1 f.aL[k] env S1 funcs j S2 t2 hR b4.2.2.2 (hok _ (List.getElem_mem _)) eM hf b1 (fun x hx=>(henv x hx).ext b2) (by have:=b4.2.2.1;omega) hj)) ?_
   rintro r h' ⟨rfl,lD⟩
   simp -dsimp -implicitDefEqProofs only [go_sem,↓reduceIte,Tryz.f126]
   refine ⟨Nat.zero_lt_one,Nat.zero_lt_one,Nat.zero_lt_one,fun b jG=>?_⟩
   refine ⟨(k + 1,[j],S2,t2,h',some b),⟨rfl,by rw [IntWalk.i64_in _ (by omega)];rfl⟩,aA.le_refl _,⟨by omega,by simp only [List.length_nil] at hvl;subst hvl;rfl,lG,lD,jG⟩,by simp only;omega⟩
  |some m =>
   rw [aU] at hos
   simp -dsimp -implicitDefEqProofs only [go_sem,↓reduceIte,Tryz.f126,aT,aK,hlt,ek]
   refine fun _=>aG.gQ (fE.sub hsub (hv _ _ nb t1 f.aL[k] env S1 funcs j S2 t2 (hR.uM hos) b4.2.2.2 (hok _ (List.getElem_mem _)) eM hf b1 (fun x hx=>(henv x hx).ext b2) (by have:=b4.2.2.1;omega) hj)) ?_
   rintro r h' ⟨rfl,lD⟩
   obtain ⟨g2,rfl,hg2,lD⟩:=lD.base (hR.none hos)
   simp -dsimp -implicitDefEqProofs only [go_sem,↓reduceIte,Tryz.f126]
   refine ⟨Nat.zero_lt_one,Nat.zero_lt_one,Nat.zero_lt_one,Nat.le_refl _,by omega,by omega,fun b ⟨hbm,jG⟩=>?_⟩
   have gU:¬ b = m:=hbm
   have j5:¬ m = b:=Ne.symm gU
   have k5:(b = m) = False:=eq_false gU
   have k6:(m = b) = False:=eq_false j5
   refine ⟨(k + 1,vs ++ [j],S2,t2,g2,some b),⟨by rw [aT,List.length_append];rfl,by rw [IntWalk.i64_in _ (by omega)];rfl⟩,?_,⟨by omega,by rw [List.length_append,hvl];rfl,lG,lD,jG⟩,by simp only;omega⟩
   simp only [aK]
   rw [← dQ]
   exact iX hg2
 ·have hk':k = f.aL.length:=by omega
  subst hk'
  rw [List.take_length,hr] at hs
  obtain ⟨rfl,rfl⟩:=Prod.mk.inj (Prod.mk.inj (Except.ok.inj hs)).1
  cases o with
  |none =>
   rw [a6] at hos
   subst hos
   simp -dsimp -implicitDefEqProofs only [go_sem,↓reduceIte,Tryz.f126,a8,aP,Nat.lt_irrefl,Int.lt_irrefl]
   exact fun _=>⟨ints [],_,Shift.of (Sub.loose _ _ _) (aA.le_refl _),rfl,hR⟩
  |some m =>
   rw [aU] at hos
   simp -dsimp -implicitDefEqProofs only [go_sem,↓reduceIte,Tryz.f126,aT,aK,Nat.lt_irrefl,Int.lt_irrefl]
   exact fun _=>⟨ints l,g,fS l hos (aA.le_refl _) rfl,rfl,hR⟩
theorem g8.single {h g:aA} {m:Nat} {o:bH} (w:g8 h [(m,o)] g):h m = none∧g = a7 h m o:=by
 refine ⟨w.fresh m (by simp [a4]),?_⟩
 funext q
 by_cases e:q = m
 ·subst e;rw [aH];exact w.iD (q,o) (by simp)
 ·rw [aF _ _ _ _ e];exact w.upto q (by simpa [a4] using e)
theorem a06 {p:aE} (hp:p.ok) {inp:Int} {n:Nat} (hv:nS p inp n) {h0 h:aA} {nb st:Nat} {e:aB} {env:List Int} {S:bY} {funcs:Int} {k:Int} {S':bY} {t:Nat} (hR:cC (bL p inp) h0 nb S h) (hst:st < 3000)
  (hok:e.ok p funcs env.length) (eM:0≤funcs) (hf:funcs≤p.aJ.length) (hg:Good inp S st) (henv:∀ x∈env,kB S x) (hel:env.length≤412 + st) (hr:cM p (n + 1) st e env S = .ok ((k,S'),t)) (hk:e.aR = 1) :
  fE Tryz.prog 184 [.op nb 6 0 0,.ip 5 [e.c] 0 0,ints env] h fun r h'=>r = I k∧cC (bL p inp) h0 nb S' h':=by
 rw [aB.aQ]
 have hnode:=(aB.cZ _ _ _ _).1 hok
 have h3:¬ st = 3000:=by omega
 have hcap:=hg.cap
 have hgcap:=hg.nC
 have iZ:=hg.kO (Nat.le_succ st)
 rw [aEN h3 hk] at hr
 cases hr
 refine iY 183 nR vZ v5 mix Tryz.func184 rfl (by kernel_rfl) (by simp) ?_
 simp -dsimp -implicitDefEqProofs only [go_sem,↓reduceIte,Tryz.f184,hk]
 refine aG.gQ (vX hR ⟨2,0,0,e.aW⟩ e.aW hg.len (by omega)) ?_
 rintro r h' ⟨rfl,lD⟩
 simp -dsimp -implicitDefEqProofs only [go_sem,↓reduceIte,Tryz.f184]
 exact ⟨_,_,aZ _ _,rfl,lD⟩
theorem a07 {p:aE} (hp:p.ok) {inp:Int} {n:Nat} (hv:nS p inp n) {h0 h:aA} {nb st:Nat} {e:aB} {env:List Int} {S:bY} {funcs:Int} {k:Int} {S':bY} {t:Nat} (hR:cC (bL p inp) h0 nb S h) (hst:st < 3000)
  (hok:e.ok p funcs env.length) (eM:0≤funcs) (hf:funcs≤p.aJ.length) (hg:Good inp S st) (henv:∀ x∈env,kB S x) (hel:env.length≤412 + st) (hr:cM p (n + 1) st e env S = .ok ((k,S'),t)) (hk:e.aR = 2) :
  fE Tryz.prog 184 [.op nb 6 0 0,.ip 5 [e.c] 0 0,ints env] h fun r h'=>r = I k∧cC (bL p inp) h0 nb S' h':=by
 rw [aB.aQ]
 have hnode:=(aB.cZ _ _ _ _).1 hok
 have h3:¬ st = 3000:=by omega
 have hcap:=hg.cap
 have hgcap:=hg.nC
 have iZ:=hg.kO (Nat.le_succ st)
 rw [aEO h3 hk] at hr
 cases hr
 have hnum:=((eO (by omega)).1 hnode.1).2.2.2.2.1 hk
 have hlt:e.aW.toNat < env.length:=by omega
 refine iY 183 nR vZ v5 mix Tryz.func184 rfl (by kernel_rfl) (by simp) ?_
 simp -dsimp -implicitDefEqProofs only [go_sem,↓reduceIte,Tryz.f184,hk,b9 hlt]
 exact ⟨hnum.1,by omega,_,_,aZ _ _,rfl,hR⟩
theorem a08 {p:aE} (hp:p.ok) {inp:Int} {n:Nat} (hv:nS p inp n) {h0 h:aA} {nb st:Nat} {e:aB} {env:List Int} {S:bY} {funcs:Int} {k:Int} {S':bY} {t:Nat} (hR:cC (bL p inp) h0 nb S h) (hst:st < 3000)
  (hok:e.ok p funcs env.length) (eM:0≤funcs) (hf:funcs≤p.aJ.length) (hg:Good inp S st) (henv:∀ x∈env,kB S x) (hel:env.length≤412 + st) (hr:cM p (n + 1) st e env S = .ok ((k,S'),t)) (hk:e.aR = 9) :
  fE Tryz.prog 184 [.op nb 6 0 0,.ip 5 [e.c] 0 0,ints env] h fun r h'=>r = I k∧cC (bL p inp) h0 nb S' h':=by
 rw [aB.aQ]
 have hnode:=(aB.cZ _ _ _ _).1 hok
 have h3:¬ st = 3000:=by omega
 have hcap:=hg.cap
 have hgcap:=hg.nC
 have iZ:=hg.kO (Nat.le_succ st)
 have hlen:=dC hok (by omega)
 rw [hk,show fG 9 = 2 from rfl] at hlen
 have g0:e.aI[Int.toNat 0]? = some (e.mC 0):=aB.gR (by omega)
 have g1:e.aI[Int.toNat 1]? = some (e.mC 1):=aB.gR (by omega)
 have o0:=aB.fD hok (i:=0) (by omega)
 have o1:=aB.fD hok (i:=1) (by omega)
 rw [iC (by omega)] at o0
 rw [hk,show kG 9 1 (env.length:Int) = env.length + 1 from rfl] at o1
 rw [aEP h3 hk] at hr
 obtain ⟨⟨k1,S1⟩,t1,e1,e2⟩:=gC hr
 obtain ⟨b1,b2,b3,b4⟩:=lO hp n (st + 1) (e.mC 0) env S funcs o0 hf iZ (by omega) henv _ _ e1
 simp only at b1 b2 b3
 have hsub:∀ (i:Nat),i < e.aI.length→fU [.op nb 6 0 0,.ip 5 (e.aI.map aB.c) i 0,ints env] [.op nb 6 0 0,.ip 5 [(e.mC i).c] 0 0,ints env]:=fun i hi=>by
  rw [aB.qG hi]
  exact .cons (.refl _) (.cons (Sub.ip (bW hi) (by simp)) (.cons (.refl _) .nil))
 refine iY 183 nR vZ v5 mix Tryz.func184 rfl (by kernel_rfl) (by simp) ?_
 simp -dsimp -implicitDefEqProofs only [go_sem,↓reduceIte,Tryz.f184,hk]
 refine ⟨by omega,aG.gQ (fE.sub (hsub 0 (by omega)) (hv h0 _ nb (st + 1) (e.mC 0) env S funcs k1 S1 t1 hR (by omega) o0 eM hf iZ henv (by omega) e1)) ?_⟩
 rintro r h' ⟨rfl,lD⟩
 simp -dsimp -implicitDefEqProofs only [go_sem,↓reduceIte,Tryz.f184]
 refine ⟨by omega,by decide,by decide,aG.wn0 (aIM env (by omega)) ?_⟩
 rintro r l g ⟨y,oy,rfl,rfl⟩ wn
 have bFS:∀ x∈env ++ [k1],kB S1 x:=fun x hx=>by
  rcases List.mem_append.1 hx with hx | hx
  ·exact (henv x hx).ext b2
  ·rw [List.mem_singleton.1 hx];exact b3
 have hfin:∀ {h1 g1:aA},cC (bL p inp) h1 nb S1 g1→fE Tryz.prog 184 [.op nb 6 0 0,.ip 5 (e.aI.map aB.c) 1 0,ints (env ++ [k1])] g1 fun r h'=>r = I k∧cC (bL p inp) h1 nb S' h':=fun nT =>
  fE.sub (.cons (.refl _) (.cons (by rw [aB.qG (show 1 < e.aI.length by omega)];exact Sub.ip (bW (by omega)) (by simp)) (.cons (.refl _) .nil))) (hv _ _ nb t1 (e.mC 1) (env ++ [k1]) S1 funcs k S' t nT b4.2.2.2 (by rw [List.length_append];exact o1) eM hf b1 bFS (by rw [List.length_append];have:=b4.2.2.1;show env.length + 1≤_;omega) e2)
 rcases oy.vL with ⟨rfl,rfl⟩ | ⟨m,rfl⟩
 ·rw [OV.kZ] at wn
  have hgh:g = h':=funext fun q=>wn.upto q (by simp [a4])
  subst hgh
  simp -dsimp -implicitDefEqProofs only [go_sem,↓reduceIte,Tryz.f184,OV.val]
  refine ⟨by decide,fun b jG=>?_⟩
  have dS:¬ nb = b:=fun e=>by obtain ⟨_,_,_,H2⟩:=lD;have:=H2.box;rw [e,jG] at this;cases this
  have bV:¬ b = nb:=Ne.symm dS
  have cU:(nb = b) = False:=eq_false dS
  have cT:(b = nb) = False:=eq_false bV
  refine aG.aEL (x:=.ip 5 (e.aI.map aB.c) 1 0) (es:=[[I k1]]) (len:=1) rfl rfl dS rfl jG ?_
  refine fE.mono (hfin (lD.uM (o:=.gone) jG)) ?_
  rintro r h2 ⟨rfl,nT⟩
  obtain ⟨g3,rfl,hg3,nT⟩:=nT.base (lD.none jG)
  simp -dsimp -implicitDefEqProofs only [go_sem,↓reduceIte,Tryz.f184]
  exact ⟨_,g3,cG (aA.bI hg3 (aA.le_refl _)),rfl,nT⟩
 ·rw [OV.cK,fW,eS] at wn
  obtain ⟨hm,rfl⟩:=wn.single
  simp -dsimp -implicitDefEqProofs only [go_sem,↓reduceIte,Tryz.f184,OV.val]
  refine ⟨by decide,Nat.le_refl _,by omega,by omega,fun b ⟨hbm,jG⟩=>?_⟩
  have gU:¬ b = m:=hbm
  have j5:¬ m = b:=Ne.symm gU
  have k5:(b = m) = False:=eq_false gU
  have k6:(m = b) = False:=eq_false j5
  have dS:¬ nb = b:=fun e=>by obtain ⟨_,_,_,H2⟩:=lD;have:=H2.box;rw [e,jG] at this;cases this
  have bV:¬ b = nb:=Ne.symm dS
  have cU:(nb = b) = False:=eq_false dS
  have cT:(b = nb) = False:=eq_false bV
  have hb3:(a7 h' m .gone) b = none:=by rw [aF _ _ _ _ hbm];exact jG
  rw [aO,List.take_of_length_le (by simp),show (env.map fun x=>[I x]).map (List.map Cell.v) ++ [[Cell.v (aC.int .i64 k1)]] = ((env ++ [k1]).map fun n=>[I n]).map (List.map .v) by simp]
  refine aG.aEL (x:=.ip 5 (e.aI.map aB.c) 1 0) (es:=(env ++ [k1]).map fun n=>[I n]) (len:=env.length + 1) rfl rfl dS (by simp) hb3 ?_
  refine fE.mono (hfin ((lD.uM (o:=.gone) hm).uM (o:=.gone) hb3)) ?_
  rintro r h2 ⟨rfl,nT⟩
  obtain ⟨g3,rfl,hg3,nT⟩:=nT.base ((lD.uM (o:=.gone) hm).none hb3)
  obtain ⟨g4,rfl,hg4,nT⟩:=nT.base (lD.none hm)
  rw [aF _ _ _ _ hbm] at hg3
  simp -dsimp -implicitDefEqProofs only [go_sem,↓reduceIte,Tryz.f184]
  exact ⟨_,g4,cG (aA.bI hg3 (aA.bI hg4 (aA.le_refl _))),rfl,nT⟩
theorem a09 {p:aE} (hp:p.ok) {inp:Int} {n:Nat} (hv:nS p inp n) {h0 h:aA} {nb st:Nat} {e:aB} {env:List Int} {S:bY} {funcs:Int} {k:Int} {S':bY} {t:Nat} (hR:cC (bL p inp) h0 nb S h) (hst:st < 3000)
  (hok:e.ok p funcs env.length) (eM:0≤funcs) (hf:funcs≤p.aJ.length) (hg:Good inp S st) (henv:∀ x∈env,kB S x) (hel:env.length≤412 + st) (hr:cM p (n + 1) st e env S = .ok ((k,S'),t)) (hk:e.aR = 7) :
  fE Tryz.prog 184 [.op nb 6 0 0,.ip 5 [e.c] 0 0,ints env] h fun r h'=>r = I k∧cC (bL p inp) h0 nb S' h':=by
 rw [aB.aQ]
 have hnode:=(aB.cZ _ _ _ _).1 hok
 have h3:¬ st = 3000:=by omega
 have hcap:=hg.cap
 have hgcap:=hg.nC
 have iZ:=hg.kO (Nat.le_succ st)
 have hlen:=dC hok (by omega)
 rw [hk,show fG 7 = 1 from rfl] at hlen
 have o0:=eQ hok (by omega)
 rw [jA h3 (by omega)] at hr
 obtain ⟨⟨vs,S1⟩,t1,e1,e2⟩:=gC hr
 obtain ⟨b1,b2,b3,b4⟩:=fV hp iZ (by omega) henv o0 hf _ _ e1
 simp only at b1 b2 b3
 obtain ⟨j,S2,t2,hj,lG⟩:=kL e1 (k:=0) (by omega) (vs:=[]) (S1:=S) (t1:=st + 1) rfl
 rw [List.take_of_length_le (by omega),e1] at lG
 obtain ⟨rfl,rfl⟩:=Prod.mk.inj (Prod.mk.inj (Except.ok.inj lG)).1
 obtain rfl:=(Prod.mk.inj (Except.ok.inj lG)).2
 have hsub:fU [.op nb 6 0 0,.ip 5 (e.aI.map aB.c) 0 0,ints env] [.op nb 6 0 0,.ip 5 [e.aI[0].c] 0 0,ints env]:=.cons (.refl _) (.cons (Sub.ip (bW (by omega)) (by simp)) (.cons (.refl _) .nil))
 have hj0:kB S1 j:=b3.2 j (by simp)
 have hvj:=b1.val j
 refine iY 183 nR vZ v5 mix Tryz.func184 rfl (by kernel_rfl) (by simp) ?_
 simp -dsimp -implicitDefEqProofs only [go_sem,↓reduceIte,Tryz.f184,hk]
 refine ⟨by omega,aG.gQ (fE.sub hsub (hv h0 _ nb (st + 1) e.aI[0] env S funcs j S1 t1 hR (by omega) (o0 _ (List.getElem_mem _)) eM hf iZ henv (by omega) hj)) ?_⟩
 rintro r h' ⟨rfl,⟨om,og,ov,H1⟩⟩
 obtain ⟨w,rfl,hw,dw⟩:=H1.row hj0
 have jP:=H1.box
 unfold bL at jP
 rw [cW] at jP
 have rk:=gY hj0
 have k0:=hj0.1
 have k2:=hj0.2
 have lw:=dD (fun n=>[I n]) S1.dU
 simp -dsimp -implicitDefEqProofs only [go_sem,↓reduceIte,Tryz.f184,jP,hw,rk]
 refine ⟨k0,by omega,?_⟩
 first | refine aG.mk (vY (S1.val j) hvj) ?_ | refine aD.mk (vY (S1.val j) hvj) ?_ | refine aG.a5 (vY (S1.val j) hvj) ?_ | refine aD.mk (aX.cD (vY (S1.val j) hvj)) ?_
 simp -dsimp -implicitDefEqProofs only [go_sem,↓reduceIte,Tryz.f184]
 have e3:xO 7 [j] S1 t1 = .ok (((S1.dU.length:Int),S1.put ⟨7,j,0,0⟩ ((0 - S1.val j) % 1000003)),t1):=rfl
 rw [hk] at e2
 have e4:=e3.symm.trans e2
 have e5:=(Prod.mk.inj (Prod.mk.inj (Except.ok.inj e4)).1)
 unfold lH at b4
 simp only at b4
 refine aG.gQ (vX ⟨om,og,some w,H1⟩ ⟨7,j,0,0⟩ ((0 - S1.val j) % 1000003) b1.len (by have:=b1.cap;omega)) ?_
 rintro r h2 ⟨rfl,lD⟩
 simp -dsimp -implicitDefEqProofs only [go_sem,↓reduceIte,Tryz.f184]
 rw [e5.2] at lD
 exact ⟨_,_,aZ _ _,by rw [e5.1],lD⟩
theorem a1A {p:aE} (hp:p.ok) {inp:Int} {n:Nat} (hv:nS p inp n) {h0 h:aA} {nb st:Nat} {e:aB} {env:List Int} {S:bY} {funcs:Int} {k:Int} {S':bY} {t:Nat} (hR:cC (bL p inp) h0 nb S h) (hst:st < 3000)
  (hok:e.ok p funcs env.length) (eM:0≤funcs) (hf:funcs≤p.aJ.length) (hg:Good inp S st) (henv:∀ x∈env,kB S x) (hel:env.length≤412 + st) (hr:cM p (n + 1) st e env S = .ok ((k,S'),t)) (hk:e.aR = 3) :
  fE Tryz.prog 184 [.op nb 6 0 0,.ip 5 [e.c] 0 0,ints env] h fun r h'=>r = I k∧cC (bL p inp) h0 nb S' h':=by
 rw [aB.aQ]
 have hnode:=(aB.cZ _ _ _ _).1 hok
 have h3:¬ st = 3000:=by omega
 have hcap:=hg.cap
 have hgcap:=hg.nC
 have iZ:=hg.kO (Nat.le_succ st)
 have hlen:=dC hok (by omega)
 rw [hk,show fG 3 = 2 from rfl] at hlen
 have o0:=eQ hok (by omega)
 rw [jA h3 (by omega)] at hr
 obtain ⟨⟨vs,S1⟩,t1,e1,e2⟩:=gC hr
 obtain ⟨b1,b2,b3,b4⟩:=fV hp iZ (by omega) henv o0 hf _ _ e1
 simp only at b1 b2 b3
 obtain ⟨j0,S0,t0,hj0,hs0⟩:=kL e1 (k:=0) (by omega) (vs:=[]) (S1:=S) (t1:=st + 1) rfl
 obtain ⟨c1,c2,c3,c4⟩:=lO hp n (st + 1) e.aI[0] env S funcs (o0 _ (List.getElem_mem _)) hf iZ (by omega) henv _ _ hj0
 simp only at c1 c2 c3
 obtain ⟨j1,S2,t2,hj1,jC⟩:=kL e1 (k:=1) (by omega) hs0
 rw [List.take_of_length_le (by omega),e1] at jC
 obtain ⟨rfl,rfl⟩:=Prod.mk.inj (Prod.mk.inj (Except.ok.inj jC)).1
 obtain rfl:=(Prod.mk.inj (Except.ok.inj jC)).2
 have hsub:∀ (i:Nat) (hi:i < e.aI.length),fU [.op nb 6 0 0,.ip 5 (e.aI.map aB.c) i 0,ints env] [.op nb 6 0 0,.ip 5 [e.aI[i].c] 0 0,ints env]:=fun i hi=>.cons (.refl _) (.cons (Sub.ip (bW hi) (by simp)) (.cons (.refl _) .nil))
 have i0:kB S1 j0:=b3.2 j0 (by simp)
 have i1:kB S1 j1:=b3.2 j1 (by simp)
 have qQ:=b1.val j0
 have zW:=b1.val j1
 refine iY 183 nR vZ v5 mix Tryz.func184 rfl (by kernel_rfl) (by simp) ?_
 simp -dsimp -implicitDefEqProofs only [go_sem,↓reduceIte,Tryz.f184,hk]
 refine ⟨by omega,aG.gQ (fE.sub (hsub 0 (by omega)) (hv h0 _ nb (st + 1) e.aI[0] env S funcs j0 S0 t0 hR (by omega) (o0 _ (List.getElem_mem _)) eM hf iZ henv (by omega) hj0)) ?_⟩
 rintro r h' ⟨rfl,y9⟩
 simp -dsimp -implicitDefEqProofs only [go_sem,↓reduceIte,Tryz.f184]
 refine ⟨by omega,aG.gQ (fE.sub (hsub 1 (by omega)) (hv h0 _ nb t0 e.aI[1] env S0 funcs j1 S1 t1 y9 c4.2.2.2 (o0 _ (List.getElem_mem _)) eM hf c1 (fun x hx=>(henv x hx).ext c2) (by have:=c4.2.2.1;omega) hj1)) ?_⟩
 rintro r h2 ⟨rfl,⟨om,og,ov,H1⟩⟩
 obtain ⟨w,rfl,hw,dw⟩:=H1.row i0
 have jP:=H1.box
 unfold bL at jP
 rw [cW] at jP
 have rk0:=gY i0
 have rk1:=gY i1
 have k0:=i0.1
 have k1:=i0.2
 have k2:=i1.1
 have k3:=i1.2
 have lw:=dD (fun n=>[I n]) S1.dU
 have hop:=aR8 3 (by decide)
 try simp -dsimp -implicitDefEqProofs only [go_sem,↓reduceIte,Tryz.f184,hk]
 first | refine aG.mk (hop) ?_ | refine aD.mk (hop) ?_ | refine aG.a5 (hop) ?_ | refine aD.mk (aX.cD (hop)) ?_
 simp -dsimp -implicitDefEqProofs only [go_sem,↓reduceIte,Tryz.f184]
 try simp -dsimp -implicitDefEqProofs only [go_sem,↓reduceIte,Tryz.f184,jP,hw,rk0,rk1]
 refine ⟨k0,by omega,k2,by omega,?_⟩
 rw [hk] at e2
 cases hv:opV 3 (S1.val j0) (S1.val j1) with
 |none =>
  have e3:xO 3 [j0,j1] S1 t1 = .error 6:=by
   unfold xO
   rw [show ([j0,j1].getD 0 0) = j0 from rfl,show opB 3 [j0,j1] = j1 from rfl,hv]
  have e4:=e3.symm.trans e2
  cases e4
 |some v =>
  have e3:xO 3 [j0,j1] S1 t1 = .ok (((S1.dU.length:Int),S1.put ⟨3,j0,j1,0⟩ v),t1):=by
   unfold xO
   rw [show ([j0,j1].getD 0 0) = j0 from rfl,show opB 3 [j0,j1] = j1 from rfl,hv]
  have e4:=e3.symm.trans e2
  have e5:=(Prod.mk.inj (Prod.mk.inj (Except.ok.inj e4)).1)
  first | refine aG.mk (iR 3 (S1.val j0) (S1.val j1) v qQ zW (by decide) hv) ?_ | refine aD.mk (iR 3 (S1.val j0) (S1.val j1) v qQ zW (by decide) hv) ?_ | refine aG.a5 (iR 3 (S1.val j0) (S1.val j1) v qQ zW (by decide) hv) ?_ | refine aD.mk (aX.cD (iR 3 (S1.val j0) (S1.val j1) v qQ zW (by decide) hv)) ?_
  simp -dsimp -implicitDefEqProofs only [go_sem,↓reduceIte,Tryz.f184]
  unfold lH at b4
  simp only at b4
  refine aG.gQ (vX ⟨om,og,some w,H1⟩ ⟨3,j0,j1,0⟩ v b1.len (by have:=b1.cap;omega)) ?_
  rintro r h3 ⟨rfl,lD⟩
  simp -dsimp -implicitDefEqProofs only [go_sem,↓reduceIte,Tryz.f184]
  rw [e5.2] at lD
  exact ⟨_,_,aZ _ _,by rw [e5.1],lD⟩
theorem a1B {p:aE} (hp:p.ok) {inp:Int} {n:Nat} (hv:nS p inp n) {h0 h:aA} {nb st:Nat} {e:aB} {env:List Int} {S:bY} {funcs:Int} {k:Int} {S':bY} {t:Nat} (hR:cC (bL p inp) h0 nb S h) (hst:st < 3000)
  (hok:e.ok p funcs env.length) (eM:0≤funcs) (hf:funcs≤p.aJ.length) (hg:Good inp S st) (henv:∀ x∈env,kB S x) (hel:env.length≤412 + st) (hr:cM p (n + 1) st e env S = .ok ((k,S'),t)) (hk:e.aR = 4) :
  fE Tryz.prog 184 [.op nb 6 0 0,.ip 5 [e.c] 0 0,ints env] h fun r h'=>r = I k∧cC (bL p inp) h0 nb S' h':=by
 rw [aB.aQ]
 have hnode:=(aB.cZ _ _ _ _).1 hok
 have h3:¬ st = 3000:=by omega
 have hcap:=hg.cap
 have hgcap:=hg.nC
 have iZ:=hg.kO (Nat.le_succ st)
 have hlen:=dC hok (by omega)
 rw [hk,show fG 4 = 2 from rfl] at hlen
 have o0:=eQ hok (by omega)
 rw [jA h3 (by omega)] at hr
 obtain ⟨⟨vs,S1⟩,t1,e1,e2⟩:=gC hr
 obtain ⟨b1,b2,b3,b4⟩:=fV hp iZ (by omega) henv o0 hf _ _ e1
 simp only at b1 b2 b3
 obtain ⟨j0,S0,t0,hj0,hs0⟩:=kL e1 (k:=0) (by omega) (vs:=[]) (S1:=S) (t1:=st + 1) rfl
 obtain ⟨c1,c2,c3,c4⟩:=lO hp n (st + 1) e.aI[0] env S funcs (o0 _ (List.getElem_mem _)) hf iZ (by omega) henv _ _ hj0
 simp only at c1 c2 c3
 obtain ⟨j1,S2,t2,hj1,jC⟩:=kL e1 (k:=1) (by omega) hs0
 rw [List.take_of_length_le (by omega),e1] at jC
 obtain ⟨rfl,rfl⟩:=Prod.mk.inj (Prod.mk.inj (Except.ok.inj jC)).1
 obtain rfl:=(Prod.mk.inj (Except.ok.inj jC)).2
 have hsub:∀ (i:Nat) (hi:i < e.aI.length),fU [.op nb 6 0 0,.ip 5 (e.aI.map aB.c) i 0,ints env] [.op nb 6 0 0,.ip 5 [e.aI[i].c] 0 0,ints env]:=fun i hi=>.cons (.refl _) (.cons (Sub.ip (bW hi) (by simp)) (.cons (.refl _) .nil))
 have i0:kB S1 j0:=b3.2 j0 (by simp)
 have i1:kB S1 j1:=b3.2 j1 (by simp)
 have qQ:=b1.val j0
 have zW:=b1.val j1
 refine iY 183 nR vZ v5 mix Tryz.func184 rfl (by kernel_rfl) (by simp) ?_
 simp -dsimp -implicitDefEqProofs only [go_sem,↓reduceIte,Tryz.f184,hk]
 refine ⟨by omega,aG.gQ (fE.sub (hsub 0 (by omega)) (hv h0 _ nb (st + 1) e.aI[0] env S funcs j0 S0 t0 hR (by omega) (o0 _ (List.getElem_mem _)) eM hf iZ henv (by omega) hj0)) ?_⟩
 rintro r h' ⟨rfl,y9⟩
 simp -dsimp -implicitDefEqProofs only [go_sem,↓reduceIte,Tryz.f184]
 refine ⟨by omega,aG.gQ (fE.sub (hsub 1 (by omega)) (hv h0 _ nb t0 e.aI[1] env S0 funcs j1 S1 t1 y9 c4.2.2.2 (o0 _ (List.getElem_mem _)) eM hf c1 (fun x hx=>(henv x hx).ext c2) (by have:=c4.2.2.1;omega) hj1)) ?_⟩
 rintro r h2 ⟨rfl,⟨om,og,ov,H1⟩⟩
 obtain ⟨w,rfl,hw,dw⟩:=H1.row i0
 have jP:=H1.box
 unfold bL at jP
 rw [cW] at jP
 have rk0:=gY i0
 have rk1:=gY i1
 have k0:=i0.1
 have k1:=i0.2
 have k2:=i1.1
 have k3:=i1.2
 have lw:=dD (fun n=>[I n]) S1.dU
 have hop:=aR8 4 (by decide)
 try simp -dsimp -implicitDefEqProofs only [go_sem,↓reduceIte,Tryz.f184,hk]
 first | refine aG.mk (hop) ?_ | refine aD.mk (hop) ?_ | refine aG.a5 (hop) ?_ | refine aD.mk (aX.cD (hop)) ?_
 simp -dsimp -implicitDefEqProofs only [go_sem,↓reduceIte,Tryz.f184]
 try simp -dsimp -implicitDefEqProofs only [go_sem,↓reduceIte,Tryz.f184,jP,hw,rk0,rk1]
 refine ⟨k0,by omega,k2,by omega,?_⟩
 rw [hk] at e2
 cases hv:opV 4 (S1.val j0) (S1.val j1) with
 |none =>
  have e3:xO 4 [j0,j1] S1 t1 = .error 6:=by
   unfold xO
   rw [show ([j0,j1].getD 0 0) = j0 from rfl,show opB 4 [j0,j1] = j1 from rfl,hv]
  have e4:=e3.symm.trans e2
  cases e4
 |some v =>
  have e3:xO 4 [j0,j1] S1 t1 = .ok (((S1.dU.length:Int),S1.put ⟨4,j0,j1,0⟩ v),t1):=by
   unfold xO
   rw [show ([j0,j1].getD 0 0) = j0 from rfl,show opB 4 [j0,j1] = j1 from rfl,hv]
  have e4:=e3.symm.trans e2
  have e5:=(Prod.mk.inj (Prod.mk.inj (Except.ok.inj e4)).1)
  first | refine aG.mk (iR 4 (S1.val j0) (S1.val j1) v qQ zW (by decide) hv) ?_ | refine aD.mk (iR 4 (S1.val j0) (S1.val j1) v qQ zW (by decide) hv) ?_ | refine aG.a5 (iR 4 (S1.val j0) (S1.val j1) v qQ zW (by decide) hv) ?_ | refine aD.mk (aX.cD (iR 4 (S1.val j0) (S1.val j1) v qQ zW (by decide) hv)) ?_
  simp -dsimp -implicitDefEqProofs only [go_sem,↓reduceIte,Tryz.f184]
  unfold lH at b4
  simp only at b4
  refine aG.gQ (vX ⟨om,og,some w,H1⟩ ⟨4,j0,j1,0⟩ v b1.len (by have:=b1.cap;omega)) ?_
  rintro r h3 ⟨rfl,lD⟩
  simp -dsimp -implicitDefEqProofs only [go_sem,↓reduceIte,Tryz.f184]
  rw [e5.2] at lD
  exact ⟨_,_,aZ _ _,by rw [e5.1],lD⟩
theorem a1C {p:aE} (hp:p.ok) {inp:Int} {n:Nat} (hv:nS p inp n) {h0 h:aA} {nb st:Nat} {e:aB} {env:List Int} {S:bY} {funcs:Int} {k:Int} {S':bY} {t:Nat} (hR:cC (bL p inp) h0 nb S h) (hst:st < 3000)
  (hok:e.ok p funcs env.length) (eM:0≤funcs) (hf:funcs≤p.aJ.length) (hg:Good inp S st) (henv:∀ x∈env,kB S x) (hel:env.length≤412 + st) (hr:cM p (n + 1) st e env S = .ok ((k,S'),t)) (hk:e.aR = 5) :
  fE Tryz.prog 184 [.op nb 6 0 0,.ip 5 [e.c] 0 0,ints env] h fun r h'=>r = I k∧cC (bL p inp) h0 nb S' h':=by
 rw [aB.aQ]
 have hnode:=(aB.cZ _ _ _ _).1 hok
 have h3:¬ st = 3000:=by omega
 have hcap:=hg.cap
 have hgcap:=hg.nC
 have iZ:=hg.kO (Nat.le_succ st)
 have hlen:=dC hok (by omega)
 rw [hk,show fG 5 = 2 from rfl] at hlen
 have o0:=eQ hok (by omega)
 rw [jA h3 (by omega)] at hr
 obtain ⟨⟨vs,S1⟩,t1,e1,e2⟩:=gC hr
 obtain ⟨b1,b2,b3,b4⟩:=fV hp iZ (by omega) henv o0 hf _ _ e1
 simp only at b1 b2 b3
 obtain ⟨j0,S0,t0,hj0,hs0⟩:=kL e1 (k:=0) (by omega) (vs:=[]) (S1:=S) (t1:=st + 1) rfl
 obtain ⟨c1,c2,c3,c4⟩:=lO hp n (st + 1) e.aI[0] env S funcs (o0 _ (List.getElem_mem _)) hf iZ (by omega) henv _ _ hj0
 simp only at c1 c2 c3
 obtain ⟨j1,S2,t2,hj1,jC⟩:=kL e1 (k:=1) (by omega) hs0
 rw [List.take_of_length_le (by omega),e1] at jC
 obtain ⟨rfl,rfl⟩:=Prod.mk.inj (Prod.mk.inj (Except.ok.inj jC)).1
 obtain rfl:=(Prod.mk.inj (Except.ok.inj jC)).2
 have hsub:∀ (i:Nat) (hi:i < e.aI.length),fU [.op nb 6 0 0,.ip 5 (e.aI.map aB.c) i 0,ints env] [.op nb 6 0 0,.ip 5 [e.aI[i].c] 0 0,ints env]:=fun i hi=>.cons (.refl _) (.cons (Sub.ip (bW hi) (by simp)) (.cons (.refl _) .nil))
 have i0:kB S1 j0:=b3.2 j0 (by simp)
 have i1:kB S1 j1:=b3.2 j1 (by simp)
 have qQ:=b1.val j0
 have zW:=b1.val j1
 refine iY 183 nR vZ v5 mix Tryz.func184 rfl (by kernel_rfl) (by simp) ?_
 simp -dsimp -implicitDefEqProofs only [go_sem,↓reduceIte,Tryz.f184,hk]
 refine ⟨by omega,aG.gQ (fE.sub (hsub 0 (by omega)) (hv h0 _ nb (st + 1) e.aI[0] env S funcs j0 S0 t0 hR (by omega) (o0 _ (List.getElem_mem _)) eM hf iZ henv (by omega) hj0)) ?_⟩
 rintro r h' ⟨rfl,y9⟩
 simp -dsimp -implicitDefEqProofs only [go_sem,↓reduceIte,Tryz.f184]
 refine ⟨by omega,aG.gQ (fE.sub (hsub 1 (by omega)) (hv h0 _ nb t0 e.aI[1] env S0 funcs j1 S1 t1 y9 c4.2.2.2 (o0 _ (List.getElem_mem _)) eM hf c1 (fun x hx=>(henv x hx).ext c2) (by have:=c4.2.2.1;omega) hj1)) ?_⟩
 rintro r h2 ⟨rfl,⟨om,og,ov,H1⟩⟩
 obtain ⟨w,rfl,hw,dw⟩:=H1.row i0
 have jP:=H1.box
 unfold bL at jP
 rw [cW] at jP
 have rk0:=gY i0
 have rk1:=gY i1
 have k0:=i0.1
 have k1:=i0.2
 have k2:=i1.1
 have k3:=i1.2
 have lw:=dD (fun n=>[I n]) S1.dU
 have hop:=aR8 5 (by decide)
 try simp -dsimp -implicitDefEqProofs only [go_sem,↓reduceIte,Tryz.f184,hk]
 first | refine aG.mk (hop) ?_ | refine aD.mk (hop) ?_ | refine aG.a5 (hop) ?_ | refine aD.mk (aX.cD (hop)) ?_
 simp -dsimp -implicitDefEqProofs only [go_sem,↓reduceIte,Tryz.f184]
 try simp -dsimp -implicitDefEqProofs only [go_sem,↓reduceIte,Tryz.f184,jP,hw,rk0,rk1]
 refine ⟨k0,by omega,k2,by omega,?_⟩
 rw [hk] at e2
 cases hv:opV 5 (S1.val j0) (S1.val j1) with
 |none =>
  have e3:xO 5 [j0,j1] S1 t1 = .error 6:=by
   unfold xO
   rw [show ([j0,j1].getD 0 0) = j0 from rfl,show opB 5 [j0,j1] = j1 from rfl,hv]
  have e4:=e3.symm.trans e2
  cases e4
 |some v =>
  have e3:xO 5 [j0,j1] S1 t1 = .ok (((S1.dU.length:Int),S1.put ⟨5,j0,j1,0⟩ v),t1):=by
   unfold xO
   rw [show ([j0,j1].getD 0 0) = j0 from rfl,show opB 5 [j0,j1] = j1 from rfl,hv]
  have e4:=e3.symm.trans e2
  have e5:=(Prod.mk.inj (Prod.mk.inj (Except.ok.inj e4)).1)
  first | refine aG.mk (iR 5 (S1.val j0) (S1.val j1) v qQ zW (by decide) hv) ?_ | refine aD.mk (iR 5 (S1.val j0) (S1.val j1) v qQ zW (by decide) hv) ?_ | refine aG.a5 (iR 5 (S1.val j0) (S1.val j1) v qQ zW (by decide) hv) ?_ | refine aD.mk (aX.cD (iR 5 (S1.val j0) (S1.val j1) v qQ zW (by decide) hv)) ?_
  simp -dsimp -implicitDefEqProofs only [go_sem,↓reduceIte,Tryz.f184]
  unfold lH at b4
  simp only at b4
  refine aG.gQ (vX ⟨om,og,some w,H1⟩ ⟨5,j0,j1,0⟩ v b1.len (by have:=b1.cap;omega)) ?_
  rintro r h3 ⟨rfl,lD⟩
  simp -dsimp -implicitDefEqProofs only [go_sem,↓reduceIte,Tryz.f184]
  rw [e5.2] at lD
  exact ⟨_,_,aZ _ _,by rw [e5.1],lD⟩
theorem a1D {p:aE} (hp:p.ok) {inp:Int} {n:Nat} (hv:nS p inp n) {h0 h:aA} {nb st:Nat} {e:aB} {env:List Int} {S:bY} {funcs:Int} {k:Int} {S':bY} {t:Nat} (hR:cC (bL p inp) h0 nb S h) (hst:st < 3000)
  (hok:e.ok p funcs env.length) (eM:0≤funcs) (hf:funcs≤p.aJ.length) (hg:Good inp S st) (henv:∀ x∈env,kB S x) (hel:env.length≤412 + st) (hr:cM p (n + 1) st e env S = .ok ((k,S'),t)) (hk:e.aR = 6) :
  fE Tryz.prog 184 [.op nb 6 0 0,.ip 5 [e.c] 0 0,ints env] h fun r h'=>r = I k∧cC (bL p inp) h0 nb S' h':=by
 rw [aB.aQ]
 have hnode:=(aB.cZ _ _ _ _).1 hok
 have h3:¬ st = 3000:=by omega
 have hcap:=hg.cap
 have hgcap:=hg.nC
 have iZ:=hg.kO (Nat.le_succ st)
 have hlen:=dC hok (by omega)
 rw [hk,show fG 6 = 2 from rfl] at hlen
 have o0:=eQ hok (by omega)
 rw [jA h3 (by omega)] at hr
 obtain ⟨⟨vs,S1⟩,t1,e1,e2⟩:=gC hr
 obtain ⟨b1,b2,b3,b4⟩:=fV hp iZ (by omega) henv o0 hf _ _ e1
 simp only at b1 b2 b3
 obtain ⟨j0,S0,t0,hj0,hs0⟩:=kL e1 (k:=0) (by omega) (vs:=[]) (S1:=S) (t1:=st + 1) rfl
 obtain ⟨c1,c2,c3,c4⟩:=lO hp n (st + 1) e.aI[0] env S funcs (o0 _ (List.getElem_mem _)) hf iZ (by omega) henv _ _ hj0
 simp only at c1 c2 c3
 obtain ⟨j1,S2,t2,hj1,jC⟩:=kL e1 (k:=1) (by omega) hs0
 rw [List.take_of_length_le (by omega),e1] at jC
 obtain ⟨rfl,rfl⟩:=Prod.mk.inj (Prod.mk.inj (Except.ok.inj jC)).1
 obtain rfl:=(Prod.mk.inj (Except.ok.inj jC)).2
 have hsub:∀ (i:Nat) (hi:i < e.aI.length),fU [.op nb 6 0 0,.ip 5 (e.aI.map aB.c) i 0,ints env] [.op nb 6 0 0,.ip 5 [e.aI[i].c] 0 0,ints env]:=fun i hi=>.cons (.refl _) (.cons (Sub.ip (bW hi) (by simp)) (.cons (.refl _) .nil))
 have i0:kB S1 j0:=b3.2 j0 (by simp)
 have i1:kB S1 j1:=b3.2 j1 (by simp)
 have qQ:=b1.val j0
 have zW:=b1.val j1
 refine iY 183 nR vZ v5 mix Tryz.func184 rfl (by kernel_rfl) (by simp) ?_
 simp -dsimp -implicitDefEqProofs only [go_sem,↓reduceIte,Tryz.f184,hk]
 refine ⟨by omega,aG.gQ (fE.sub (hsub 0 (by omega)) (hv h0 _ nb (st + 1) e.aI[0] env S funcs j0 S0 t0 hR (by omega) (o0 _ (List.getElem_mem _)) eM hf iZ henv (by omega) hj0)) ?_⟩
 rintro r h' ⟨rfl,y9⟩
 simp -dsimp -implicitDefEqProofs only [go_sem,↓reduceIte,Tryz.f184]
 refine ⟨by omega,aG.gQ (fE.sub (hsub 1 (by omega)) (hv h0 _ nb t0 e.aI[1] env S0 funcs j1 S1 t1 y9 c4.2.2.2 (o0 _ (List.getElem_mem _)) eM hf c1 (fun x hx=>(henv x hx).ext c2) (by have:=c4.2.2.1;omega) hj1)) ?_⟩
 rintro r h2 ⟨rfl,⟨om,og,ov,H1⟩⟩
 obtain ⟨w,rfl,hw,dw⟩:=H1.row i0
 have jP:=H1.box
 unfold bL at jP
 rw [cW] at jP
 have rk0:=gY i0
 have rk1:=gY i1
 have k0:=i0.1
 have k1:=i0.2
 have k2:=i1.1
 have k3:=i1.2
 have lw:=dD (fun n=>[I n]) S1.dU
 have hop:=aR8 6 (by decide)
 try simp -dsimp -implicitDefEqProofs only [go_sem,↓reduceIte,Tryz.f184,hk]
 first | refine aG.mk (hop) ?_ | refine aD.mk (hop) ?_ | refine aG.a5 (hop) ?_ | refine aD.mk (aX.cD (hop)) ?_
 simp -dsimp -implicitDefEqProofs only [go_sem,↓reduceIte,Tryz.f184]
 try simp -dsimp -implicitDefEqProofs only [go_sem,↓reduceIte,Tryz.f184,jP,hw,rk0,rk1]
 refine ⟨k0,by omega,k2,by omega,?_⟩
 rw [hk] at e2
 cases hv:opV 6 (S1.val j0) (S1.val j1) with
 |none =>
  have e3:xO 6 [j0,j1] S1 t1 = .error 6:=by
   unfold xO
   rw [show ([j0,j1].getD 0 0) = j0 from rfl,show opB 6 [j0,j1] = j1 from rfl,hv]
  have e4:=e3.symm.trans e2
  cases e4
 |some v =>
  have e3:xO 6 [j0,j1] S1 t1 = .ok (((S1.dU.length:Int),S1.put ⟨6,j0,j1,0⟩ v),t1):=by
   unfold xO
   rw [show ([j0,j1].getD 0 0) = j0 from rfl,show opB 6 [j0,j1] = j1 from rfl,hv]
  have e4:=e3.symm.trans e2
  have e5:=(Prod.mk.inj (Prod.mk.inj (Except.ok.inj e4)).1)
  first | refine aG.mk (iR 6 (S1.val j0) (S1.val j1) v qQ zW (by decide) hv) ?_ | refine aD.mk (iR 6 (S1.val j0) (S1.val j1) v qQ zW (by decide) hv) ?_ | refine aG.a5 (iR 6 (S1.val j0) (S1.val j1) v qQ zW (by decide) hv) ?_ | refine aD.mk (aX.cD (iR 6 (S1.val j0) (S1.val j1) v qQ zW (by decide) hv)) ?_
  simp -dsimp -implicitDefEqProofs only [go_sem,↓reduceIte,Tryz.f184]
  unfold lH at b4
  simp only at b4
  refine aG.gQ (vX ⟨om,og,some w,H1⟩ ⟨6,j0,j1,0⟩ v b1.len (by have:=b1.cap;omega)) ?_
  rintro r h3 ⟨rfl,lD⟩
  simp -dsimp -implicitDefEqProofs only [go_sem,↓reduceIte,Tryz.f184]
  rw [e5.2] at lD
  exact ⟨_,_,aZ _ _,by rw [e5.1],lD⟩
theorem a1E {p:aE} (hp:p.ok) {inp:Int} {n:Nat} (hv:nS p inp n) {h0 h:aA} {nb st:Nat} {e:aB} {env:List Int} {S:bY} {funcs:Int} {k:Int} {S':bY} {t:Nat} (hR:cC (bL p inp) h0 nb S h) (hst:st < 3000)
  (hok:e.ok p funcs env.length) (eM:0≤funcs) (hf:funcs≤p.aJ.length) (hg:Good inp S st) (henv:∀ x∈env,kB S x) (hel:env.length≤412 + st) (hr:cM p (n + 1) st e env S = .ok ((k,S'),t)) (hk:e.aR = 8) :
  fE Tryz.prog 184 [.op nb 6 0 0,.ip 5 [e.c] 0 0,ints env] h fun r h'=>r = I k∧cC (bL p inp) h0 nb S' h':=by
 rw [aB.aQ]
 have hnode:=(aB.cZ _ _ _ _).1 hok
 have h3:¬ st = 3000:=by omega
 have hcap:=hg.cap
 have hgcap:=hg.nC
 have iZ:=hg.kO (Nat.le_succ st)
 have hlen:=dC hok (by omega)
 rw [hk,show fG 8 = 3 from rfl] at hlen
 have o0:=eQ hok (by omega)
 rw [tK h3 hk] at hr
 obtain ⟨⟨k1,S1⟩,t1,e1,e2⟩:=gC hr
 rw [aB.qG (show 0 < e.aI.length by omega)] at e1
 obtain ⟨q1,q2,q3,q4⟩:=lO hp n (st + 1) e.aI[0] env S funcs (o0 _ (List.getElem_mem _)) hf iZ (by omega) henv _ _ e1
 unfold lH at q4
 simp only at q1 q2 q3 q4 e2
 have hsub:∀ (i:Nat) (hi:i < e.aI.length),fU [.op nb 6 0 0,.ip 5 (e.aI.map aB.c) i 0,ints env] [.op nb 6 0 0,.ip 5 [e.aI[i].c] 0 0,ints env]:=fun i hi=>.cons (.refl _) (.cons (Sub.ip (bW hi) (by simp)) (.cons (.refl _) .nil))
 refine iY 183 nR vZ v5 mix Tryz.func184 rfl (by kernel_rfl) (by simp) ?_
 simp -dsimp -implicitDefEqProofs only [go_sem,↓reduceIte,Tryz.f184,hk]
 refine ⟨by omega,aG.gQ (fE.sub (hsub 0 (by omega)) (hv h0 _ nb (st + 1) e.aI[0] env S funcs k1 S1 t1 hR (by omega) (o0 _ (List.getElem_mem _)) eM hf iZ henv (by omega) e1)) ?_⟩
 rintro r h' ⟨rfl,⟨om1,og1,ov1,H1⟩⟩
 obtain ⟨w,rfl,hw,dw⟩:=H1.row q3
 have jP:=H1.box
 unfold bL at jP
 rw [cW] at jP
 have rk:=gY q3
 have k0:=q3.1
 have k2:=q3.2
 have lw:=dD (fun n=>[I n]) S1.dU
 have hgc:=q1.nC
 simp -dsimp -implicitDefEqProofs only [go_sem,↓reduceIte,Tryz.f184,jP,hw,rk]
 refine ⟨k0,by omega,?_⟩
 have hgd:=H1.gds
 cases og1 with
 |none =>
  have hg0:S1.guards = []:=fY.1 hgd
  rw [sA]
  simp -dsimp -implicitDefEqProofs only [go_sem,↓reduceIte,Tryz.f184,jP]
  refine ⟨by decide,by decide,by decide,fun b jG=>?_⟩
  have bV:¬ b = nb:=fun e=>by rw [e,jP] at jG;cases jG
  have dS:¬ nb = b:=Ne.symm bV
  have cT:(b = nb) = False:=eq_false bV
  have cU:(nb = b) = False:=eq_false dS
  simp -dsimp -implicitDefEqProofs only [go_sem,↓reduceIte,Tryz.f184,jP,cT,cU,aF]
  refine ⟨fun hz=>⟨by omega,?_⟩,fun hz=>⟨by omega,?_⟩⟩
  ·rw [decide_eq_true hz]
   obtain ⟨g,hgl,hG⟩:=H1.guard ⟨k1,true⟩ jG (F:=a7 (a7 h' b (.row 2 [[.v (I k1),.v (.bool true)]])) nb (bL p inp (S1.guard ⟨k1,true⟩) om1 (some b) (some w))) (aH _ _ _) (by rw [aF _ _ _ _ bV,aH,hg0];rfl) (fun n h1 h2 _=>by rw [aF _ _ _ _ h1,aF _ _ _ _ h2])
   unfold bL at hgl
   simp only [bY.guard,hg0,cW,List.nil_append,List.length_singleton] at hgl
   refine aG.wk (aA.kF hgl) ?_
   have hgG:=q1.guard (b:=true) q3 (by omega)
   have heG:=q2.trans (S1.kK ⟨k1,true⟩)
   rw [if_pos hz,aB.qG (show 1 < e.aI.length by omega)] at e2
   refine aG.gQ (fE.sub (hsub 1 (by omega)) (hv h0 g nb t1 e.aI[1] env (S1.guard ⟨k1,true⟩) funcs k S' t ⟨_,_,_,hG⟩ (by omega) (o0 _ (List.getElem_mem _)) eM hf hgG (fun x hx=>(henv x hx).ext heG) (by omega) e2)) ?_
   rintro r h2 ⟨rfl,nT⟩
   simp -dsimp -implicitDefEqProofs only [go_sem,↓reduceIte,Tryz.f184]
   exact ⟨_,_,aZ _ _,rfl,nT⟩
  ·rw [decide_eq_false hz]
   obtain ⟨g,hgl,hG⟩:=H1.guard ⟨k1,false⟩ jG (F:=a7 (a7 h' b (.row 2 [[.v (I k1),.v (.bool false)]])) nb (bL p inp (S1.guard ⟨k1,false⟩) om1 (some b) (some w))) (aH _ _ _) (by rw [aF _ _ _ _ bV,aH,hg0];rfl) (fun n h1 h2 _=>by rw [aF _ _ _ _ h1,aF _ _ _ _ h2])
   unfold bL at hgl
   simp only [bY.guard,hg0,cW,List.nil_append,List.length_singleton] at hgl
   refine aG.wk (aA.kF hgl) ?_
   have hgG:=q1.guard (b:=false) q3 (by omega)
   have heG:=q2.trans (S1.kK ⟨k1,false⟩)
   rw [if_neg hz,aB.qG (show 2 < e.aI.length by omega)] at e2
   refine aG.gQ (fE.sub (hsub 2 (by omega)) (hv h0 g nb t1 e.aI[2] env (S1.guard ⟨k1,false⟩) funcs k S' t ⟨_,_,_,hG⟩ (by omega) (o0 _ (List.getElem_mem _)) eM hf hgG (fun x hx=>(henv x hx).ext heG) (by omega) e2)) ?_
   rintro r h2 ⟨rfl,nT⟩
   simp -dsimp -implicitDefEqProofs only [go_sem,↓reduceIte,Tryz.f184]
   exact ⟨_,_,aZ _ _,rfl,nT⟩
 |some gm =>
  have hgm:=hgd.2
  have zA:¬ gm = nb:=fun e=>by rw [e,jP] at hgm;cases hgm
  have aI1:¬ nb = gm:=Ne.symm zA
  have aI2:(gm = nb) = False:=eq_false zA
  have aI3:(nb = gm) = False:=eq_false aI1
  rw [cW]
  simp -dsimp -implicitDefEqProofs only [go_sem,↓reduceIte,Tryz.f184,jP,hgm,dD]
  refine ⟨by decide,by decide,by decide,Nat.le_refl _,by omega,by omega,fun b jG=>?_⟩
  have bV:¬ b = nb:=fun e=>by rw [e,jP] at jG;cases jG
  have dS:¬ nb = b:=Ne.symm bV
  have cT:(b = nb) = False:=eq_false bV
  have cU:(nb = b) = False:=eq_false dS
  have aE0:¬ b = gm:=fun e=>by rw [e,hgm] at jG;cases jG
  have aOL:¬ gm = b:=Ne.symm aE0
  have aOM:(b = gm) = False:=eq_false aE0
  have aON:(gm = b) = False:=eq_false aOL
  simp -dsimp -implicitDefEqProofs only [go_sem,↓reduceIte,Tryz.f184,jP,cT,aOM,cU,aI3,aON,aI2,aF]
  refine ⟨fun hz=>⟨by omega,?_⟩,fun hz=>⟨by omega,?_⟩⟩
  ·rw [decide_eq_true hz,List.take_of_length_le (by rw [dD];exact Nat.le_refl _)]
   obtain ⟨g,hgl,hG⟩:=H1.guard ⟨k1,true⟩ jG (F:=a7 (a7 (a7 h' gm .gone) b (.row 2 (rowsOf dT.c S1.guards ++ [[.v (I k1),.v (.bool true)]]))) nb (bL p inp (S1.guard ⟨k1,true⟩) om1 (some b) (some w))) (aH _ _ _) (by rw [aF _ _ _ _ bV,aH,kP];rfl) (fun n h1 h2 h3=>by rw [aF _ _ _ _ h1,aF _ _ _ _ h2,aF _ _ _ _ (fun q=>h3 (by rw [q]))])
   unfold bL at hgl
   simp only [bY.guard,cW,List.length_append,List.length_singleton] at hgl
   refine aG.wk (aA.kF hgl) ?_
   have hgG:=q1.guard (b:=true) q3 (by omega)
   have heG:=q2.trans (S1.kK ⟨k1,true⟩)
   rw [if_pos hz,aB.qG (show 1 < e.aI.length by omega)] at e2
   refine aG.gQ (fE.sub (hsub 1 (by omega)) (hv h0 g nb t1 e.aI[1] env (S1.guard ⟨k1,true⟩) funcs k S' t ⟨_,_,_,hG⟩ (by omega) (o0 _ (List.getElem_mem _)) eM hf hgG (fun x hx=>(henv x hx).ext heG) (by omega) e2)) ?_
   rintro r h2 ⟨rfl,nT⟩
   simp -dsimp -implicitDefEqProofs only [go_sem,↓reduceIte,Tryz.f184]
   exact ⟨_,_,aZ _ _,rfl,nT⟩
  ·rw [decide_eq_false hz,List.take_of_length_le (by rw [dD];exact Nat.le_refl _)]
   obtain ⟨g,hgl,hG⟩:=H1.guard ⟨k1,false⟩ jG (F:=a7 (a7 (a7 h' gm .gone) b (.row 2 (rowsOf dT.c S1.guards ++ [[.v (I k1),.v (.bool false)]]))) nb (bL p inp (S1.guard ⟨k1,false⟩) om1 (some b) (some w))) (aH _ _ _) (by rw [aF _ _ _ _ bV,aH,kP];rfl) (fun n h1 h2 h3=>by rw [aF _ _ _ _ h1,aF _ _ _ _ h2,aF _ _ _ _ (fun q=>h3 (by rw [q]))])
   unfold bL at hgl
   simp only [bY.guard,cW,List.length_append,List.length_singleton] at hgl
   refine aG.wk (aA.kF hgl) ?_
   have hgG:=q1.guard (b:=false) q3 (by omega)
   have heG:=q2.trans (S1.kK ⟨k1,false⟩)
   rw [if_neg hz,aB.qG (show 2 < e.aI.length by omega)] at e2
   refine aG.gQ (fE.sub (hsub 2 (by omega)) (hv h0 g nb t1 e.aI[2] env (S1.guard ⟨k1,false⟩) funcs k S' t ⟨_,_,_,hG⟩ (by omega) (o0 _ (List.getElem_mem _)) eM hf hgG (fun x hx=>(henv x hx).ext heG) (by omega) e2)) ?_
   rintro r h2 ⟨rfl,nT⟩
   simp -dsimp -implicitDefEqProofs only [go_sem,↓reduceIte,Tryz.f184]
   exact ⟨_,_,aZ _ _,rfl,nT⟩
def a1F (l:List Int):Option Nat→aC
 |none=>ints l
 |some m=>.os m 1 0 l.length
theorem aHQ (l:List Int):a1F l none = ints l:=rfl
theorem aHR (l:List Int) (m:Nat):a1F l (some m) = .os m 1 0 l.length:=rfl
theorem aPO {f:List Int→Nat→bY→Out (List Int × bY)} {N:Nat} {vs:List Int} {t:Nat} {S:bY} {v:List Int × bY} {u:Nat} (h:mH f N vs t S = .ok (v,u)) {k:Nat} (hk:k < N) {us:List Int} {S1:bY} {t1:Nat} (h1:mH f k vs t S = .ok ((us,S1),t1)) :
  ∃ l S2 t2,f us t1 S1 = .ok ((l,S2),t2)∧mH f (k + 1) vs t S = .ok ((l,S2),t2):=by
 have h2:=tJ f k vs t S
 rw [h1] at h2
 have h3:mH f (k + 1) vs t S = f us t1 S1:=h2
 cases hf:f us t1 S1 with
 |ok q=>exact ⟨q.1.1,q.1.2,q.2,rfl,h3.trans hf⟩
 |error c =>
  have:=aG5 f (k + 1) (n:=N) hk (h3.trans hf)
  rw [h] at this;cases this
theorem aM8 {p:aE} (hp:p.ok) {inp:Int} {n:Nat} (hv:nS p inp n) {h0 h:aA} {nb st:Nat} {e:aB} {env:List Int} {S:bY} {funcs:Int} {k:Int} {S':bY} {t:Nat} (hR:cC (bL p inp) h0 nb S h) (hst:st < 3000)
  (hok:e.ok p funcs env.length) (eM:0≤funcs) (hf:funcs≤p.aJ.length) (hg:Good inp S st) (henv:∀ x∈env,kB S x) (hel:env.length≤412 + st) (hr:cM p (n + 1) st e env S = .ok ((k,S'),t)) (hk:e.aR = 10∨e.aR = 11) :
  fE Tryz.prog 208 [.op nb 6 0 0,.ip 5 [e.c] 0 0,ints env] h fun r h'=>r = I k∧cC (bL p inp) h0 nb S' h':=by
 have h3:¬ st = 3000:=by omega
 have iZ:=hg.kO (Nat.le_succ st)
 obtain ⟨f,F⟩:=nM hp hok hf hk
 have hkl:e.aI.length≤1048576:=by have:=F.kids;have:=F.params;omega
 have f1:=F.lo
 have f2:=F.hi
 have f3:=F.pk
 have f4:=F.pk2
 have f5:=F.kids
 have f6:=F.params
 have f8:=F.outs
 have o0:=eQ hok (by omega)
 have hseq:∃ vs S1 t1,jF (fun t e S=>cM p n t e env S) e.aI (st + 1) S = .ok ((vs,S1),t1):=by
  rcases hk with hk | hk
  ·rw [tL h3 hk] at hr
   obtain ⟨w,u,h1,_⟩:=gC hr
   exact ⟨w.1,w.2,u,h1⟩
  ·rw [tM h3 hk] at hr
   obtain ⟨w,u,h1,_⟩:=gC hr
   exact ⟨w.1,w.2,u,h1⟩
 obtain ⟨ws,Sw,tw,hs0⟩:=hseq
 obtain ⟨q1,q2,q3,q4⟩:=fV hp iZ (by omega) henv o0 hf _ _ hs0
 simp only at q1 q2 q3
 have q5:=q4.2.2.1
 have q6:=q4.2.2.2
 rw [aB.aQ]
 refine iY 81 aBN aBO aBP mix Tryz.func208 rfl (by kernel_rfl) (by simp) ?_
 simp -dsimp -implicitDefEqProofs only [go_sem,↓reduceIte,Tryz.f208]
 refine ⟨by decide,?_⟩
 refine bQ (keep:=aBN) (ib:=aBO) (mk:=aBP) mix (by kernel_rfl) (fun x:Nat × List Int × bY × Nat × aA × Option Nat=>[(0,.op nb 6 0 0),(1,.ip 5 [e.c] 0 0),(2,ints env),(7,eU 1 x.2.1.length x.2.2.2.2.2),(8,I x.1)]) (fun x=>gB x.2.2.2.2.1 (.row 1 ((x.2.1.map fun n=>[I n]).map (List.map .v))) x.2.2.2.2.2) (fun x=>x.1≤e.aI.length∧x.2.1.length = x.1∧jF (fun t e S=>cM p n t e env S) (e.aI.take x.1) (st + 1) S = .ok ((x.2.1,x.2.2.1),x.2.2.2.1)∧cC (bL p inp) h0 nb x.2.2.1 x.2.2.2.2.1∧eF x.2.2.2.2.1 x.2.1 x.2.2.2.2.2) (fun x=>e.aI.length - x.1) (0,[],S,st + 1,h,none) ⟨by simp [bU,bF,eU,aB.aQ],aA.le_refl _,Nat.zero_le _,rfl,rfl,hR,rfl⟩ ?_
 rintro ⟨i,vs,S1,t1,g,o⟩ ⟨hi,hvl,hs,hR,hos⟩
 simp only at hi hvl hs hR hos ⊢
 rw [aB.aQ]
 rcases Nat.lt_or_ge i e.aI.length with hlt | hge
 ·have ek:e.aI[i]? = some e.aI[i]:=List.getElem?_eq_getElem hlt
  obtain ⟨j,S2,t2,hj,lG⟩:=kL hs0 hlt hs
  obtain ⟨b1,b2,b3,b4⟩:=fV hp (l:=e.aI.take i) iZ (by omega) henv (fun x hx=>o0 x (List.mem_of_mem_take hx)) hf _ _ hs
  simp only at b1 b2 b3
  have hsub:fU [.op nb 6 0 0,.ip 5 (e.aI.map aB.c) i 0,ints env] [.op nb 6 0 0,.ip 5 [e.aI[i].c] 0 0,ints env]:=.cons (.refl _) (.cons (Sub.ip (bW hlt) (by simp)) (.cons (.refl _) .nil))
  cases o with
  |none =>
   rw [a6] at hos
   subst hos
   simp -dsimp -implicitDefEqProofs only [go_sem,↓reduceIte,Tryz.f208,a8,aP,hlt,ek]
   refine fun _=>aG.gQ (fE.sub hsub (hv h0 g nb t1 e.aI[i] env S1 funcs j S2 t2 hR b4.2.2.2 (o0 _ (List.getElem_mem _)) eM hf b1 (fun x hx=>(henv x hx).ext b2) (by have:=b4.2.2.1;omega) hj)) ?_
   rintro r h' ⟨rfl,lD⟩
   simp -dsimp -implicitDefEqProofs only [go_sem,↓reduceIte,Tryz.f208]
   refine ⟨Nat.zero_lt_one,Nat.zero_lt_one,Nat.zero_lt_one,fun b jG=>?_⟩
   refine ⟨(i + 1,[j],S2,t2,h',some b),⟨rfl,by rw [IntWalk.i64_in _ (by omega)];rfl⟩,aA.le_refl _,⟨by omega,by simp only [List.length_nil] at hvl;subst hvl;rfl,lG,lD,jG⟩,by simp only;omega⟩
  |some m =>
   rw [aU] at hos
   simp -dsimp -implicitDefEqProofs only [go_sem,↓reduceIte,Tryz.f208,aT,aK,hlt,ek]
   refine fun _=>aG.gQ (fE.sub hsub (hv _ _ nb t1 e.aI[i] env S1 funcs j S2 t2 (hR.uM hos) b4.2.2.2 (o0 _ (List.getElem_mem _)) eM hf b1 (fun x hx=>(henv x hx).ext b2) (by have:=b4.2.2.1;omega) hj)) ?_
   rintro r h' ⟨rfl,lD⟩
   obtain ⟨g2,rfl,hg2,lD⟩:=lD.base (hR.none hos)
   simp -dsimp -implicitDefEqProofs only [go_sem,↓reduceIte,Tryz.f208]
   refine ⟨Nat.zero_lt_one,Nat.zero_lt_one,Nat.zero_lt_one,Nat.le_refl _,by omega,by omega,fun b ⟨hbm,jG⟩=>?_⟩
   have gU:¬ b = m:=hbm
   have j5:¬ m = b:=Ne.symm gU
   have k5:(b = m) = False:=eq_false gU
   have k6:(m = b) = False:=eq_false j5
   refine ⟨(i + 1,vs ++ [j],S2,t2,g2,some b),⟨by rw [aT,List.length_append];rfl,by rw [IntWalk.i64_in _ (by omega)];rfl⟩,?_,⟨by omega,by rw [List.length_append,hvl];rfl,lG,lD,jG⟩,by simp only;omega⟩
   simp only [aK]
   rw [← dQ]
   exact iX hg2
 ·have hi':i = e.aI.length:=by omega
  subst hi'
  rw [List.take_length,hs0] at hs
  obtain ⟨rfl,rfl⟩:=Prod.mk.inj (Prod.mk.inj (Except.ok.inj hs)).1
  obtain rfl:=(Prod.mk.inj (Except.ok.inj hs)).2
  obtain ⟨om,og,ov,H⟩:=hR
  have hb:=H.box
  unfold bL at hb
  have hR:cC (bL p inp) h0 nb Sw g:=⟨om,og,ov,H⟩
  have hsubp:∀ x,fU [.op nb 6 0 0,.ip 5 (f.aL.map aB.c) e.cB.toNat 0,x] [.op nb 6 0 0,.ip 5 [(p.out e.aW e.cB).c] 0 0,x]:=fun x=>.cons (.refl _) (.cons (Sub.ip (by rw [List.getElem?_map,F.out];rfl) (by simp)) (.cons (.refl _) .nil))
  rcases hk with hk | hk
  ·rw [tL h3 hk,hs0] at hr
   have hr':cM p n tw (p.out e.aW e.cB) ws Sw = .ok ((k,S'),t):=hr
   have hfin:∀ {h1 g1:aA},cC (bL p inp) h1 nb Sw g1→fE Tryz.prog 184 [.op nb 6 0 0,.ip 5 (f.aL.map aB.c) e.cB.toNat 0,ints ws] g1 fun r h'=>r = I k∧cC (bL p inp) h1 nb S' h':=fun nT =>
    fE.sub (hsubp _) (hv _ _ nb tw (p.out e.aW e.cB) ws Sw e.aW k S' t nT (by omega) (by rw [hvl,f5];exact F.oks _ (List.mem_of_getElem? F.out)) f1 (by omega) q1 q3.2 (by omega) hr')
   cases o with
   |none =>
    rw [a6] at hos
    subst hos
    simp -dsimp -implicitDefEqProofs only [go_sem,↓reduceIte,Tryz.f208,a8,aP,Nat.lt_irrefl,Int.lt_irrefl,hb,F.get,aS.aQ,hk]
    refine fun _=>⟨f1,f2,f3,by omega,?_⟩
    refine aG.gQ (fE.sub (.cons (.refl _) (.cons (.refl _) (.cons (Sub.loose _ _ _) .nil))) (hfin hR)) ?_
    rintro r h' ⟨rfl,lD⟩
    simp -dsimp -implicitDefEqProofs only [go_sem,↓reduceIte,Tryz.f208]
    exact ⟨_,_,aZ _ _,rfl,lD⟩
   |some m =>
    rw [aU] at hos
    have dM:¬ nb = m:=fun q=>by rw [q,hos] at hb;cases hb
    have eI:¬ m = nb:=Ne.symm dM
    have dZ:(nb = m) = False:=eq_false dM
    have dY:(m = nb) = False:=eq_false eI
    simp -dsimp -implicitDefEqProofs only [go_sem,↓reduceIte,Tryz.f208,aT,aK,Nat.lt_irrefl,Int.lt_irrefl,hb,dZ,dY,aF,F.get,aS.aQ,hk]
    refine fun _=>⟨f1,f2,f3,by omega,?_⟩
    refine aG.aEL (es:=ws.map fun n=>[I n]) rfl rfl dM (by simp) hos ?_
    refine fE.mono (hfin (hR.uM (o:=.gone) hos)) ?_
    rintro r h2 ⟨rfl,nT⟩
    obtain ⟨g3,rfl,hg3,nT⟩:=nT.base (hR.none hos)
    simp -dsimp -implicitDefEqProofs only [go_sem,↓reduceIte,Tryz.f208]
    exact ⟨_,g3,cG (aA.bI hg3 (aA.le_refl _)),rfl,nT⟩
  ·have f7:=F.loop hk
   rw [tM h3 hk,hs0] at hr
   obtain ⟨w0,u0,h9,hr⟩:=gC hr
   cases h9
   obtain ⟨w,u,hit,hr2⟩:=gC hr
   obtain ⟨e1,rfl⟩:=Prod.mk.inj (Except.ok.inj hr2)
   obtain ⟨rfl,rfl⟩:=Prod.mk.inj e1
   obtain ⟨us0,S'⟩:=w
   simp only at hit hr2 e1 ⊢
   have hfl:∀ us t S2,Good inp S2 t→(us.length = f.aL.length∧∀ x∈us,kB S2 x)→t≤3000→qS (vP inp S2 t f.aL.length) (jF (fun t e S=>cM p n t e us S) (p.outs e.aW) t S2):=fun us w S2 hg' hv' hw=>by
    rw [F.eq]
    exact fV hp hg' hw hv'.2 (funcs:=e.aW) (fun x hx=>by rw [hv'.1,f7.2.2];exact F.oks x hx) (by omega)
   obtain ⟨m,rfl⟩:∃ m,o = some m:=by
    cases o with
    |none=>rw [a6] at hos;rw [hos] at hvl;simp at hvl;omega
    |some m=>exact ⟨m,rfl⟩
   rw [aU] at hos
   have dM:¬ nb = m:=fun q=>by rw [q,hos] at hb;cases hb
   have eI:¬ m = nb:=Ne.symm dM
   have dZ:(nb = m) = False:=eq_false dM
   have dY:(m = nb) = False:=eq_false eI
   simp -dsimp -implicitDefEqProofs only [go_sem,↓reduceIte,Tryz.f208,aT,aK,Nat.lt_irrefl,Int.lt_irrefl,hb,dZ,dY,aF,F.get,aS.aQ,hk]
   refine fun _=>⟨f1,f2,?_⟩
   refine bQ (keep:=aBN) (ib:=aBO) (mk:=aBP) mix (by kernel_rfl) (fun x:Nat × List Int × bY × Nat × aA × Option Nat=>[(0,.op nb 6 0 0),(1,.ip 5 [e.c] 0 0),(7,a1F x.2.1 x.2.2.2.2.2),(9,.ip 3 (p.aJ.map aS.c) e.aW.toNat 0),(10,I x.1)]) (fun x=>gB x.2.2.2.2.1 (.row 1 ((x.2.1.map fun n=>[I n]).map (List.map .v))) x.2.2.2.2.2) (fun x=>x.1≤e.bZ.toNat∧x.2.1.length = f.aL.length∧mH (fun vs t S=>jF (fun t e S=>cM p n t e vs S) (p.outs e.aW) t S) x.1 ws tw Sw = .ok ((x.2.1,x.2.2.1),x.2.2.2.1)∧cC (bL p inp) h0 nb x.2.2.1 x.2.2.2.2.1∧∀ q,x.2.2.2.2.2 = some q→x.2.2.2.2.1 q = none) (fun x=>e.bZ.toNat - x.1) (0,ws,Sw,tw,g,some m) ⟨by simp [bU,bF,a1F,aB.aQ,hvl,hk],aA.le_refl _,Nat.zero_le _,by simp only;omega,rfl,hR,fun q e=>by cases e;exact hos⟩ ?_
   clear hR hos H hb
   rintro ⟨i,us,S2,t2,g,o⟩ ⟨hi,hul,hs,hR,hos⟩
   simp only at hi hul hs hR hos ⊢
   obtain ⟨w1,w2,w3,w4⟩:=qI hfl i ws tw Sw q1 ⟨by omega,q3.2⟩ q6 _ _ hs
   simp only at w1 w2 w3
   rw [aB.aQ]
   rcases Nat.lt_or_ge i e.bZ.toNat with hlt | hge
   ·obtain ⟨l2,S3,t3,hf3,hs3⟩:=aPO hit hlt hs
    rw [F.eq] at hf3
    have hou:∀ {h1 g1:aA},cC (bL p inp) h1 nb S2 g1→fE Tryz.prog 126 [.op nb 6 0 0,.ip 3 (p.aJ.map aS.c) e.aW.toNat 0,ints us] g1 fun r h'=>r = ints l2∧cC (bL p inp) h1 nb S3 h':=fun nT =>
     fE.sub (.cons (.refl _) (.cons (Sub.ip (by rw [List.getElem?_map,F.get];rfl) (by simp)) (.cons (.refl _) .nil))) (aM7 hp hv _ _ nb t2 f us S2 e.aW l2 S3 t3 nT w4.2.2.2 (by omega) (by rw [hul,f7.2.2];exact F.oks) f1 (by omega) w1 w3.2 (by omega) hf3)
    obtain ⟨v1,v2,v3,v4⟩:=hfl us t2 S2 w1 w3 w4.2.2.2 (l2,S3) t3 (by rw [F.eq];exact hf3)
    simp only at v3
    cases o with
    |none =>
     simp -dsimp -implicitDefEqProofs only [go_sem,↓reduceIte,Tryz.f208,aHQ,aP]
     refine ⟨fun hq=>aG.gQ (hou hR) ?_,fun hq=>by omega⟩
     rintro r h' ⟨rfl,lD⟩
     simp -dsimp -implicitDefEqProofs only [go_sem,↓reduceIte,Tryz.f208]
     exact ⟨(i + 1,l2,S3,t3,h',none),⟨rfl,by rw [IntWalk.i64_in _ (by omega)];rfl⟩,aA.le_refl _,⟨by omega,v3.1,hs3,lD,fun q e=>by cases e⟩,by simp only;omega⟩
    |some b =>
     have jG:=hos b rfl
     have dS:¬ nb = b:=fun q=>by obtain ⟨_,_,_,H2⟩:=hR;have:=H2.box;rw [q,jG] at this;cases this
     have bV:¬ b = nb:=Ne.symm dS
     have cU:(nb = b) = False:=eq_false dS
     have cT:(b = nb) = False:=eq_false bV
     simp -dsimp -implicitDefEqProofs only [go_sem,↓reduceIte,Tryz.f208,aHR,aK]
     refine ⟨fun hq=>aG.aEL (es:=us.map fun n=>[I n]) rfl rfl dS (by simp) jG ?_,fun hq=>by omega⟩
     refine fE.mono (hou (hR.uM (o:=.gone) jG)) ?_
     rintro r h2 ⟨rfl,nT⟩
     obtain ⟨g3,rfl,hg3,nT⟩:=nT.base (hR.none jG)
     simp -dsimp -implicitDefEqProofs only [go_sem,↓reduceIte,Tryz.f208]
     exact ⟨(i + 1,l2,S3,t3,g3,none),⟨rfl,by rw [IntWalk.i64_in _ (by omega)];rfl⟩,aA.bI hg3 (aA.le_refl _),⟨by omega,v3.1,hs3,nT,fun q e=>by cases e⟩,by simp only;omega⟩
   ·have hi':i = e.bZ.toNat:=by omega
    subst hi'
    rw [hit] at hs
    obtain ⟨rfl,rfl⟩:=Prod.mk.inj (Prod.mk.inj (Except.ok.inj hs)).1
    have gp:us0[e.cB.toNat]? = some (us0.getD e.cB.toNat 0):=b9 (by omega)
    cases o with
    |none =>
     simp -dsimp -implicitDefEqProofs only [go_sem,↓reduceIte,Tryz.f208,aHQ,aP,gp]
     exact ⟨fun q=>by omega,fun _=>⟨f3,by omega,_,_,aZ _ _,rfl,hR⟩⟩
    |some b =>
     have jG:=hos b rfl
     simp -dsimp -implicitDefEqProofs only [go_sem,↓reduceIte,Tryz.f208,aHR,aK,gp]
     exact ⟨fun q=>by omega,fun _=>⟨f3,by omega,_,_,cG (aA.bI jG (aA.le_refl _)),rfl,hR⟩⟩
theorem aXV {p:aE} (hp:p.ok) {inp:Int} {n:Nat} (hv:nS p inp n) {h0 h:aA} {nb st:Nat} {e:aB} {env:List Int} {S:bY} {funcs:Int} {k:Int} {S':bY} {t:Nat} (hR:cC (bL p inp) h0 nb S h) (hst:st < 3000)
  (hok:e.ok p funcs env.length) (eM:0≤funcs) (hf:funcs≤p.aJ.length) (hg:Good inp S st) (henv:∀ x∈env,kB S x) (hel:env.length≤412 + st) (hr:cM p (n + 1) st e env S = .ok ((k,S'),t)) (hk:e.aR = 10) :
  fE Tryz.prog 184 [.op nb 6 0 0,.ip 5 [e.c] 0 0,ints env] h fun r h'=>r = I k∧cC (bL p inp) h0 nb S' h':=by
 rw [aB.aQ]
 have hnode:=(aB.cZ _ _ _ _).1 hok
 have h3:¬ st = 3000:=by omega
 have hcap:=hg.cap
 have hgcap:=hg.nC
 have iZ:=hg.kO (Nat.le_succ st)
 have hc:=aM8 hp hv hR hst hok eM hf hg henv hel hr (Or.inl hk)
 rw [aB.aQ,hk] at hc
 refine iY 183 nR vZ v5 mix Tryz.func184 rfl (by kernel_rfl) (by simp) ?_
 simp -dsimp -implicitDefEqProofs only [go_sem,↓reduceIte,Tryz.f184,hk]
 refine aG.gQ hc ?_
 rintro r h' ⟨rfl,lD⟩
 simp -dsimp -implicitDefEqProofs only [go_sem,↓reduceIte,Tryz.f184]
 exact ⟨_,_,aZ _ _,rfl,lD⟩
theorem aXW {p:aE} (hp:p.ok) {inp:Int} {n:Nat} (hv:nS p inp n) {h0 h:aA} {nb st:Nat} {e:aB} {env:List Int} {S:bY} {funcs:Int} {k:Int} {S':bY} {t:Nat} (hR:cC (bL p inp) h0 nb S h) (hst:st < 3000)
  (hok:e.ok p funcs env.length) (eM:0≤funcs) (hf:funcs≤p.aJ.length) (hg:Good inp S st) (henv:∀ x∈env,kB S x) (hel:env.length≤412 + st) (hr:cM p (n + 1) st e env S = .ok ((k,S'),t)) (hk:e.aR = 11) :
  fE Tryz.prog 184 [.op nb 6 0 0,.ip 5 [e.c] 0 0,ints env] h fun r h'=>r = I k∧cC (bL p inp) h0 nb S' h':=by
 rw [aB.aQ]
 have hnode:=(aB.cZ _ _ _ _).1 hok
 have h3:¬ st = 3000:=by omega
 have hcap:=hg.cap
 have hgcap:=hg.nC
 have iZ:=hg.kO (Nat.le_succ st)
 have hc:=aM8 hp hv hR hst hok eM hf hg henv hel hr (Or.inr hk)
 rw [aB.aQ,hk] at hc
 refine iY 183 nR vZ v5 mix Tryz.func184 rfl (by kernel_rfl) (by simp) ?_
 simp -dsimp -implicitDefEqProofs only [go_sem,↓reduceIte,Tryz.f184,hk]
 refine aG.gQ hc ?_
 rintro r h' ⟨rfl,lD⟩
 simp -dsimp -implicitDefEqProofs only [go_sem,↓reduceIte,Tryz.f184]
 exact ⟨_,_,aZ _ _,rfl,lD⟩
theorem a3F {p:aE} (hp:p.ok) {inp:Int}:∀ n,nS p inp n
 |0=>fun h0 h nb st e env S funcs k S' t hR hst hok eM hf hg henv hel hr=>by rw [cM] at hr;cases hr
 |n + 1=>fun h0 h nb st e env S funcs k S' t hR hst hok eM hf hg henv hel hr=>by
  have hv:=a3F hp (inp:=inp) n
  by_cases h3:st = 3000
  ·rw [cM,if_pos h3] at hr;cases hr
  have h3':st < 3000:=by omega
  rcases pW ((aB.cZ _ _ _ _).1 hok).1 with hk | hk | hk | hk | hk | hk | hk | hk | hk | hk | hk
  ·exact a06 hp hv hR h3' hok eM hf hg henv hel hr hk
  ·exact a07 hp hv hR h3' hok eM hf hg henv hel hr hk
  ·exact a1A hp hv hR h3' hok eM hf hg henv hel hr hk
  ·exact a1B hp hv hR h3' hok eM hf hg henv hel hr hk
  ·exact a1C hp hv hR h3' hok eM hf hg henv hel hr hk
  ·exact a1D hp hv hR h3' hok eM hf hg henv hel hr hk
  ·exact a09 hp hv hR h3' hok eM hf hg henv hel hr hk
  ·exact a1E hp hv hR h3' hok eM hf hg henv hel hr hk
  ·exact a08 hp hv hR h3' hok eM hf hg henv hel hr hk
  ·exact aXV hp hv hR h3' hok eM hf hg henv hel hr hk
  ·exact aXW hp hv hR h3' hok eM hf hg henv hel hr hk
theorem qT.vN {bx:bY→Option Nat→Option Nat→Option Nat→bH} {h0 h F hh:aA} {nb:Nat} {inp:Int} {S:bY} {om og ov:Option Nat} (H:qT bx h0 nb S om og ov h) (l:List Int)
  (hF:∀ n,some n = om∨some n = og→F n = h n) (hl:hh.le F) (hn:∀ n,some n = om∨some n = og→hh n = none) :
  Shift (.agg [I inp,mQ 4 S.code.length om,mQ 2 S.guards.length og,ints l]) F (.agg [I inp,cY 4 aY.c S.code,cY 2 dT.c S.guards,ints l]) hh:=by
 have hc:=H.code
 have hg:=H.gds
 have ap:=H.apart
 cases om with
 |none =>
  have pC:S.code = []:=fY.1 hc
  cases og with
  |none =>
   have hg0:S.guards = []:=fY.1 hg
   rw [pC,hg0]
   exact Shift.of (Sub.agg (.cons (.refl _) (.cons (Sub.nil _ _) (.cons (Sub.nil _ _) (.cons (.refl _) .nil))))) hl
  |some g =>
   have hgF:=(hF g (.inr rfl)).trans hg.2
   rw [pC]
   refine Shift.trans (Shift.of (Sub.agg (.cons (.refl _) (.cons (Sub.nil 4 false) (.cons (.refl _) (.cons (.refl _) .nil))))) (aA.le_refl F)) ?_
   refine fH (n:=g) (sz:=2) (S.guards.map dT.c) (hn g (.inr rfl)) ?_ (by simp [dF,dG,mQ]) ?_
   ·intro q
    by_cases e:q = g
    ·subst e;right;rw [aH];exact hgF.symm
    ·rw [aF _ _ _ _ e];exact hl q
   ·simp [aC.cR,iF,mQ,List.take_of_length_le]
 |some m =>
  have hmF:=(hF m (.inl rfl)).trans hc.2
  cases og with
  |none =>
   have hg0:S.guards = []:=fY.1 hg
   rw [hg0]
   refine Shift.trans (Shift.of (Sub.agg (.cons (.refl _) (.cons (.refl _) (.cons (Sub.nil 2 false) (.cons (.refl _) .nil))))) (aA.le_refl F)) ?_
   refine fH (n:=m) (sz:=4) (S.code.map aY.c) (hn m (.inl rfl)) ?_ (by simp [dF,dG,mQ]) ?_
   ·intro q
    by_cases e:q = m
    ·subst e;right;rw [aH];exact hmF.symm
    ·rw [aF _ _ _ _ e];exact hl q
   ·simp [aC.cR,iF,mQ,List.take_of_length_le]
  |some g =>
   have hgF:=(hF g (.inr rfl)).trans hg.2
   have hne:¬ g = m:=fun e=>((ap g).2.1 (by rw [e])).1 rfl
   refine Shift.trans (b:=.agg [I inp,mQ 4 S.code.length (some m),cY 2 dT.c S.guards,ints l]) (h2:=a7 hh m (.row 4 (rowsOf aY.c S.code))) ?_ ?_
   ·refine fH (n:=g) (sz:=2) (S.guards.map dT.c) (by rw [aF _ _ _ _ hne];exact hn g (.inr rfl)) ?_ (by simp [dF,dG,mQ];exact fun e=>hne e.symm) ?_
    ·intro q
     by_cases e:q = g
     ·subst e;right;rw [aH];exact hgF.symm
     ·rw [aF _ _ _ _ e]
      by_cases e2:q = m
      ·subst e2;right;rw [aH];exact hmF.symm
      ·rw [aF _ _ _ _ e2];exact hl q
    ·have hne':¬ m = g:=fun e=>hne e.symm
     simp [aC.cR,iF,mQ,List.take_of_length_le,hne']
   ·refine fH (n:=m) (sz:=4) (S.code.map aY.c) (hn m (.inl rfl)) (aA.le_refl _) (by simp [dF,dG,mQ]) ?_
    simp [aC.cR,iF,mQ,List.take_of_length_le]
@[go_sem] def aXX:List Nat:=[0,1,2,6,7,8,9,23]
@[go_sem] def bB3:List Nat:=[19,35]
theorem aM9 {h0:aA} {nb:Nat} (p:aE) (inp:Int) (hn:h0 nb = none):cC (bL p inp) h0 nb ⟨[],[],[]⟩ (a7 h0 nb (bL p inp ⟨[],[],[]⟩ none none none)) :=
 ⟨none,none,none,aH _ _ _,aMZ _ _,rfl,rfl,rfl,fun n h=>(by rcases h with rfl | h | h | h;exact hn;cases h;cases h;cases h),fun n h1 _ _ _=>aF _ _ _ _ h1⟩
theorem aTT {p:aE} (hp:p.ok) (f:Int) (hf:0≤f∧f < p.aJ.length) (args:List Int) (ha:hH args) (a5K:args.length≤12) (hl:∀ F,p.aJ[f.toNat]? = some F→(args.length:Int) = F.a9) {l:List Int} {S':bY} {t:Nat} (hr:rP p f args = .ok ((l,S'),t)) :
  dI Tryz.prog 50 [.ip 1 [p.c] 0 0,I f,ints args] (.agg (jS.c ⟨args.length,S'.code,S'.guards,l⟩)):=by
 obtain ⟨F,ef,hF1,hF2,hF3,hF4⟩:=wH hp hf
 have hla:=hl F ef
 simp only [aE.aQ]
 refine j7 54 aXX bB3 bC mix Tryz.func50 rfl (by kernel_rfl) (by simp) fun h=>?_
 simp -dsimp -implicitDefEqProofs only [go_sem,↓reduceIte,Tryz.f50,ef,aS.aQ]
 intro n6 z6
 try simp -dsimp -implicitDefEqProofs only [go_sem,↓reduceIte,Tryz.f50,ef,aS.aQ]
 refine fun nb ⟨hb6,zb⟩ _=>⟨by decide,?_⟩
 have tP:¬ nb = n6:=hb6
 have aI4:¬ n6 = nb:=Ne.symm tP
 have zC:(nb = n6) = False:=eq_false tP
 have zD:(n6 = nb) = False:=eq_false aI4
 rw [aO]
 generalize hh6:a7 h n6 (.row 4 [[.v (.int .i64 0),.v .bO,.v .bO,.v .bO]]) = h6
 have zb6:h6 nb = none:=by rw [← hh6,aF _ _ _ _ tP];exact zb
 have hin:=aM9 (h0:=h6) p args.length zb6
 refine bQ (keep:=aXX) (ib:=bB3) (mk:=bC) mix (by kernel_rfl) (fun x:Nat × aA × Option Nat=>[(0,.ip 1 [[cY 3 aS.c p.aJ]] 0 0),(1,I f),(2,ints args),(6,.op n6 4 0 0),(7,.op nb 6 0 0),(8,eU 1 x.1 x.2.2),(9,I x.1)]) (fun x=>gB x.2.1 (.row 1 (((zB x.1).map fun n=>[I n]).map (List.map .v))) x.2.2) (fun x=>x.1≤args.length∧cC (bL p args.length) h6 nb (uN args x.1) x.2.1∧eF x.2.1 (zB x.1) x.2.2) (fun x=>args.length - x.1) (0,a7 h6 nb (bL p args.length ⟨[],[],[]⟩ none none none),none) ⟨by simp [bU,bF,eU],aA.le_refl _,Nat.zero_le _,hin,rfl⟩ ?_
 rintro ⟨k,g,o⟩ ⟨hk,hR,hos⟩
 simp only at hk hR hos ⊢
 have hel:(zB k).length = k:=by simp [zB]
 rcases Nat.lt_or_ge k args.length with hlt | hge
 ·have ek:args[k]? = some args[k]:=List.getElem?_eq_getElem hlt
  have hsl:(uN args k).code.length = (uN args k).dU.length:=by simp [uN];omega
  have hvl:(uN args k).dU.length = k:=by simp [uN];omega
  have hy:=aG7 k
  cases o with
  |none =>
   rw [a6] at hos
   have k0:k = 0:=by rw [← hel,hos];rfl
   subst k0
   simp -dsimp -implicitDefEqProofs only [go_sem,↓reduceIte,Tryz.f50,a8,aP,hlt,ek]
   refine fun _=>aG.gQ (vX hR ⟨1,0,0,((0:Nat):Int)⟩ args[0] hsl (by omega)) ?_
   rintro r h' ⟨rfl,lD⟩
   simp -dsimp -implicitDefEqProofs only [go_sem,↓reduceIte,Tryz.f50]
   refine ⟨Nat.zero_lt_one,Nat.zero_lt_one,Nat.zero_lt_one,fun b jG=>⟨(1,h',some b),⟨rfl,by rw [IntWalk.i64_in _ (by omega)];rfl⟩,?_,⟨hlt,by rw [wK hlt];exact lD,jG⟩,by simp only;omega⟩⟩
   rw [hvl]
   exact aA.le_refl _
  |some m =>
   rw [aU] at hos
   simp -dsimp -implicitDefEqProofs only [go_sem,↓reduceIte,Tryz.f50,aT,aK,hlt,ek]
   refine fun _=>aG.gQ (vX (hR.uM hos) ⟨1,0,0,(k:Int)⟩ args[k] hsl (by omega)) ?_
   rintro r h' ⟨rfl,lD⟩
   obtain ⟨g2,rfl,hg2,lD⟩:=lD.base (hR.none hos)
   simp -dsimp -implicitDefEqProofs only [go_sem,↓reduceIte,Tryz.f50]
   refine ⟨Nat.zero_lt_one,Nat.zero_lt_one,Nat.zero_lt_one,Nat.le_of_eq hel.symm,by omega,by omega,fun b ⟨hbm,jG⟩=>⟨(k + 1,g2,some b),⟨rfl,by rw [IntWalk.i64_in _ (by omega)];rfl⟩,?_,⟨hlt,by rw [wK hlt];exact lD,jG⟩,by simp only;omega⟩⟩
   simp only [aK]
   rw [hvl,hy,← dQ (fun n=>I n),hel]
   exact iX hg2
 ·have hk':k = args.length:=by omega
  subst hk'
  rw [aL4] at hR
  have hg0:=y7 args ha a5K
  have hie:zB args.length = zY args:=rfl
  have hr':jF (fun t e S=>cM p 3001 t e (zY args) S) F.aL 0 (inS args) = .ok ((l,S'),t):=by rw [← hF3];exact hr
  have hall:∀ {h0 g:aA},cC (bL p args.length) h0 nb (inS args) g→fE Tryz.prog 126 [.op nb 6 0 0,.ip 3 (p.aJ.map aS.c) f.toNat 0,ints (zY args)] g (fun r h'=>r = ints l∧cC (bL p args.length) h0 nb S' h'):=fun hR =>
   fE.sub (.cons (.refl _) (.cons (Sub.ip (by rw [List.getElem?_map,ef];rfl) (by simp)) (.cons (.refl _) .nil))) (aM7 hp (a3F hp 3001) _ _ nb 0 F (zY args) (inS args) f l S' t hR (by omega) (by omega) (fun x hx=>by rw [← hie,hel,hla];exact hF4 x hx) hf.1 (by omega) hg0 (aIR args) (by rw [← hie,hel];omega) hr')
  cases o with
  |none =>
   rw [a6,hie] at hos
   simp -dsimp -implicitDefEqProofs only [go_sem,↓reduceIte,Tryz.f50,a8,aP,Nat.lt_irrefl,Int.lt_irrefl,ef,aS.aQ]
   refine fun _=>⟨hf.1,hf.2,aG.gQ (fE.sub (.cons (.refl _) (.cons (.refl _) (.cons (by rw [hos];exact Sub.loose _ _ _) .nil))) (hall hR)) ?_⟩
   rintro r h2 ⟨rfl,om,og,ov,H2⟩
   have jG:=H2.box
   unfold bL at jG
   have hz:=H2.keep (n:=n6) (by rw [← hh6,aH])
   have hz1:=hz.1
   simp -dsimp -implicitDefEqProofs only [go_sem,↓reduceIte,Tryz.f50,jG,hz1,zC,zD,aF]
   generalize hE:h2 = h2H at *
   have hle:h.le h2H:=by
    have h1:=H2.le
    rw [← hh6] at h1
    intro q
    by_cases e:q = n6
    ·subst e;exact .inl z6
    ·have:=h1 q
     rwa [aF _ _ _ _ e] at this
   have hfr:∀ n,some n = om∨some n = og→h n = none∧¬ n = n6∧¬ n = nb:=fun n hn=>by
    have h1:=H2.fresh n (by rcases hn with hn | hn;exact .inr (.inl hn);exact .inr (.inr (.inl hn)))
    have h3:¬ n = n6:=fun e=>by rw [← hh6,e,aH] at h1;cases h1
    refine ⟨by rwa [← hh6,aF _ _ _ _ h3] at h1,h3,fun e=>?_⟩
    rcases hn with hn | hn
    ·exact ((H2.apart n).1 e).1 hn
    ·exact ((H2.apart n).1 e).2.1 hn
   refine ⟨by rw [mY,mY];rfl,?_⟩
   rw [jS.aQ]
   refine H2.vN l (fun n hn=>?_) (aA.bI z6 (aA.bI zb (hle))) (fun n hn=>(hfr n hn).1)
   obtain ⟨v1,v2,v3⟩:=hfr n hn
   rw [aF _ _ _ _ v2,aF _ _ _ _ v3]
  |some m =>
   rw [aU] at hos
   simp -dsimp -implicitDefEqProofs only [go_sem,↓reduceIte,Tryz.f50,aT,aK,Nat.lt_irrefl,Int.lt_irrefl,ef,aS.aQ]
   have dM:¬ nb = m:=fun e=>by obtain ⟨_,_,_,H1⟩:=hR;have:=H1.box;rw [e,hos] at this;cases this
   have eI:¬ m = nb:=Ne.symm dM
   have dZ:(nb = m) = False:=eq_false dM
   have dY:(m = nb) = False:=eq_false eI
   refine fun _=>⟨hf.1,hf.2,aG.aEL rfl rfl dM (by rw [List.length_map];exact hel.symm) hos ?_⟩
   refine fE.mono (hall (hR.uM (o:=.gone) hos)) ?_
   rintro r h2 ⟨rfl,lD⟩
   obtain ⟨g3,rfl,hg3,⟨om,og,ov,H2⟩⟩:=lD.base (hR.none hos)
   have jG:=H2.box
   unfold bL at jG
   have hz:=H2.keep (n:=n6) (by rw [← hh6,aH])
   have hz1:=hz.1
   have xR:¬ n6 = m:=fun e=>by rw [e,hg3] at hz1;cases hz1
   have aOP:¬ m = n6:=Ne.symm xR
   have aOQ:(n6 = m) = False:=eq_false xR
   have aOR:(m = n6) = False:=eq_false aOP
   simp -dsimp -implicitDefEqProofs only [go_sem,↓reduceIte,Tryz.f50,jG,hz1,zC,dZ,zD,aOQ,dY,aOR,aF]
   have hgo:∀ n,some n = om∨some n = og→¬ n = m:=fun n hn e=>by
    have:=(H2.apart n).2.2.2 (by rw [e];exact hg3)
    rcases hn with hn | hn
    ·exact this.2.1 hn
    ·exact this.2.2.1 hn
   have hhm:h m = none:=by
    have h1:=hR.none hos
    rw [← hh6,aF _ _ _ _ (fun e=>xR e.symm)] at h1
    exact h1
   generalize hE:g3 = h2H at *
   have hle:h.le h2H:=by
    have h1:=H2.le
    rw [← hh6] at h1
    intro q
    by_cases e:q = n6
    ·subst e;exact .inl z6
    ·have:=h1 q
     rwa [aF _ _ _ _ e] at this
   have hfr:∀ n,some n = om∨some n = og→h n = none∧¬ n = n6∧¬ n = nb:=fun n hn=>by
    have h1:=H2.fresh n (by rcases hn with hn | hn;exact .inr (.inl hn);exact .inr (.inr (.inl hn)))
    have h3:¬ n = n6:=fun e=>by rw [← hh6,e,aH] at h1;cases h1
    refine ⟨by rwa [← hh6,aF _ _ _ _ h3] at h1,h3,fun e=>?_⟩
    rcases hn with hn | hn
    ·exact ((H2.apart n).1 e).1 hn
    ·exact ((H2.apart n).1 e).2.1 hn
   refine ⟨by rw [mY,mY];rfl,?_⟩
   rw [jS.aQ]
   refine H2.vN l (fun n hn=>?_) (aA.bI z6 (aA.bI zb (aA.bI hhm hle))) (fun n hn=>(hfr n hn).1)
   obtain ⟨v1,v2,v3⟩:=hfr n hn
   rw [aF _ _ _ _ v2,aF _ _ _ _ v3,aF _ _ _ _ (hgo n hn)]
theorem aNA {m:Nat}:∀ {l:List (List Int)},(∀ s∈l,s.length≤m)→qR List.length l≤l.length * (m + 1)
 | [],_=>by simp [qR]
 |s :: l,h=>by
  have h1:=aNA (l:=l) fun x hx=>h x (List.mem_cons_of_mem _ hx)
  have h2:=h s List.mem_cons_self
  simp only [qR,List.length_cons,List.map_cons,List.sum_cons] at h1 ⊢
  rw [Nat.add_mul]
  omega
theorem aXY {n:Nat} {N:Nat→Nat→Int} (hN:∀ i,i < n→∀ k,k < n→fP (N i k)) (r:Nat→Int):(aGH n N = 0 ↔ pD dW n (gV n N r) n = none):=by
 have h1:=zM (F:=dW) (G:=dW) (R:=fun a b=>a = b) (fun x y q=>by rw [q]) (fun x y d e q1 q2 _=>by rw [q1,q2]) (fun x y f g u v q1 q2 q3=>by rw [q1,q2,q3]) (n:=n) (w:=n) (Nat.le_refl _) (M:=gV n N r) (N:=N) (fun i hi k hk=>by rw [gV,if_pos hk]) n (Nat.le_refl _)
 rcases a22 hN (N:=N) (fun _ _ _ _=>rfl) n (Nat.le_refl _) with ⟨a,b⟩ | ⟨A,d,B,a,b,c,_⟩
 ·rw [aGH,a]
  rcases h1 with ⟨q,_⟩ | ⟨_,_,_,q,_⟩
  ·exact ⟨fun _=>q,fun _=>rfl⟩
  ·rw [b] at q;cases q
 ·rw [aGH,a]
  rcases h1 with ⟨_,q⟩ | ⟨_,_,q,_,_⟩
  ·rw [b] at q;cases q
  ·rw [q];exact ⟨fun z=>absurd z c.2,fun z=>by cases z⟩
theorem aSD {n sz:Nat} (hsz:1≤sz) {S:Nat→Nat→List Int} {b:Nat→List Int} (hS:∀ i,i < n→∀ k,k < n→bD sz (S i k)) (hb:∀ i,i < n→bD sz (b i)):(aGH n (fun i j=>(S i j).getD 0 0) = 0 ↔ pD rR n (gV n S b) n = none):=by
 have hok:okM (bD sz) n (gV n S b):=fun i hi k hk=>by
  unfold gV
  split
  ·exact hS i hi k (by assumption)
  ·exact hb i hi
 rw [aXY (fun i hi k hk=>(hS i hi k hk).2.get 0) fun _=>0]
 exact (aMN (n:=n) (w:=n + 1) (M:=gV n S b) (N:=gV n (fun i j=>(S i j).getD 0 0) fun _=>0) hsz (by omega) (fun i hi k hk=>hok i hi k (by omega)) fun i hi k hk=>by rw [gV,gV,if_pos hk,if_pos hk]).symm
theorem aTU {sz:Nat} (hsz:1≤sz∧sz≤1048576) {code:List aY} {inp:Nat} (hins:∀ i c,code[i]? = some c→bK inp i c) {outs:List Int} (ho:∀ r∈outs,0≤r∧r < code.length) {X:List (List Int)} (hX:c5 sz inp X) :
  ((List.range outs.length).map fun o=>(List.range (inp - 1)).map fun k=>z3 sz (uD sz inp (k + 1)) (lR sz X code) code (outs.getD o 0).toNat) = (sO code outs (hJ sz X code code.length) sz inp).map fun r=>r.drop 1:=by
 rw [sO,List.map_map]
 refine List.map_congr_left fun o hol=>?_
 have hol:=List.mem_range.1 hol
 have hsr:=zN hins hX
 have hs:=aFE (i:=o) hsz hins hsr ho
 show _ = (aMQ code outs (hJ sz X code code.length) sz inp o).drop 1
 apply List.ext_getElem
 ·rw [List.length_drop,hs.1];simp
 ·intro k a c
  simp only [List.length_map,List.length_range] at a
  rw [List.getElem_drop]
  simp only [List.getElem_map,List.getElem_range]
  have h1:=a6M (k:=k + 1) hs (by omega)
  have h2:aOZ sz (aMQ code outs (hJ sz X code code.length) sz inp o) (uD sz inp (k + 1)) inp = z3 sz (uD sz inp (k + 1)) (lR sz X code) code (outs.getD o 0).toNat:=a0B hsz hins ho hsr (aXS inp (k + 1)) hol
  rw [← h2,h1,List.getD_eq_getElem?_getD,List.getElem?_eq_getElem (by rw [hs.1];omega)]
  simp only [Nat.add_comm 1 k];rfl
theorem aTV {n sz:Nat} (hsz:1≤sz) {S:Nat→Nat→List Int} {b:Nat→List Int} (hS:∀ i,i < n→∀ k,k < n→bD sz (S i k)) (hb:∀ i,i < n→bD sz (b i)) (y:List (List Int)) :
  (gD n (gV n S b) y) = if aGH n (fun i j=>(S i j).getD 0 0) = 0 then ([],false) else (gJ n fun i=>jQ (y.getD i []) ((rS n S b sz).getD i []),true):=by
 have h:=aSD hsz hS hb
 rw [gD]
 cases hA:pD rR n (gV n S b) n with
 |none=>rw [if_pos (h.2 hA)]
 |some A =>
  rw [if_neg fun z=>by rw [h.1 z] at hA;cases hA]
  simp only
  refine congrArg (fun l=>(l,true)) (dB fun i hi=>?_)
  rw [a0H hsz hS hb hA i hi]
@[go_sem] def aJ1:List Nat:=[0,1,2,3,6,7,8,9,10,11,12,13,14,15,16,21,38,51,60]
@[go_sem] def a1G:List Nat:=[3,22,39,52,56,73]
@[go_sem] def a1H:Marks:=fun id=>match id with | 18=>([11],(.op 0 (.op 1 (.op 2 (.op 3 (.op 4 (.op 5 (.op 6 (.op 7 (.op 8 (.op 9 (.op 10 (.op 11 (.op 12 .nil))))))))))))),[]) | _=>([],.nil,[])
theorem aNB {p:aE} (hps:p.s≤4194304) {f:Int} {y:List (List Int)} (h0:jH p f y = 0) {L:List Int} {F:bY} {u:Nat} (hX:rP p f (hdY y) = .ok ((L,F),u)) :
  dI Tryz.prog 20 [.agg p.c,I f,bB y] (.gW [bB (c6 p f y).1,I (c6 p f y).2]):=by
 have hl:y.length≤4194304:=by have:=(qP h0).hn;omega
 have h1:=aM5 p hps f y hl
 have G:=qP h0
 have e:c6 p f y = ((gD y.length (mN L F (y.getD 0 []).length y) y).1,if (gD y.length (mN L F (y.getD 0 []).length y) y).2 then 0 else 6):=by rw [c6,if_pos h0,hX]
 rw [e]
 generalize hsz:(y.getD 0 []).length = sz at G
 rw [h0] at h1
 obtain ⟨T,hL⟩:=G.tape hX
 obtain ⟨q1,q2,q3⟩:=G.sys hX
 have hn:=G.hn
 have hs:=G.hs
 have hsz':1≤sz∧sz≤1048576:=by omega
 have hXs:=G.st.1
 rw [G.hl] at hXs
 have h2:=aSC G.ser (by omega) hsz'
 have h3:=aR0 G.ok hsz' f G.fn (tS sz :: y) G.st.1.2 (fun F hF=>by rw [G.st.1.1];exact G.par F hF)
 rw [T.ev sz _ hs.1 G.st,← bN,show aLY (.ok (bN L F sz y,u)) = (bN L F sz y,(u:Int),0) from rfl] at h3
 have h4:=l9 hXs (by omega) hs.1
 rw [aM6 G.st] at h4
 have h5:=aTT G.ok f G.fn (hdY y) G.ns (by rw [G.hl];omega) G.par hX
 have h6:=aTS ⟨(hdY y).length,F.code,F.guards,L⟩ (sz:=sz) (inp:=y.length + 1) hsz' (by omega) (by rw [G.hl]) (by have:=T.ins;rwa [G.hl] at this) ⟨T.one,T.cap⟩ hXs (T.nz sz _ hs.1 G.st) T.outs (by show 1≤L.length∧L.length≤12;omega)
 have hTu:=aTU (sz:=sz) hsz' (inp:=y.length + 1) (by have:=T.ins;rwa [G.hl] at this) T.outs hXs
 simp only at h6
 rw [hTu,← aN] at h6
 have hBo:=aBV (A:=aN L F sz y) (n:=y.length) (sz:=sz) (fun K hK=>by
  obtain ⟨i,hi,rfl⟩:=List.getElem_of_mem hK
  have:=q2 i (by omega)
  rwa [List.getD_eq_getElem?_getD,List.getElem?_eq_getElem hi] at this) (by omega) (by omega) hs.1
 have hhd:∀ i k,(((aN L F sz y).map fun L=>L.map fun s=>s.getD 0 0).getD i []).getD k 0 = (((aN L F sz y).getD i []).getD k []).getD 0 0:=aM2
 have hS:∀ i,i < y.length→∀ k,k < y.length→bD sz (((aN L F sz y).getD i []).getD k []):=fun i hi k hk=>((q2 i hi).get hk).2
 have hb:∀ i,i < y.length→bD sz ((bN L F sz y).getD i []):=fun i hi=>(q3.get hi).2
 have hWr:∀ i,i < y.length→((aN L F sz y).map fun L=>L.map fun s=>s.getD 0 0).getD i [] = ((aN L F sz y).getD i []).map fun s=>s.getD 0 0:=fun i hi=>by
  rw [List.getD_eq_getElem?_getD,List.getElem?_map,List.getElem?_eq_getElem (by omega),List.getD_eq_getElem?_getD,List.getElem?_eq_getElem (by omega)];rfl
 have hdet:=a6A (n:=y.length) (by omega) (L:=(aN L F sz y).map fun L=>L.map fun s=>s.getD 0 0) (by rw [List.length_map,q1]) (fun i hi=>by rw [hWr i hi,List.length_map,(q2 i hi).1]) (fun i hi x hx=>by
  rw [hWr i hi] at hx
  obtain ⟨s,hs,rfl⟩:=List.mem_map.1 hx
  exact ((q2 i hi).2 s hs).2.get 0)
 rw [show (fun i k=>(((aN L F sz y).map fun L=>L.map fun s=>s.getD 0 0).getD i []).getD k 0) = fun i k=>(((aN L F sz y).getD i []).getD k []).getD 0 0 from funext fun i=>funext fun k=>hhd i k] at hdet
 have hnw:=aTV hs.1 hS hb y
 rw [← mN] at hnw
 have hnz:=aSD hs.1 hS hb
 have hss:=fun q=>aB2 (sz:=sz) (show 1≤y.length∧y.length≤12 by omega) hsz' q1 q2 q3 q
 have hgz:=aXY (n:=y.length) (N:=fun i j=>(((aN L F sz y).getD i []).getD j []).getD 0 0) (fun i hi k hk=>(hS i hi k hk).2.get 0) fun _=>0
 have hns:=fun q=>aCW (n:=y.length) (S:=fun i j=>((aN L F sz y).getD i []).getD j []) (b:=fun i=>(bN L F sz y).getD i []) hs.1 hS q sz
 have hZn:=aRY y.length (fun i j=>((aN L F sz y).getD i []).getD j []) (fun i=>(bN L F sz y).getD i []) sz
 rw [hnw]
 generalize aGH y.length (fun i j=>(((aN L F sz y).getD i []).getD j []).getD 0 0) = D at *
 generalize ((aN L F sz y).map fun L=>L.map fun s=>s.getD 0 0) = W at *
 generalize rS y.length (fun i j=>((aN L F sz y).getD i []).getD j []) (fun i=>(bN L F sz y).getD i []) sz = Z at *
 simp only [aE.aQ,jS.aQ] at h1 h3 h5 h6 ⊢
 have e0:y[Int.toNat 0]? = some (y.getD 0 []):=(G.ser.get (by omega)).1
 refine j7 76 aJ1 a1G a1H mix Tryz.func20 rfl (by kernel_rfl) (by simp) fun h=>?_
 simp -dsimp -implicitDefEqProofs only [go_sem,↓reduceIte,Tryz.f20]
 first | refine aG.mk (h1) ?_ | refine aD.mk (h1) ?_ | refine aG.a5 (h1) ?_ | refine aD.mk (aX.cD (h1)) ?_
 simp -dsimp -implicitDefEqProofs only [go_sem,↓reduceIte,Tryz.f20,e0,hsz]
 refine ⟨by omega,fun _=>?_⟩
 first | refine aG.mk (h2) ?_ | refine aD.mk (h2) ?_ | refine aG.a5 (h2) ?_ | refine aD.mk (aX.cD (h2)) ?_
 simp -dsimp -implicitDefEqProofs only [go_sem,↓reduceIte,Tryz.f20]
 first | refine aG.mk (h3) ?_ | refine aD.mk (h3) ?_ | refine aG.a5 (h3) ?_ | refine aD.mk (aX.cD (h3)) ?_
 simp -dsimp -implicitDefEqProofs only [go_sem,↓reduceIte,Tryz.f20]
 first | refine aG.mk (h4) ?_ | refine aD.mk (h4) ?_ | refine aG.a5 (h4) ?_ | refine aD.mk (aX.cD (h4)) ?_
 simp -dsimp -implicitDefEqProofs only [go_sem,↓reduceIte,Tryz.f20]
 first | refine aG.mk (h5) ?_ | refine aD.mk (h5) ?_ | refine aG.a5 (h5) ?_ | refine aD.mk (aX.cD (h5)) ?_
 simp -dsimp -implicitDefEqProofs only [go_sem,↓reduceIte,Tryz.f20]
 refine fun n zn=>?_
 rw [aO]
 have hh:h.le (a7 h n .gone):=aA.bI zn (aA.le_refl _)
 refine aG.aRF (es:=[[I (hdY y).length,cY 4 aY.c F.code,cY 2 dT.c F.guards,ints L]]) h6 (by simp [dG,dF]) (by simp [iF,aC.cR]) ?_
 generalize a7 h n bH.gone = g0 at hh
 simp -dsimp -implicitDefEqProofs only [go_sem,↓reduceIte,Tryz.f20]
 first | refine aG.mk (hBo) ?_ | refine aD.mk (hBo) ?_ | refine aG.a5 (hBo) ?_ | refine aD.mk (aX.cD (hBo)) ?_
 simp -dsimp -implicitDefEqProofs only [go_sem,↓reduceIte,Tryz.f20]
 first | refine aG.mk (hdet) ?_ | refine aD.mk (hdet) ?_ | refine aG.a5 (hdet) ?_ | refine aD.mk (aX.cD (hdet)) ?_
 simp -dsimp -implicitDefEqProofs only [go_sem,↓reduceIte,Tryz.f20]
 refine ⟨fun q=>⟨by decide,?_⟩,fun q=>?_⟩
 ·rw [if_pos q]
  exact Shift.of (Sub.gW (.cons (Sub.loose _ _ _) (.cons (.refl _) .nil))) hh
 have hq:=fun z=>q (hgz.2 z)
 have hZs:=hns hq
 rw [if_neg q]
 first | refine aG.mk (aJO (hss hq)) ?_ | refine aD.mk (aJO (hss hq)) ?_ | refine aG.a5 (aJO (hss hq)) ?_ | refine aD.mk (aX.cD (aJO (hss hq))) ?_
 simp -dsimp -implicitDefEqProofs only [go_sem,↓reduceIte,Tryz.f20]
 obtain ⟨R,hR⟩:∃ R,R = gJ y.length fun i=>jQ (y.getD i []) (Z.getD i []):=⟨_,rfl⟩
 have hRl:R.length = y.length:=by rw [hR,bX]
 rw [← hR]
 refine ⟨by decide,?_⟩
 refine bQ (keep:=aJ1) (ib:=a1G) (mk:=a1H) mix (by kernel_rfl) (fun x:Nat × Option Nat=>[(2,bB y),(14,bB Z),(15,eU 1 (R.take x.1).length x.2),(16,I x.1)]) (fun x=>gB g0 (.row 1 (((R.take x.1).map fun n=>[ints n]).map (List.map .v))) x.2) (fun x=>x.1≤y.length∧eF g0 (R.take x.1) x.2) (fun x=>y.length - x.1) (0,none) ⟨by simp [bU,bF,eU],by simp only [aP];exact aA.le_refl _,Nat.zero_le _,by simp [eF]⟩ ?_
 rintro ⟨k,o⟩ ⟨hk,hos⟩
 simp only at hk hos ⊢
 rcases Nat.lt_or_ge k y.length with hlt | hge
 ·have ey:=G.ser.get hlt
  have eZ:Z[k]? = some (Z.getD k []):=by rw [List.getD_eq_getElem?_getD,List.getElem?_eq_getElem (by omega)];rfl
  have hzk:=hZs k hlt
  have hy:R.take (k + 1) = R.take k ++ [jQ (y.getD k []) (Z.getD k [])]:=by
   rw [List.take_succ_eq_append_getElem (by omega)];simp [hR,gJ]
  have hlk:(R.take k).length = k:=by rw [List.length_take];omega
  have hsub:=nO (y.getD k []) (Z.getD k []) (by rw [hzk.1,ey.2.1]) (by rw [ey.2.1];omega) ey.2.2 hzk.2
  cases o with
  |none =>
   rw [a6] at hos
   rw [hos] at hy ⊢
   simp -dsimp -implicitDefEqProofs only [go_sem,↓reduceIte,Tryz.f20,a8,aP,hlt,ey.1,eZ,hZn]
   intro _
   first | refine aG.mk (hsub) ?_ | refine aD.mk (hsub) ?_ | refine aG.a5 (hsub) ?_ | refine aD.mk (aX.cD (hsub)) ?_
   simp -dsimp -implicitDefEqProofs only [go_sem,↓reduceIte,Tryz.f20]
   repeat' (with_reducible first | intro _ | refine And.intro ?_ ?_)
   all_goals try (first | omega | decide)
   rename_i b hb
   refine ⟨(k + 1,some b),?_⟩
   simp only [hy]
   refine ⟨⟨rfl,?_⟩,aA.le_refl _,⟨by omega,hb⟩,by omega⟩
   rw [IntWalk.i64_in _ (by omega)];rfl
  |some n =>
   rw [aU] at hos
   simp -dsimp -implicitDefEqProofs only [go_sem,↓reduceIte,Tryz.f20,aT,aK,hlt,ey.1,eZ,hZn]
   intro _
   first | refine aG.mk (hsub) ?_ | refine aD.mk (hsub) ?_ | refine aG.a5 (hsub) ?_ | refine aD.mk (aX.cD (hsub)) ?_
   simp -dsimp -implicitDefEqProofs only [go_sem,↓reduceIte,Tryz.f20]
   repeat' (with_reducible first | intro _ | refine And.intro ?_ ?_)
   all_goals try (first | omega | decide | exact Nat.le_refl _)
   rename_i b hb
   refine ⟨(k + 1,some b),?_⟩
   simp only [hy,aK,aT,aU]
   refine ⟨⟨by rw [List.length_append];rfl,?_⟩,?_,⟨by omega,hb.2⟩,by omega⟩
   ·rw [IntWalk.i64_in _ (by omega)];rfl
   ·rw [← dQ];exact iX hos
 ·have hk':k = y.length:=by omega
  subst hk'
  rw [List.take_of_length_le (by omega)] at hos ⊢
  cases o with
  |none =>
   rw [a6] at hos
   simp -dsimp -implicitDefEqProofs only [go_sem,↓reduceIte,Tryz.f20,a8,aP,Nat.lt_irrefl,Int.lt_irrefl]
   rw [hos]
   exact fun _=>Shift.of (Sub.gW (.cons (Sub.loose _ _ _) (.cons (.refl _) .nil))) hh
  |some m =>
   rw [aU] at hos
   simp -dsimp -implicitDefEqProofs only [go_sem,↓reduceIte,Tryz.f20,aT,aK,Nat.lt_irrefl,Int.lt_irrefl]
   refine fun _=>Shift.trans (fH (R.map fun n=>[ints n]) hos (aA.le_refl _) (by simp [dF,dG]) ?_) (cG hh)
   simp [aC.cR,iF,List.take_of_length_le]
theorem v7 (p:aE) (hps:p.s≤4194304) (f:Int) (y:List (List Int)) (hl:y.length≤4194304):dI Tryz.prog 20 [.agg p.c,I f,bB y] (.gW [bB (c6 p f y).1,I (c6 p f y).2]):=by
 have h1:=aM5 p hps f y hl
 by_cases h0:jH p f y = 0
 ·cases hX:rP p f (hdY y) with
  |ok q =>
   obtain ⟨⟨L,F⟩,u⟩:=q
   exact aNB hps h0 hX
  |error c =>
   have G:=qP h0
   generalize hsz:(y.getD 0 []).length = sz at G
   rw [h0] at h1
   rw [show c6 p f y = ([],c) by rw [c6,if_pos h0,hX]]
   have hn:=G.hn
   have hs:=G.hs
   have hsz':1≤sz∧sz≤1048576:=by omega
   have h2:=aSC G.ser (by omega) hsz'
   have h3:=aR0 G.ok hsz' f G.fn (tS sz :: y) G.st.1.2 (fun F hF=>by rw [G.st.1.1];exact G.par F hF)
   have he:=(aCZ G.ok G.fn G.ns G.par hX).2 sz _ hs.1 G.st
   have hc:=aCJ p sz f _ c he
   rw [he,show aLY (.error c) = ([],0,c) from rfl] at h3
   simp only [aE.aQ] at h1 h3 ⊢
   have e0:y[Int.toNat 0]? = some (y.getD 0 []):=(G.ser.get (by omega)).1
   refine j7 76 aJ1 a1G a1H mix Tryz.func20 rfl (by kernel_rfl) (by simp) fun h=>?_
   simp -dsimp -implicitDefEqProofs only [go_sem,↓reduceIte,Tryz.f20]
   first | refine aG.mk (h1) ?_ | refine aD.mk (h1) ?_ | refine aG.a5 (h1) ?_ | refine aD.mk (aX.cD (h1)) ?_
   simp -dsimp -implicitDefEqProofs only [go_sem,↓reduceIte,Tryz.f20,e0,hsz]
   refine ⟨by omega,fun _=>?_⟩
   first | refine aG.mk (h2) ?_ | refine aD.mk (h2) ?_ | refine aG.a5 (h2) ?_ | refine aD.mk (aX.cD (h2)) ?_
   simp -dsimp -implicitDefEqProofs only [go_sem,↓reduceIte,Tryz.f20]
   first | refine aG.mk (h3) ?_ | refine aD.mk (h3) ?_ | refine aG.a5 (h3) ?_ | refine aD.mk (aX.cD (h3)) ?_
   simp -dsimp -implicitDefEqProofs only [go_sem,↓reduceIte,Tryz.f20]
   exact ⟨fun _=>⟨by decide,Shift.of (Sub.gW (.cons (Sub.loose _ _ _) (.cons (.refl _) .nil))) (aA.le_refl _)⟩,fun q=>absurd hc (by omega)⟩
 ·rw [show c6 p f y = ([],jH p f y) by rw [c6,if_neg h0]]
  generalize jH p f y = c at *
  simp only [aE.aQ] at h1 ⊢
  refine j7 76 aJ1 a1G a1H mix Tryz.func20 rfl (by kernel_rfl) (by simp) fun h=>?_
  simp -dsimp -implicitDefEqProofs only [go_sem,↓reduceIte,Tryz.f20]
  first | refine aG.mk (h1) ?_ | refine aD.mk (h1) ?_ | refine aG.a5 (h1) ?_ | refine aD.mk (aX.cD (h1)) ?_
  simp -dsimp -implicitDefEqProofs only [go_sem,↓reduceIte,Tryz.f20,h0]
  exact ⟨by decide,Shift.of (Sub.gW (.cons (Sub.loose _ _ _) (.cons (.refl _) .nil))) (aA.le_refl _)⟩
theorem aJ2 (b:List (List Int)):b.length≤qR (fun x=>x.length) b:=by
 unfold qR;omega
theorem aJ3 (p:aE) (f:Int) (y:List (List Int)):qR List.length (c6 p f y).1≤168:=by
 unfold c6
 split
 ·rename_i h0
  have G:=qP h0
  have hn:=G.hn
  have hs:=G.hs
  split
  ·rename_i L F u hX
   simp only
   unfold gD
   split
   ·rename_i A hA
    have h1:=aNA (m:=13) (l:=gJ y.length fun i=>jQ (y.getD i []) (A i y.length)) fun s hs'=>by
     obtain ⟨i,hi,rfl⟩:=List.mem_map.1 hs'
     have h2:=(G.ser.get (List.mem_range.1 hi)).2
     have h3:(jQ (y.getD i []) (A i y.length)).length≤(y.getD i []).length:=by simp [jQ,j8];omega
     have h4:=h2.1
     omega
    rw [bX] at h1
    exact Nat.le_trans h1 (Nat.le_trans (Nat.mul_le_mul_right _ (show y.length≤12 by omega)) (by decide))
   ·simp [qR]
  ·simp [qR]
 ·simp [qR]
@[go_sem] def aSE:List Nat:=[0,2,3,5,7]
@[go_sem] def a3G:List Nat:=[12]
theorem aXZ (k:Int) (h1:k≤4611686018427387904):dI Tryz.prog 142 [I k] (.str (wY k)):=by
 refine dJ 20 aSE a3G bC mix Tryz.func142 rfl (by kernel_rfl) (by simp) fun h=>?_
 simp -dsimp -implicitDefEqProofs only [go_sem,↓reduceIte,Tryz.f142]
 repeat' (with_reducible first | intro _ | refine And.intro ?_ ?_)
 ·simp [wY, *]
 have hd:=aN5 k.toNat
 refine bQ (keep:=aSE) (ib:=a3G) (mk:=bC) mix (by kernel_rfl) (fun x:Int × List UInt8=>[(0,I x.1),(3,.str x.2)]) (fun _=>h) (fun x=>0≤x.1∧x.1≤k∧rO k.toNat = rO x.1.toNat ++ x.2) (fun x=>x.1.toNat) (k,[]) (by refine ⟨by simp [bU,bF],aA.le_refl _,by simp;omega⟩) ?_
 rintro ⟨j,out⟩ ⟨hj,hjk,he⟩
 simp only at hj hjk he
 have hol:out.length≤k.toNat:=by rw [he,List.length_append] at hd;omega
 simp -dsimp -implicitDefEqProofs only [go_sem,↓reduceIte,Tryz.f142]
 repeat' (with_reducible first | intro _ | refine And.intro ?_ ?_)
 all_goals try omega
 all_goals try (simp;done)
 ·rw [Int.tdiv_eq_ediv_of_nonneg (by omega),Int.tmod_eq_emod_of_nonneg (by omega),IntWalk.i64_in (j / 10) (by omega),IntWalk.i64_in (48 + j % 10) (by omega),IntWalk.u8_in (48 + j % 10) (by omega)]
  refine ⟨(j / 10,_),⟨rfl,rfl⟩,⟨by omega,by omega,?_⟩,by omega⟩
  rw [he,aD2 (by omega),List.append_assoc]
  have e1:j.toNat / 10 = (j / 10).toNat:=by omega
  have e2:48 + j.toNat % 10 = (48 + j % 10).toNat:=by omega
  rw [e1,e2];rfl
 all_goals
  have hj0:j = 0:=by omega
  subst hj0
  rw [show (0:Int).toNat = 0 from rfl,aBK,List.nil_append] at he
  simp [wY, *]
end Go.Hl

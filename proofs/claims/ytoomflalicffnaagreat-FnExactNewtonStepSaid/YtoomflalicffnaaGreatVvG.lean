/-
  Contracts of functions and laws of the layer over the walk.
-/
import Derived.Test.YtoomflalicffnaaGreatVvF
namespace Go.Hl
set_option maxRecDepth 100000
open Go.Proofs
set_option linter.unusedVariables false
set_option linter.unusedSimpArgs false
def aGH (n:Nat) (M:Nat→Nat→Int):Int:=match dtF n M n with
 |some (_,d)=>d
 |none=>0
theorem aM1 {n:Nat} {M:Nat→Nat→Int} {c:Nat} (h:dtF n M c = none):∀ d,dtF n M (c + d) = none
 |0=>h
 |d + 1=>by rw [← Nat.add_assoc,dtF,aM1 h d]
theorem aXE {n:Nat} {M A:Nat→Nat→Int} {c:Nat} {d:Int} (hc:c < n) (h:dtF n M c = some (A,d)) (hp:oK dW.z A c n (n - c) = n):aGH n M = 0:=by
 have h1:dtF n M (c + 1) = none:=by rw [dtF,h];simp only [if_pos hp]
 have:=aM1 h1 (n - (c + 1))
 rw [show c + 1 + (n - (c + 1)) = n by omega] at this
 rw [aGH,this]
theorem a58 {n:Nat} {M A:Nat→Nat→Int} {c r:Nat} {d:Int} (h:dtF n M c = some (A,d)) (hr:r < n) (hp:oK dW.z A c n (n - c) = r):dtF n M (c + 1) = some (fun i k=>if c < i then dW.tk (lE A c r i k) (lE A c r i c * gG (lE A c r c c) % 1000003) (lE A c r c k) else lE A c r i k,(if c < r then (0 - d) % 1000003 else d) * lE A c r c c % 1000003):=by
 rw [dtF,h]
 simp only [hp]
 rw [if_neg (by omega)]
structure bBW (T:Prop):Prop where
 get:T
theorem a59 {T G:Prop} (m:bBW T→G) (t:T):G:=m ⟨t⟩
@[go_sem] def aFK:List Nat:=[0,2,3,4,5,6,7,8,14,31,37,40,72]
@[go_sem] def aXF:Marks:=fun id=>match id with | 20=>([3,7,11,14,18,21,24],(.op 0 (.op 1 (.op 2 (.op 4 (.op 5 (.op 6 (.op 8 (.op 9 (.op 10 (.op 12 (.op 15 (.op 16 (.op 17 (.op 19 (.op 3 (.op 7 (.op 11 (.op 13 (.op 14 (.op 18 (.op 20 (.op 21 (.op 22 (.op 23 (.op 24 .nil))))))))))))))))))))))))),[]) | _=>([],.nil,[])
set_option maxHeartbeats 4000000 in
theorem a6A {n:Nat} (hn:1≤n∧n≤12) {L:List (List Int)} (hL:L.length = n) (hLw:∀ i,i < n→(L.getD i []).length = n) (hLn:∀ i,i < n→hH (L.getD i [])):dI Tryz.prog 72 [bB L] (I (aGH n fun i k=>(L.getD i []).getD k 0)):=by
 refine j7 101 aFK bM aXF mix Tryz.func72 rfl (by kernel_rfl) (by simp) fun h=>?_
 simp -dsimp -implicitDefEqProofs only [go_sem,↓reduceIte,Tryz.f72]
 refine aG.gQ (aR6 (by omega) (by omega) hL hLw h) ?_
 rintro r g ⟨b,N,rfl,hN,H⟩
 obtain ⟨M,hM⟩:∃ M:Nat→Nat→Int,M = fun i k=>(L.getD i []).getD k 0:=⟨_,rfl⟩
 have hMn:∀ i,i < n→∀ k,k < n→fP (M i k):=fun i hi k hk=>by rw [hM];exact (hLn i hi).get k
 rw [← hM] at H ⊢
 simp -dsimp -implicitDefEqProofs only [go_sem,↓reduceIte,Tryz.f72]
 refine bQ (keep:=aFK) (ib:=bM) (mk:=aXF) mix (by kernel_rfl) (fun x:Nat × (Nat→Nat→Int) × Int × List Nat × aA=>[(3,.os b 1 0 n),(4,I x.2.2.1),(5,I x.1)]) (fun x=>x.2.2.2.2) (fun x=>x.1≤n∧x.2.2.2.1.length = n∧dtF n M x.1 = some (x.2.1,x.2.2.1)∧fP x.2.2.1∧(∀ i,i < n→∀ k,k < n→fP (x.2.1 i k))∧OM I h b n x.2.2.2.1 x.2.1 x.2.2.2.2) (fun x=>n - x.1) (0,M,1,N,g) ⟨by simp [bU,bF],aA.le_refl _,Nat.zero_le _,hN,rfl,(by decide:fP 1),hMn,H⟩ ?_
 clear H hN hMn
 rintro ⟨c,A,d,N,g⟩ ⟨hc,hN,hdt,hd,hA,H⟩
 simp only at hc hN hdt hd hA H ⊢
 have hgb:=H.bk
 rcases Nat.lt_or_ge c n with hlt | hge
 ·simp -dsimp -implicitDefEqProofs only [go_sem,↓reduceIte,Tryz.f72,hlt]
  intro _
  refine jM (keep:=aFK) (ib:=bM) (mk:=aXF) mix (by kernel_rfl) (fun r:Nat=>[(3,.os b 1 0 n),(4,I d),(5,I c),(6,I r)]) (fun r=>r≤n∧c≤r∧oK dW.z A c n (n - r) = oK dW.z A c n (n - c)) (fun r=>n - r) c ⟨by simp [bU,bF],by omega,Nat.le_refl _,rfl⟩ ?_
  rintro r ⟨hr,hcr,hpv⟩
  rcases Nat.lt_or_ge r n with hrk | hrk
  ·obtain ⟨nr,hnr⟩:∃ nr,N[r]? = some nr:=⟨_,List.getElem?_eq_getElem (by omega)⟩
   obtain ⟨nc,hnc⟩:∃ nc,N[c]? = some nc:=⟨_,List.getElem?_eq_getElem (by omega)⟩
   have hpr:oK dW.z A c n (n - r) = if dW.z (A r c) = true then oK dW.z A c n (n - (r + 1)) else r:=by
    rw [show n - r = (n - (r + 1)) + 1 by omega,oK,show n - (n - (r + 1) + 1) = r by omega]
   have hgr:=H.get r nr hnr
   simp -dsimp -implicitDefEqProofs only [go_sem,↓reduceIte,Tryz.f72,hrk,hgb,cH hnr,cV,hN,hgr,gI,bX,e8 (A r) hlt]
   refine fun _=>⟨hlt,fun q=>⟨r + 1,IntWalk.i64_in _ (by omega),⟨hrk,by omega,?_⟩,by omega⟩,fun q _=>⟨fun e=>absurd e (by omega),fun _=>?_⟩⟩
   ·rw [← hpv,hpr,if_pos (show dW.z (A r c) = true from decide_eq_true q)]
   rw [hpr,if_neg (show ¬ dW.z (A r c) = true from fun e=>q (of_decide_eq_true e))] at hpv
   have hgo:=a58 hdt hrk hpv.symm
   have hB:∀ i,i < n→∀ k,k < n→fP (lE A c r i k):=fun i hi k hk=>hA (if i = c then r else if i = r then c else i) (by split;exact hrk;split;exact hlt;exact hi) k hk
   have hcc:lE A c r c c = A r c:=by rw [lE,if_pos rfl]
   have hArc:=hA r hrk c hlt
   have ek1:IntKind.i64.wrap ((c:Int) + 1) = (c:Int) + 1:=IntWalk.i64_in _ (by omega)
   apply a59
   case m =>
    intro key
    refine ⟨fun q1=>⟨hlt,?_⟩,fun q1=>⟨hlt,?_⟩⟩
    ·have HS:=H.swap hnc hnr
     rw [List.set_comm _ _ (show c≠r by omega)] at HS
     have hx1:(N.set r nc)[c]? = some nc:=by rw [List.getElem?_set_ne (by omega)];exact hnc
     have zX:((N.set r nc).set c nr)[c]? = some nr:=by rw [List.getElem?_set_self (by rw [List.length_set];omega)]
     have aA3:¬ nr = b:=(H.out nr (List.mem_of_getElem? hnr)).1
     have aPC:¬ b = nr:=Ne.symm aA3
     have aFL:(nr = b) = False:=eq_false aA3
     have aFM:(b = nr) = False:=eq_false aPC
     simp -dsimp -implicitDefEqProofs only [go_sem,↓reduceIte,Tryz.f72,hrk,hgb,cH hnr,cH hnc,cV,hN,vV,cH hx1,cH zX,List.length_set,aFL,aFM,aF,hlt]
     first | refine aG.mk (vY d hd) ?_ | refine aD.mk (vY d hd) ?_ | refine aG.a5 (vY d hd) ?_ | refine aD.mk (aX.cD (vY d hd)) ?_
     simp -dsimp -implicitDefEqProofs only [go_sem,↓reduceIte,Tryz.f72,cH zX,cV,List.length_set,hN,aFL,aFM,aF,hgr,gI,bX,e8 (A r) hlt]
     refine ⟨hlt,hlt,?_⟩
     first | refine aG.mk (aV ((0 - d) % 1000003) (A r c) (c7 _) hArc) ?_ | refine aD.mk (aV ((0 - d) % 1000003) (A r c) (c7 _) hArc) ?_ | refine aG.a5 (aV ((0 - d) % 1000003) (A r c) (c7 _) hArc) ?_ | refine aD.mk (aX.cD (aV ((0 - d) % 1000003) (A r c) (c7 _) hArc)) ?_
     simp -dsimp -implicitDefEqProofs only [go_sem,↓reduceIte,Tryz.f72]
     rw [aO]
     refine bQ (keep:=aFK) (ib:=bM) (mk:=aXF) mix (by kernel_rfl) (fun x:Nat × List Nat × aA=>[(3,.os b 1 0 n),(4,I ((if c < r then (0 - d) % 1000003 else d) * lE A c r c c % 1000003)),(5,I c),(8,I x.1)]) (fun x=>x.2.2) (fun x=>c < x.1∧x.1≤n∧x.2.1.length = n∧OM I h b n x.2.1 (fun i k=>if c < i∧i < x.1 then dW.tk (lE A c r i k) (lE A c r i c * gG (lE A c r c c) % 1000003) (lE A c r c k) else lE A c r i k) x.2.2) (fun x=>n - x.1) (c + 1,(N.set r nc).set c nr,a7 g b (.row 1 (qO n ((N.set r nc).set c nr)))) ⟨by simp [bU,bF,if_pos q1,hcc,ek1],aA.le_refl _,Nat.lt_succ_self c,hlt,by simp [hN],HS.congr fun i _ k _=>by rw [if_neg (by omega)]⟩ key.get
    ·have q2:c = r:=by omega
     subst q2
     simp -dsimp -implicitDefEqProofs only [go_sem,↓reduceIte,Tryz.f72,hgb,cH hnr,cH hnc,cV,hN,hgr,gI,bX,e8 (A c) hlt]
     refine ⟨hlt,?_⟩
     first | refine aG.mk (aV d (A c c) hd hArc) ?_ | refine aD.mk (aV d (A c c) hd hArc) ?_ | refine aG.a5 (aV d (A c c) hd hArc) ?_ | refine aD.mk (aX.cD (aV d (A c c) hd hArc)) ?_
     simp -dsimp -implicitDefEqProofs only [go_sem,↓reduceIte,Tryz.f72]
     refine bQ (keep:=aFK) (ib:=bM) (mk:=aXF) mix (by kernel_rfl) (fun x:Nat × List Nat × aA=>[(3,.os b 1 0 n),(4,I ((if c < c then (0 - d) % 1000003 else d) * lE A c c c c % 1000003)),(5,I c),(8,I x.1)]) (fun x=>x.2.2) (fun x=>c < x.1∧x.1≤n∧x.2.1.length = n∧OM I h b n x.2.1 (fun i k=>if c < i∧i < x.1 then dW.tk (lE A c c i k) (lE A c c i c * gG (lE A c c c c) % 1000003) (lE A c c c k) else lE A c c i k) x.2.2) (fun x=>n - x.1) (c + 1,N,g) ⟨by simp [bU,bF,hcc,ek1],aA.le_refl _,Nat.lt_succ_self c,hlt,hN,H.congr fun i _ k _=>by rw [if_neg (by omega),lE];by_cases e:i = c <;> simp [e]⟩ key.get
   case t =>
    have hd2:fP ((if c < r then (0 - d) % 1000003 else d) * lE A c r c c % 1000003):=c7 _
    have hE:∀ i,i < n→∀ k,k < n→fP (if c < i then dW.tk (lE A c r i k) (lE A c r i c * gG (lE A c r c c) % 1000003) (lE A c r c k) else lE A c r i k):=fun i hi k hk=>by
     split
     ·exact c7 _
     ·exact hB i hi k hk
    clear hpv hpr hnr hnc hgr H hgb hN hdt hcr hr q hcc hArc
    generalize hB':lE A c r = B at *
    generalize (if c < r then (0 - d) % 1000003 else d) * B c c % 1000003 = d2 at *
    rintro ⟨i,N,G⟩ ⟨hi1,hi2,hN,H⟩
    simp only at hi1 hi2 hN H ⊢
    have hgb:=H.bk
    rcases Nat.lt_or_ge i n with jO | aAP
    ·obtain ⟨ni,hni⟩:∃ ni,N[i]? = some ni:=⟨_,List.getElem?_eq_getElem (by omega)⟩
     obtain ⟨nc,hnc⟩:∃ nc,N[c]? = some nc:=⟨_,List.getElem?_eq_getElem (by omega)⟩
     have hgi:G ni = some (gI I (gJ n (B i))):=by
      rw [H.get i ni hni]
      exact congrArg (fun r=>some (gI I r)) (dB fun k _=>by rw [if_neg (by omega)])
     have hgc:G nc = some (gI I (gJ n (B c))):=by
      rw [H.get c nc hnc]
      exact congrArg (fun r=>some (gI I r)) (dB fun k _=>by rw [if_neg (by omega)])
     simp -dsimp -implicitDefEqProofs only [go_sem,↓reduceIte,Tryz.f72,jO,hgb,cH hni,cH hnc,cV,hN,hgi,hgc,gI,bX,e8 (B i) hlt,e8 (B c) hlt]
     refine fun _=>⟨hlt,hlt,hlt,hlt,?_⟩
     first | refine aG.mk (mD (B c c)) ?_ | refine aD.mk (mD (B c c)) ?_ | refine aG.a5 (mD (B c c)) ?_ | refine aD.mk (aX.cD (mD (B c c))) ?_
     simp -dsimp -implicitDefEqProofs only [go_sem,↓reduceIte,Tryz.f72,jO,hgb,cH hni,cH hnc,cV,hN,hgi,hgc,gI,bX,e8 (B i) hlt,e8 (B c) hlt]
     first | refine aG.mk (aV (B i c) (gG (B c c)) (hB i jO c hlt) (num_inv _)) ?_ | refine aD.mk (aV (B i c) (gG (B c c)) (hB i jO c hlt) (num_inv _)) ?_ | refine aG.a5 (aV (B i c) (gG (B c c)) (hB i jO c hlt) (num_inv _)) ?_ | refine aD.mk (aX.cD (aV (B i c) (gG (B c c)) (hB i jO c hlt) (num_inv _))) ?_
     simp -dsimp -implicitDefEqProofs only [go_sem,↓reduceIte,Tryz.f72,jO,hgb,cH hni,cH hnc,cV,hN,hgi,hgc,gI,bX,e8 (B i) hlt,e8 (B c) hlt]
     refine aG.gQ (aMX (by omega) (hB i jO) (hB c hlt) (c7 _) hgi hgc (H.apart hni hnc (by omega))) ?_
     rintro r_ h' rfl
     have HF:=H.set (B:=fun i' k=>if c < i'∧i' < i + 1 then dW.tk (B i' k) (B i' c * gG (B c c) % 1000003) (B c k) else B i' k) hni fun i' hi' k _=>by
      by_cases e:c < i'∧i' < i
      ·rw [if_pos e,if_pos (by omega)]
      ·rw [if_neg e,if_neg (by omega)]
     have hrf:gJ n ((fun i' k=>if c < i'∧i' < i + 1 then dW.tk (B i' k) (B i' c * gG (B c c) % 1000003) (B c k) else B i' k) i) = gJ n fun k=>dW.tk (B i k) (B i c * gG (B c c) % 1000003) (B c k):=dB fun k _=>if_pos ⟨hi1,Nat.lt_succ_self i⟩
     rw [hrf] at HF
     simp -dsimp -implicitDefEqProofs only [go_sem,↓reduceIte,Tryz.f72]
     exact ⟨(i + 1,N,a7 G ni (gI I (gJ n fun k=>dW.tk (B i k) (B i c * gG (B c c) % 1000003) (B c k)))),IntWalk.i64_in _ (by omega),aA.le_refl _,⟨by omega,jO,hN,HF⟩,by simp only;omega⟩
    ·obtain rfl:i = n:=by omega
     simp -dsimp -implicitDefEqProofs only [go_sem,↓reduceIte,Tryz.f72,Nat.lt_irrefl,Int.lt_irrefl,hgb,cV,hN]
     refine fun _=>⟨(c + 1,(fun i k=>if c < i then dW.tk (B i k) (B i c * gG (B c c) % 1000003) (B c k) else B i k),d2,N,G),⟨rfl,IntWalk.i64_in _ (by omega)⟩,aA.le_refl _,⟨by omega,hN,hgo,hd2,hE,H.congr fun i' hi' k _=>?_⟩,by simp only;omega⟩
     rw [hN] at hi'
     show (if c < i' then dW.tk (B i' k) (B i' c * gG (B c c) % 1000003) (B c k) else B i' k) = _
     by_cases e:c < i'
     ·rw [if_pos e,if_pos ⟨e,hi'⟩]
     ·rw [if_neg e,if_neg fun z=>e z.1]
  ·obtain rfl:r = n:=by omega
   rw [Nat.sub_self,oK] at hpv
   simp -dsimp -implicitDefEqProofs only [go_sem,↓reduceIte,Tryz.f72,Nat.lt_irrefl,Int.lt_irrefl]
   rw [aXE (by omega) hdt hpv.symm]
   exact fun _ _=>Shift.of (Sub.refl _) H.le
 ·obtain rfl:c = n:=by omega
  simp -dsimp -implicitDefEqProofs only [go_sem,↓reduceIte,Tryz.f72,Nat.lt_irrefl,Int.lt_irrefl]
  rw [aGH,hdt]
  exact fun _=>Shift.of (Sub.refl _) H.le
structure OMW {α:Type} (c:α→aC) (h:aA) (b n:Nat) (P:Nat→Nat) (R:Nat→List α) (g:aA):Prop where
 inj:∀ i j,i < n→j < n→P i = P j→i = j
 out:∀ i,i < n→¬ P i = b∧h (P i) = none
 get:∀ i,i < n→g (P i) = some (gI c (R i))
 bk:g b = some (.row 1 (gJ n fun i=>[Cell.v (.os (P i) 1 0 (R i).length)]))
 keep:∀ q o,h q = some o→g q = some o
 bn:h b = none
theorem OM.toW {α:Type} {c:α→aC} {h g:aA} {b w n:Nat} {N:List Nat} {A:Nat→Nat→α} (H:OM c h b w N A g) (hN:N.length = n):OMW c h b n (fun i=>N.getD i 0) (fun i=>gJ w (A i)) g:=by
 have hg:∀ i,i < n→N[i]? = some (N.getD i 0):=fun i hi=>by rw [List.getD_eq_getElem?_getD,List.getElem?_eq_getElem (by omega)];rfl
 refine ⟨fun i j hi hj e=>(List.getElem?_inj (by omega) H.nodup).1 (by rw [hg i hi,hg j hj,e]),fun i hi=>H.out _ (List.mem_of_getElem? (hg i hi)),fun i hi=>H.get i _ (hg i hi),?_,H.keep,H.bn⟩
 rw [H.bk]
 congr 2
 apply List.ext_getElem
 ·simp [qO,gJ,hN]
 ·intro i h1 h2
  rw [bX] at h2
  simp only [qO,gJ,List.getElem_map,List.getElem_range,List.map_cons,List.map_nil,List.length_map,List.length_range]
  rw [List.getD_eq_getElem?_getD,List.getElem?_eq_getElem (by omega)];rfl
theorem OMW.toM {α:Type} {c:α→aC} {h g:aA} {b w n:Nat} {P:Nat→Nat} {R:Nat→List α} {A:Nat→Nat→α} (H:OMW c h b n P R g) (hR:∀ i,i < n→R i = gJ w (A i)):OM c h b w (gJ n P) A g:=by
 have hm:∀ i m,(gJ n P)[i]? = some m→i < n∧m = P i:=fun i m e=>by
  have h1:=(List.getElem?_eq_some_iff.1 e).1
  rw [bX] at h1
  rw [e8 P h1] at e
  exact ⟨h1,(Option.some.inj e).symm⟩
 refine ⟨?_,fun m hmm=>?_,fun i m e=>?_,?_,H.keep,H.bn⟩
 ·rw [List.nodup_iff_pairwise_ne,List.pairwise_iff_getElem]
  intro i j hi hj hij e
  rw [bX] at hi hj
  simp only [gJ,List.getElem_map,List.getElem_range] at e
  have:=H.inj i j hi hj e
  omega
 ·obtain ⟨i,hi,e⟩:=List.mem_iff_getElem.1 hmm
  have:=hm i m (by rw [List.getElem?_eq_getElem hi,e])
  rw [this.2];exact H.out i this.1
 ·obtain ⟨h1,rfl⟩:=hm i m e
  rw [H.get i h1,hR i h1]
 ·rw [H.bk]
  congr 2
  apply List.ext_getElem
  ·simp [qO,gJ]
  ·intro i h1 h2
   rw [bX] at h1
   simp only [qO,gJ,List.getElem_map,List.getElem_range,List.map_cons,List.map_nil]
   rw [hR i h1,bX]
theorem OMW.put {α:Type} {c:α→aC} {h g F:aA} {b n i m:Nat} {P:Nat→Nat} {R:Nat→List α} (H:OMW c h b n P R g) (hi:i < n) (hm:g m = none) (l:List α) (h1:F m = some (gI c l)) (h2:F b = some (.row 1 ((gJ n fun i=>[Cell.v (.os (P i) 1 0 (R i).length)]).set i [Cell.v (.os m 1 0 l.length)]))) (h3:∀ q,¬ q = m→¬ q = b→¬ q = P i→∀ o,g q = some o→F q = some o):OMW c h b n (fun k=>if k = i then m else P k) (fun k=>if k = i then l else R k) F:=by
 have hmP:∀ k,k < n→¬ P k = m:=fun k hk e=>by have:=H.get k hk;rw [e,hm] at this;cases this
 have hmb:¬ m = b:=fun e=>by rw [e,H.bk] at hm;cases hm
 have hmh:h m = none:=by
  cases hq:h m with
  |none=>rfl
  |some o=>rw [H.keep m o hq] at hm;cases hm
 refine ⟨fun j k hj hk e=>?_,fun k hk=>?_,fun k hk=>?_,?_,fun q o hq=>?_,H.bn⟩
 ·by_cases e1:j = i
  ·by_cases e2:k = i
   ·rw [e1,e2]
   ·simp only [if_pos e1,if_neg e2] at e
    exact absurd e.symm (hmP k hk)
  ·by_cases e2:k = i
   ·simp only [if_neg e1,if_pos e2] at e
    exact absurd e (hmP j hj)
   ·simp only [if_neg e1,if_neg e2] at e
    exact H.inj j k hj hk e
 ·by_cases e:k = i
  ·simp only [if_pos e];exact ⟨hmb,hmh⟩
  ·simp only [if_neg e];exact H.out k hk
 ·by_cases e:k = i
  ·simp only [if_pos e];exact h1
  ·simp only [if_neg e]
   exact h3 _ (hmP k hk) (H.out k hk).1 (fun q=>e (H.inj k i hk hi q)) _ (H.get k hk)
 ·rw [h2,aC0]
  congr 2
  refine dB fun k _=>?_
  by_cases e:k = i
  ·rw [if_pos e,if_pos e,if_pos e]
  ·rw [if_neg e,if_neg e,if_neg e]
 ·exact h3 q (fun e=>by rw [e,hmh] at hq;cases hq) (fun e=>by rw [e,H.bn] at hq;cases hq) (fun e=>by rw [e,(H.out i hi).2] at hq;cases hq) o (H.keep q o hq)
theorem aTL {X:List Nat} (h:X.Nodup) {m:Nat} (hm:m ∉ X) (i:Nat):(X.set i m).Nodup:=by
 rw [List.nodup_iff_pairwise_ne,List.pairwise_iff_getElem] at h ⊢
 intro a b ha hb hab e
 simp only [List.length_set] at ha hb
 rw [List.getElem_set,List.getElem_set] at e
 by_cases e1:i = a
 ·rw [if_pos e1,if_neg (by omega)] at e
  exact hm (e ▸ List.getElem_mem _)
 ·rw [if_neg e1] at e
  by_cases e2:i = b
  ·rw [if_pos e2] at e
   exact hm (e ▸ List.getElem_mem _)
  ·rw [if_neg e2] at e
   exact h a b ha hb hab e
theorem OM.bBX {α:Type} {c:α→aC} {h g F:aA} {b w i j ni nj m:Nat} {N:List Nat} {A B:Nat→Nat→α} (H:OM c h b w N A g) (hi:N[i]? = some ni) (hj:N[j]? = some nj) (hm:g m = none) (h1:F m = some (gI c (gJ w (B i)))) (h2:F b = some (.row 1 (qO w ((N.set j ni).set i m)))) (h3:∀ q,¬ q = m→¬ q = b→F q = g q) (hB:∀ k,¬ k = i→∀ q,q < w→B k q = if k = j then A i q else A k q):OM c h b w ((N.set j ni).set i m) B F:=by
 obtain ⟨f1,f2,f3⟩:=H.free hm
 have hil:=(List.getElem?_eq_some_iff.1 hi).1
 have hjl:=(List.getElem?_eq_some_iff.1 hj).1
 have hsw:(N.set j ni).set i m = ((N.set i nj).set j ni).set i m:=by
  apply List.ext_getElem
  ·simp
  ·intro k q1 q2
   simp only [List.getElem_set]
   split
   ·rfl
   ·split <;> rfl
 have hnd:=aHI H.nodup hi hj
 have hmem:∀ x,x∈((N.set i nj).set j ni).set i m→x∈N∨x = m:=fun x hx=>by
  rcases List.mem_or_eq_of_mem_set hx with hx | rfl
  ·rcases List.mem_or_eq_of_mem_set hx with hx | rfl
   ·rcases List.mem_or_eq_of_mem_set hx with hx | rfl
    ·exact .inl hx
    ·exact .inl (List.mem_of_getElem? hj)
   ·exact .inl (List.mem_of_getElem? hi)
  ·exact .inr rfl
 have hmN:m ∉ (N.set i nj).set j ni:=fun hx=>by
  rcases List.mem_or_eq_of_mem_set hx with hx | e
  ·rcases List.mem_or_eq_of_mem_set hx with hx | e
   ·exact f2 hx
   ·exact f2 (e ▸ List.mem_of_getElem? hj)
  ·exact f2 (e ▸ List.mem_of_getElem? hi)
 rw [hsw] at h2 ⊢
 refine ⟨?_,fun x hx=>?_,fun k x hk=>?_,h2,fun q o hq=>?_,H.bn⟩
 ·exact aTL hnd hmN i
 ·rcases hmem x hx with hx | rfl
  ·exact H.out x hx
  ·exact ⟨f1,f3⟩
 ·by_cases e:k = i
  ·subst e
   rw [List.getElem?_set_self (by simpa using hil)] at hk
   cases hk
   exact h1
  ·rw [List.getElem?_set_ne (Ne.symm e)] at hk
   have hxm:¬ x = m:=fun q=>hmN (q ▸ List.mem_of_getElem? hk)
   have hxN:x∈N:=by
    rcases hmem x (List.mem_of_getElem? (by rw [List.getElem?_set_ne (Ne.symm e)];exact hk)) with q | q
    ·exact q
    ·exact absurd q hxm
   rw [h3 x hxm (H.out x hxN).1]
   by_cases e2:k = j
   ·subst e2
    rw [List.getElem?_set_self (by simpa using hjl)] at hk
    cases hk
    rw [H.get i _ hi]
    exact congrArg (fun r=>some (gI c r)) (dB fun q hq=>by rw [hB k e q hq,if_pos rfl])
   ·rw [List.getElem?_set_ne (Ne.symm e2),List.getElem?_set_ne (Ne.symm e)] at hk
    rw [H.get k _ hk]
    exact congrArg (fun r=>some (gI c r)) (dB fun q hq=>by rw [hB k e q hq,if_neg e2])
 ·rw [h3 q (fun e=>by rw [e,f3] at hq;cases hq) (fun e=>by rw [e,H.bn] at hq;cases hq)]
  exact H.keep q o hq
theorem aTM (a:List Int) (m:Int) (hm:fP m) (hl:a.length≤1048576) (ha:hH a):rN Tryz.prog 131 [ints a,I m] (QS (OS (oP I) 1 (gS a m))):=by
 have hc:=oX a m
 refine pI 24 aBM aQ7 bC mix Tryz.func131 rfl (by kernel_rfl) (by simp) fun h=>?_
 simp -dsimp -implicitDefEqProofs only [go_sem,↓reduceIte,Tryz.f131]
 refine ⟨Nat.zero_lt_one,?_⟩
 refine bQ (keep:=aBM) (ib:=aQ7) (mk:=bC) mix (by kernel_rfl) (fun x:Nat × Option Nat=>[(0,ints a),(1,I m),(5,eU 1 ((gS a m).take x.1).length x.2),(6,I x.1)]) (fun x=>gB h (.row 1 ((((gS a m).take x.1).map fun n=>[I n]).map (List.map .v))) x.2) (fun x=>x.1≤a.length∧eF h ((gS a m).take x.1) x.2) (fun x=>a.length - x.1) (0,none) ⟨by simp [bU,bF,eU],by simp only [aP];exact aA.le_refl _,Nat.zero_le _,by simp [eF]⟩ ?_
 rintro ⟨k,o⟩ ⟨hk,hos⟩
 simp only at hk hos ⊢
 rcases Nat.lt_or_ge k a.length with hlt | hge
 ·have ea:a[k]? = some a[k]:=List.getElem?_eq_getElem hlt
  have hy:(gS a m).take (k + 1) = (gS a m).take k ++ [(gS a m)[k]'(by omega)]:=List.take_succ_eq_append_getElem (by omega)
  have hv:(gS a m)[k]'(by omega) = a[k] * m % 1000003:=by simp [gS]
  have hlk:((gS a m).take k).length = k:=by rw [List.length_take];omega
  rw [hv] at hy
  cases o with
  |none =>
   rw [a6] at hos
   rw [hos] at hy ⊢
   simp -dsimp -implicitDefEqProofs only [go_sem,↓reduceIte,Tryz.f131,a8,aP,hlt,ea]
   intro _
   first | refine aG.mk (aV a[k] m (ha _ (List.getElem_mem hlt)) hm) ?_ | refine aD.mk (aV a[k] m (ha _ (List.getElem_mem hlt)) hm) ?_ | refine aG.a5 (aV a[k] m (ha _ (List.getElem_mem hlt)) hm) ?_ | refine aD.mk (aX.cD (aV a[k] m (ha _ (List.getElem_mem hlt)) hm)) ?_
   simp -dsimp -implicitDefEqProofs only [go_sem,↓reduceIte,Tryz.f131]
   repeat' (with_reducible first | intro _ | refine And.intro ?_ ?_)
   all_goals try (first | omega | decide)
   rename_i b hb
   refine ⟨(k + 1,some b),?_⟩
   simp only [hy]
   refine ⟨⟨rfl,?_⟩,aA.le_refl _,⟨by omega,hb⟩,by omega⟩
   rw [IntWalk.i64_in _ (by omega)];rfl
  |some n =>
   rw [aU] at hos
   simp -dsimp -implicitDefEqProofs only [go_sem,↓reduceIte,Tryz.f131,aT,aK,hlt,ea]
   intro _
   first | refine aG.mk (aV a[k] m (ha _ (List.getElem_mem hlt)) hm) ?_ | refine aD.mk (aV a[k] m (ha _ (List.getElem_mem hlt)) hm) ?_ | refine aG.a5 (aV a[k] m (ha _ (List.getElem_mem hlt)) hm) ?_ | refine aD.mk (aX.cD (aV a[k] m (ha _ (List.getElem_mem hlt)) hm)) ?_
   simp -dsimp -implicitDefEqProofs only [go_sem,↓reduceIte,Tryz.f131]
   repeat' (with_reducible first | intro _ | refine And.intro ?_ ?_)
   all_goals try (first | omega | decide | exact Nat.le_refl _)
   rename_i b hb
   refine ⟨(k + 1,some b),?_⟩
   simp only [hy,aK,aT,aU]
   refine ⟨⟨by rw [List.length_append];rfl,?_⟩,?_,⟨by omega,hb.2⟩,by omega⟩
   ·rw [IntWalk.i64_in _ (by omega)];rfl
   ·rw [← dQ];exact iX hos
 ·have hk':k = a.length:=by omega
  subst hk'
  rw [List.take_of_length_le (by omega)] at hos ⊢
  simp -dsimp -implicitDefEqProofs only [go_sem,↓reduceIte,Tryz.f131,Nat.lt_irrefl,Int.lt_irrefl]
  intro _
  obtain ⟨y,hy,hv,hw⟩:=grown (c:=I) (sz:=1) hos
  exact ⟨_,_,_,aZ _ _,⟨y,hy,hv.symm,rfl⟩,hw⟩
@[go_sem] def aA4:List Nat:=[0,1,4,5,6,7,8,9,10,11,12,18,37,48,75,80,101]
@[go_sem] def aTN:List Nat:=[31,97,113]
@[go_sem] def aTO:Marks:=fun id=>match id with | 5=>([5,11,13],(.op 0 (.op 1 (.op 2 (.op 3 (.op 4 (.op 6 (.op 7 (.op 8 (.op 9 (.op 10 (.op 5 (.op 11 (.op 12 (.op 13 .nil)))))))))))))),[]) | 19=>([3,7,11,14,15],(.op 0 (.op 1 (.op 2 (.op 4 (.op 5 (.op 6 (.op 8 (.op 9 (.op 10 (.op 12 (.op 3 (.op 7 (.op 11 (.op 13 (.op 14 (.op 15 .nil)))))))))))))))),[]) | _=>([],.nil,[])
set_option maxHeartbeats 4000000 in
theorem aXG {n:Nat} (hn:1≤n∧n≤12) {L:List (List Int)} {rest:List Int} (hL:L.length = n) (hLw:∀ i,i < n→(L.getD i []).length = n) (hLn:∀ i,i < n→hH (L.getD i [])) (hrl:rest.length = n) (hrn:hH rest) {A0:Nat→Nat→Int} (a0V:pD dW n (gV n (fun i k=>(L.getD i []).getD k 0) fun i=>rest.getD i 0) n = some A0):dI Tryz.prog 91 [bB L,ints rest] (ints (gJ n fun i=>A0 i n)):=by
 refine j7 116 aA4 aTN aTO mix Tryz.func91 rfl (by kernel_rfl) (by simp) fun h=>?_
 simp -dsimp -implicitDefEqProofs only [go_sem,↓reduceIte,Tryz.f91]
 refine aG.gQ (aR6 (by omega) (by omega) hL hLw h) ?_
 rintro r g ⟨b,N,rfl,hN,H0⟩
 obtain ⟨M,hM⟩:∃ M:Nat→Nat→Int,M = gV n (fun i k=>(L.getD i []).getD k 0) fun i=>rest.getD i 0:=⟨_,rfl⟩
 have hMn:okM fP n M:=fun i hi k hk=>by
  rw [hM];unfold gV
  split
  ·exact (hLn i hi).get k
  ·exact hrn.get i
 have hrow:∀ i,i < n→gJ n (fun k=>(L.getD i []).getD k 0) ++ [rest.getD i 0] = gJ (n + 1) (M i):=fun i hi=>by
  rw [hM,gJ,gJ,List.range_succ,List.map_append]
  congr 1
  ·exact List.map_congr_left fun k hk=>by rw [gV,if_pos (List.mem_range.1 hk)]
  ·simp [gV]
 rw [← hM] at a0V
 have HW:=H0.toW hN
 clear H0
 simp -dsimp -implicitDefEqProofs only [go_sem,↓reduceIte,Tryz.f91]
 refine bQ (keep:=aA4) (ib:=aTN) (mk:=aTO) mix (by kernel_rfl) (fun x:Nat × (Nat→Nat) × (Nat→List Int) × aA=>[(1,ints rest),(5,.os b 1 0 n),(6,I x.1)]) (fun x=>x.2.2.2) (fun x=>x.1≤n∧(∀ i,i < n→x.2.2.1 i = if i < x.1 then gJ (n + 1) (M i) else gJ n fun k=>(L.getD i []).getD k 0)∧OMW I h b n x.2.1 x.2.2.1 x.2.2.2) (fun x=>n - x.1) (0,_,_,g) ⟨by simp [bU,bF],aA.le_refl _,Nat.zero_le _,(fun i hi=>by simp only [Nat.not_lt_zero,if_false];rfl),HW⟩ ?_
 clear HW
 rintro ⟨k,P,R,g⟩ ⟨hk,hR,HW⟩
 simp only at hk hR HW ⊢
 have hgb:=HW.bk
 rcases Nat.lt_or_ge k n with hlt | hge
 ·have hRk:=hR k hlt
  rw [if_neg (Nat.lt_irrefl k)] at hRk
  have hgk:=HW.get k hlt
  have ek:(gJ n fun i=>[Cell.v (.os (P i) 1 0 (R i).length)])[k]? = some [Cell.v (.os (P k) 1 0 n)]:=by rw [e8 _ hlt,hRk,bX]
  have erk:=b9 (l:=rest) (i:=k) (by omega)
  simp -dsimp -implicitDefEqProofs only [go_sem,↓reduceIte,Tryz.f91,hlt,hgb,ek,bX,erk,hrl,hgk,gI,hRk]
  have hgr:List.take n (((gJ n fun k_1=>(L.getD k []).getD k_1 0).map fun n=>[I n]).map (List.map Cell.v)) ++ [[Cell.v (I (rest.getD k 0))]] = ((gJ (n + 1) (M k)).map fun n=>[I n]).map (List.map .v):=by rw [← hrow k hlt,← dQ I,bX]
  refine fun _=>⟨by decide,by decide,by decide,Nat.le_refl _,by omega,by omega,fun m zm=>?_⟩
  have j5:¬ m = b:=fun e=>by rw [e,hgb] at zm;cases zm
  have gU:¬ b = m:=Ne.symm j5
  have k6:(m = b) = False:=eq_false j5
  have k5:(b = m) = False:=eq_false gU
  have hPb:=(HW.out k hlt).1
  have eP1:(P k = b) = False:=eq_false hPb
  have eP2:(b = P k) = False:=eq_false (Ne.symm hPb)
  rw [hgr]
  simp -dsimp -implicitDefEqProofs only [go_sem,↓reduceIte,Tryz.f91,k6,k5,eP1,eP2,aF,hgb,ek,bX]
  generalize hF:a7 (a7 (a7 g (P k) bH.gone) m _) b _ = F
  have HF:=HW.put (F:=F) hlt zm (gJ (n + 1) (M k)) (by rw [← hF,aF _ _ _ _ j5,aH];rfl) (by rw [← hF,aH,bX]) fun q q1 q2 q3 o ho=>by rw [← hF,aF _ _ _ _ q2,aF _ _ _ _ q1,aF _ _ _ _ q3];exact ho
  exact ⟨(k + 1,(fun j=>if j = k then m else P j),(fun j=>if j = k then gJ (n + 1) (M k) else R j),F),IntWalk.i64_in _ (by omega),aA.le_refl _,⟨hlt,fun i hi=>by
   by_cases e:i = k
   ·simp only [if_pos e];rw [if_pos (by omega),e]
   ·simp only [if_neg e]
    rw [hR i hi]
    by_cases e2:i < k
    ·rw [if_pos e2,if_pos (by omega)]
    ·rw [if_neg e2,if_neg (by omega)],HF⟩,by simp only;omega⟩
 ·obtain rfl:k = n:=by omega
  have H:=HW.toM (w:=k + 1) (A:=M) fun i hi=>by rw [hR i hi,if_pos hi]
  have hN2:(gJ k P).length = k:=bX _ _
  generalize gJ k P = N at H hN2
  clear HW hR hgb hge
  simp -dsimp -implicitDefEqProofs only [go_sem,↓reduceIte,Tryz.f91,Nat.lt_irrefl,Int.lt_irrefl]
  intro _
  refine bQ (keep:=aA4) (ib:=aTN) (mk:=aTO) mix (by kernel_rfl) (fun x:Nat × (Nat→Nat→Int) × List Nat × aA=>[(5,.os b 1 0 k),(7,I x.1)]) (fun x=>x.2.2.2) (fun x=>x.1≤k∧x.2.2.1.length = k∧pD dW k M x.1 = some x.2.1∧okM fP k x.2.1∧OM I h b (k + 1) x.2.2.1 x.2.1 x.2.2.2) (fun x=>k - x.1) (0,M,N,g) ⟨by simp [bU,bF],aA.le_refl _,Nat.zero_le _,hN2,rfl,hMn,H⟩ ?_
  clear H hN2
  rintro ⟨c,A,N,g⟩ ⟨hc,hN,hgj,hA,H⟩
  simp only at hc hN hgj hA H ⊢
  have hgb:=H.bk
  rcases Nat.lt_or_ge c k with hlt | hge
  ·have hne:¬ oK dW.z A c k (k - c) = k:=fun e=>by rw [aMU hlt hgj e] at a0V;cases a0V
   simp -dsimp -implicitDefEqProofs only [go_sem,↓reduceIte,Tryz.f91,hlt,hgb,cV,hN]
   intro _
   refine jM (keep:=aA4) (ib:=aTN) (mk:=aTO) mix (by kernel_rfl) (fun r:Nat=>[(5,.os b 1 0 k),(7,I c),(8,I r)]) (fun r=>r < k∧c≤r∧oK dW.z A c k (k - r) = oK dW.z A c k (k - c)) (fun r=>k - r) c ⟨by simp [bU,bF],hlt,Nat.le_refl _,rfl⟩ ?_
   rintro r ⟨hrk,hcr,hpv⟩
   obtain ⟨nr,hnr⟩:∃ nr,N[r]? = some nr:=⟨_,List.getElem?_eq_getElem (by omega)⟩
   obtain ⟨nc,hnc⟩:∃ nc,N[c]? = some nc:=⟨_,List.getElem?_eq_getElem (by omega)⟩
   have hpr:oK dW.z A c k (k - r) = if dW.z (A r c) = true then oK dW.z A c k (k - (r + 1)) else r:=by
    rw [show k - r = (k - (r + 1)) + 1 by omega,oK,show k - (k - (r + 1) + 1) = r by omega]
   have hgr:=H.get r nr hnr
   have hArc:=hA r hrk c (by omega)
   have aA3:¬ nr = b:=(H.out nr (List.mem_of_getElem? hnr)).1
   have aPC:¬ b = nr:=Ne.symm aA3
   have aFL:(nr = b) = False:=eq_false aA3
   have aFM:(b = nr) = False:=eq_false aPC
   simp -dsimp -implicitDefEqProofs only [go_sem,↓reduceIte,Tryz.f91,hrk,hgb,cH hnr,cV,hN,hgr,gI,bX,e8 (A r) (show c < k + 1 by omega),cH hnc,vV,List.length_set,hlt,aFL,aFM,aF]
   refine ⟨fun q=>⟨r + 1,IntWalk.i64_in _ (by omega),?_,by omega⟩,fun q=>?_⟩
   ·rw [hpr,if_pos (show dW.z (A r c) = true from decide_eq_true q)] at hpv
    refine ⟨?_,by omega,hpv⟩
    rcases Nat.lt_or_ge (r + 1) k with h1 | h1
    ·exact h1
    ·rw [show k - (r + 1) = 0 by omega,oK] at hpv
     exact absurd hpv.symm hne
   rw [hpr,if_neg (show ¬ dW.z (A r c) = true from fun e=>q (of_decide_eq_true e))] at hpv
   have hgo:=aXD hgj hrk hpv.symm
   have hB:okM fP k (lE A c r):=aO2 hlt hrk hA
   have hcc:lE A c r c c = A r c:=by rw [lE,if_pos rfl]
   first | refine aG.mk (mD (A r c)) ?_ | refine aD.mk (mD (A r c)) ?_ | refine aG.a5 (mD (A r c)) ?_ | refine aD.mk (aX.cD (mD (A r c))) ?_
   simp -dsimp -implicitDefEqProofs only [go_sem,↓reduceIte,Tryz.f91,hrk,hgb,cH hnr,cV,hN,hgr,gI,bX,e8 (A r) (show c < k + 1 by omega),cH hnc,vV,List.length_set,hlt,aFL,aFM,aF]
   have hsn:hH (gJ (k + 1) (A r)):=fun x hx=>by
    obtain ⟨q,hq,rfl⟩:=List.mem_map.1 hx
    have:=List.mem_range.1 hq
    exact hA r hrk q (by omega)
   have hsc:=aTM (gJ (k + 1) (A r)) (gG (A r c)) (num_inv _) (by rw [bX];omega) hsn
   have hse:gS (gJ (k + 1) (A r)) (gG (A r c)) = gJ (k + 1) fun q=>dW.dv (lE A c r c q) (lE A c r c c):=by
    rw [gS,gJ,List.map_map]
    exact List.map_congr_left fun q _=>by simp [lE,dW]
   rw [hse] at hsc
   refine aG.wl0 hsc (eD.cons (aW9 (bX _ _).symm (by rw [aF _ _ _ _ aA3];exact hgr)) (eD.cons (View.same _ _) eD.nil)) (QS.fI (fun y hy=>OS.sol (fun _ _ q=>aN4 (fun _=>rfl) q) hy) fun _ h=>h) ?_
   rintro r_ l_ g' ⟨y_,oy_,rfl,rfl⟩ zO
   rcases oy_.vL with ⟨_,q_⟩ | ⟨ns,rfl⟩
   ·have:=congrArg List.length q_;rw [bX] at this;simp at this
   rw [OV.iQ]
   rw [OV.cK,fW,eS] at zO
   obtain ⟨zns,rfl⟩:=zO.pE
   have aJY:¬ ns = b:=fun e=>by rw [e,aH] at zns;cases zns
   have a6B:¬ b = ns:=Ne.symm aJY
   have a6C:(ns = b) = False:=eq_false aJY
   have a6D:(b = ns) = False:=eq_false a6B
   rw [aF _ _ _ _ aJY] at zns
   have hx1:(N.set r nc)[c]? = some nc:=by
    by_cases e:r = c
    ·rw [e,List.getElem?_set_self (by omega)]
    ·rw [List.getElem?_set_ne e];exact hnc
   simp -dsimp -implicitDefEqProofs only [go_sem,↓reduceIte,Tryz.f91,a6C,a6D,aF,cV,List.length_set,hN,hlt,bX,vV,cH hx1]
   generalize hB':lE A c r = B at *
   generalize hD:(fun q=>dW.dv (B c q) (B c c)) = D at *
   have hDn:∀ q,q < k + 1→fP (D q):=fun q _=>by rw [← hD];exact c7 _
   have hz:¬ B c c = 0:=by rw [hcc];exact q
   generalize hF:a7 (a7 (a7 g b _) ns _) b _ = F
   have HF:=H.bBX (F:=F) (B:=fun i q=>if i = c then D q else B i q) hnc hnr zns (by rw [← hF,aF _ _ _ _ aJY,aH];exact congrArg (fun r=>some (gI I r)) (dB fun q _=>(if_pos rfl).symm)) (by rw [← hF,aH]) (fun q q1 q2=>by rw [← hF,aF _ _ _ _ q2,aF _ _ _ _ q1,aF _ _ _ _ q2]) fun i hi q _=>by rw [if_neg hi,← hB',lE,if_neg hi];by_cases e:i = r <;> simp [e]
   have hN2:((N.set r nc).set c ns).length = k:=by simp [hN]
   generalize (N.set r nc).set c ns = N2 at HF hN2
   clear hF zns hx1 H hgb hgr hnr hnc hpr hpv
   refine bQ (keep:=aA4) (ib:=aTN) (mk:=aTO) mix (by kernel_rfl) (fun x:Nat × aA=>[(5,.os b 1 0 k),(7,I c),(10,I x.1)]) (fun x=>x.2) (fun x=>x.1≤k∧OM I h b (k + 1) N2 (fun i q=>if i = c then D q else if i < x.1 then dW.tk (B i q) (B i c) (D q) else B i q) x.2) (fun x=>k - x.1) (0,F) ⟨by simp [bU,bF],aA.le_refl _,Nat.zero_le _,HF.congr fun i _ q _=>by simp⟩ ?_
   rintro ⟨i,G⟩ ⟨hi,H⟩
   simp only at hi H ⊢
   have hgb:=H.bk
   rcases Nat.lt_or_ge i k with jO | aAP
   ·obtain ⟨ni,hni⟩:∃ ni,N2[i]? = some ni:=⟨_,List.getElem?_eq_getElem (by omega)⟩
    obtain ⟨nc,hnc⟩:∃ nc,N2[c]? = some nc:=⟨_,List.getElem?_eq_getElem (by omega)⟩
    have hgc:G nc = some (gI I (gJ (k + 1) D)):=by
     rw [H.get c nc hnc]
     exact congrArg (fun r=>some (gI I r)) (dB fun q _=>if_pos rfl)
    by_cases hic:i = c
    ·have HC:OM I h b (k + 1) N2 (fun i' q=>if i' = c then D q else if i' < i + 1 then dW.tk (B i' q) (B i' c) (D q) else B i' q) G:=H.congr fun i' _ q _=>by
      by_cases e:i' = c
      ·rw [if_pos e,if_pos e]
      ·rw [if_neg e,if_neg e]
       by_cases e2:i' < i
       ·rw [if_pos e2,if_pos (by omega)]
       ·rw [if_neg e2,if_neg (by omega)]
     simp -dsimp -implicitDefEqProofs only [go_sem,↓reduceIte,Tryz.f91,jO,hgb,cV,hN2]
     refine fun _=>⟨fun q=>absurd (by omega) q,fun _=>⟨(i + 1,G),IntWalk.i64_in _ (by omega),aA.le_refl _,⟨jO,HC⟩,by simp only;omega⟩⟩
    ·have hgi:G ni = some (gI I (gJ (k + 1) (B i))):=by
      rw [H.get i ni hni]
      exact congrArg (fun r=>some (gI I r)) (dB fun q _=>by rw [if_neg hic,if_neg (Nat.lt_irrefl i)])
     simp -dsimp -implicitDefEqProofs only [go_sem,↓reduceIte,Tryz.f91,jO,hgb,cH hni,cH hnc,cV,hN2,hgi,hgc,gI,bX,e8 (B i) (show c < k + 1 by omega)]
     refine fun _=>⟨fun _=>⟨hlt,by omega,?_⟩,fun q=>absurd q hic⟩
     refine aG.gQ (aMX (by omega) (fun q hq=>hB i jO q (Nat.le_of_lt_succ hq)) (fun q hq=>hDn q hq) (hB i jO c (by omega)) hgi hgc (H.apart hni hnc hic)) ?_
     rintro r_ h' rfl
     have HF:=H.set (B:=fun i' q=>if i' = c then D q else if i' < i + 1 then dW.tk (B i' q) (B i' c) (D q) else B i' q) hni fun i' hi' q _=>by
      by_cases e:i' = c
      ·rw [if_pos e,if_pos e]
      ·rw [if_neg e,if_neg e]
       by_cases e2:i' < i
       ·rw [if_pos e2,if_pos (by omega)]
       ·rw [if_neg e2,if_neg (by omega)]
     have hrf:gJ (k + 1) ((fun i' q=>if i' = c then D q else if i' < i + 1 then dW.tk (B i' q) (B i' c) (D q) else B i' q) i) = gJ (k + 1) fun q=>dW.tk (B i q) (B i c) (D q):=dB fun q _=>by simp [hic]
     rw [hrf] at HF
     simp -dsimp -implicitDefEqProofs only [go_sem,↓reduceIte,Tryz.f91]
     exact ⟨(i + 1,a7 G ni (gI I (gJ (k + 1) fun q=>dW.tk (B i q) (B i c) (D q)))),IntWalk.i64_in _ (by omega),aA.le_refl _,⟨jO,HF⟩,by simp only;omega⟩
   ·obtain rfl:i = k:=by omega
    simp -dsimp -implicitDefEqProofs only [go_sem,↓reduceIte,Tryz.f91,Nat.lt_irrefl,Int.lt_irrefl,hgb,cV,hN2]
    refine fun _=>⟨(c + 1,uU dW B c,N2,G),IntWalk.i64_in _ (by omega),aA.le_refl _,⟨hlt,hN2,hgo,aO3 aJM hlt hB (decide_eq_false hz),H.congr fun i' hi' q _=>?_⟩,by simp only;omega⟩
    rw [hN2] at hi'
    show uU dW B c i' q = _
    unfold uU
    by_cases e:i' = c
    ·rw [if_pos e,if_pos e,← hD]
    ·rw [if_neg e,if_neg e,if_pos hi',← hD]
  ·obtain rfl:c = k:=by omega
   simp -dsimp -implicitDefEqProofs only [go_sem,↓reduceIte,Tryz.f91,Nat.lt_irrefl,Int.lt_irrefl,hgb,cV,hN]
   intro _
   obtain rfl:A = A0:=Option.some.inj (hgj.symm.trans a0V)
   have hxl:(gJ c fun i=>A i c).length = c:=bX _ _
   refine ⟨by decide,?_⟩
   refine bQ (keep:=aA4) (ib:=aTN) (mk:=aTO) mix (by kernel_rfl) (fun x:Nat × Option Nat=>[(5,.os b 1 0 c),(11,eU 1 ((gJ c fun i=>A i c).take x.1).length x.2),(12,I x.1)]) (fun x=>gB g (.row 1 ((((gJ c fun i=>A i c).take x.1).map fun n=>[I n]).map (List.map .v))) x.2) (fun x=>x.1≤c∧eF g ((gJ c fun i=>A i c).take x.1) x.2) (fun x=>c - x.1) (0,none) ⟨by simp [bU,bF,eU],by simp only [aP];exact aA.le_refl _,Nat.zero_le _,by simp [eF]⟩ ?_
   rintro ⟨k,o⟩ ⟨hk,hos⟩
   simp only at hk hos ⊢
   rcases Nat.lt_or_ge k c with hlt | hge
   ·obtain ⟨nk,hnk⟩:∃ nk,N[k]? = some nk:=⟨_,List.getElem?_eq_getElem (by omega)⟩
    have hgk:=H.get k nk hnk
    have hy:(gJ c fun i=>A i c).take (k + 1) = (gJ c fun i=>A i c).take k ++ [A k c]:=by
     rw [List.take_succ_eq_append_getElem (by omega)];simp [gJ]
    have hlk:((gJ c fun i=>A i c).take k).length = k:=by rw [List.length_take];omega
    cases o with
    |none =>
     rw [a6] at hos
     rw [hos] at hy ⊢
     simp -dsimp -implicitDefEqProofs only [go_sem,↓reduceIte,Tryz.f91,a8,aP,hlt,hgb,cH hnk,cV,hN,hgk,gI,bX,e8 (A k) (Nat.lt_succ_self c)]
     intro _
     repeat' (with_reducible first | intro _ | refine And.intro ?_ ?_)
     all_goals try (first | omega | decide)
     rename_i b hb
     refine ⟨(k + 1,some b),?_⟩
     simp only [hy]
     refine ⟨⟨rfl,?_⟩,aA.le_refl _,⟨by omega,hb⟩,by omega⟩
     rw [IntWalk.i64_in _ (by omega)];rfl
    |some m =>
     rw [aU] at hos
     have j5:¬ m = b:=fun e=>by rw [e,hgb] at hos;cases hos
     have gU:¬ b = m:=Ne.symm j5
     have k6:(m = b) = False:=eq_false j5
     have k5:(b = m) = False:=eq_false gU
     have aJX:¬ m = nk:=fun e=>by rw [e,hgk] at hos;cases hos
     have aJW:¬ nk = m:=Ne.symm aJX
     have aPB:(m = nk) = False:=eq_false aJX
     have aPA:(nk = m) = False:=eq_false aJW
     simp -dsimp -implicitDefEqProofs only [go_sem,↓reduceIte,Tryz.f91,aT,aK,hlt,hgb,cH hnk,cV,hN,hgk,gI,bX,e8 (A k) (Nat.lt_succ_self c),k6,k5,aPB,aPA,aF]
     intro _
     repeat' (with_reducible first | intro _ | refine And.intro ?_ ?_)
     all_goals try (first | omega | decide | exact Nat.le_refl _)
     rename_i b hb
     refine ⟨(k + 1,some b),?_⟩
     simp only [hy,aK,aT,aU]
     refine ⟨⟨by rw [List.length_append];rfl,?_⟩,?_,⟨by omega,hb.2⟩,by omega⟩
     ·rw [IntWalk.i64_in _ (by omega)];rfl
     ·rw [← dQ];exact iX hos
   ·have hk':k = c:=by omega
    subst hk'
    rw [List.take_of_length_le (by omega)] at hos ⊢
    cases o with
    |none =>
     rw [a6] at hos
     simp -dsimp -implicitDefEqProofs only [go_sem,↓reduceIte,Tryz.f91,a8,aP,Nat.lt_irrefl,Int.lt_irrefl]
     rw [hos]
     exact fun _=>Shift.of (Sub.loose _ _ _) H.le
    |some m =>
     rw [aU] at hos
     simp -dsimp -implicitDefEqProofs only [go_sem,↓reduceIte,Tryz.f91,aT,aK,Nat.lt_irrefl,Int.lt_irrefl]
     refine fun _=>Shift.trans (fH ((gJ k fun i=>A i k).map fun n=>[I n]) hos (aA.le_refl _) (by simp [dF,dG]) ?_) (cG H.le)
     simp [aC.cR,iF,List.take_of_length_le]
@[go_sem] def bBY:List Nat:=[5,19]
theorem l9 {n sz:Nat} {L:List (List Int)} (hL:c5 sz n L) (hn:n≤1048576) (hsz:1≤sz):dI Tryz.prog 70 [bB L] (ints (L.map fun s=>s.getD 0 0)):=by
 have hll:=hL.1
 refine j7 22 aGZ bBY bC mix Tryz.func70 rfl (by kernel_rfl) (by simp) fun h=>?_
 simp -dsimp -implicitDefEqProofs only [go_sem,↓reduceIte,Tryz.f70]
 refine ⟨Nat.zero_lt_one,?_⟩
 have hcl:(L.map fun s=>s.getD 0 0).length = L.length:=List.length_map _
 refine bQ (keep:=aGZ) (ib:=bBY) (mk:=bC) mix (by kernel_rfl) (fun x:Nat × Option Nat=>[(0,bB L),(3,eU 1 ((L.map fun s=>s.getD 0 0).take x.1).length x.2),(4,I x.1)]) (fun x=>gB h (.row 1 ((((L.map fun s=>s.getD 0 0).take x.1).map fun n=>[I n]).map (List.map .v))) x.2) (fun x=>x.1≤L.length∧eF h ((L.map fun s=>s.getD 0 0).take x.1) x.2) (fun x=>L.length - x.1) (0,none) ⟨by simp [bU,bF,eU],by simp only [aP];exact aA.le_refl _,Nat.zero_le _,by simp [eF]⟩ ?_
 rintro ⟨k,o⟩ ⟨hk,hos⟩
 simp only at hk hos ⊢
 rcases Nat.lt_or_ge k L.length with hlt | hge
 ·have ea:L[k]? = some L[k]:=List.getElem?_eq_getElem hlt
  have h0:=hL.2 _ (List.getElem_mem hlt)
  have e0:(L[k])[Int.toNat 0]? = some (L[k].getD 0 0):=b9 (by rw [h0.1];exact hsz)
  have h0l:=h0.1
  have hy:(L.map fun s=>s.getD 0 0).take (k + 1) = (L.map fun s=>s.getD 0 0).take k ++ [(L.map fun s=>s.getD 0 0)[k]'(by omega)]:=List.take_succ_eq_append_getElem (by omega)
  have hlk:((L.map fun s=>s.getD 0 0).take k).length = k:=by rw [List.length_take];omega
  rw [List.getElem_map] at hy
  cases o with
  |none =>
   rw [a6] at hos
   rw [hos] at hy ⊢
   simp -dsimp -implicitDefEqProofs only [go_sem,↓reduceIte,Tryz.f70,a8,aP,hlt,ea,e0]
   repeat' (with_reducible first | intro _ | refine And.intro ?_ ?_)
   all_goals try (first | omega | decide)
   rename_i b hb
   refine ⟨(k + 1,some b),?_⟩
   simp only [hy]
   refine ⟨⟨rfl,?_⟩,aA.le_refl _,⟨by omega,hb⟩,by omega⟩
   rw [IntWalk.i64_in _ (by omega)];rfl
  |some n =>
   rw [aU] at hos
   simp -dsimp -implicitDefEqProofs only [go_sem,↓reduceIte,Tryz.f70,aT,aK,hlt,ea,e0]
   repeat' (with_reducible first | intro _ | refine And.intro ?_ ?_)
   all_goals try (first | omega | decide | exact Nat.le_refl _)
   rename_i b hb
   refine ⟨(k + 1,some b),?_⟩
   simp only [hy,aK,aT,aU]
   refine ⟨⟨by rw [List.length_append];rfl,?_⟩,?_,⟨by omega,hb.2⟩,by omega⟩
   ·rw [IntWalk.i64_in _ (by omega)];rfl
   ·rw [← dQ];exact iX hos
 ·have hk':k = L.length:=by omega
  subst hk'
  rw [List.take_of_length_le (by omega)] at hos ⊢
  cases o with
  |none =>
   rw [a6] at hos
   simp -dsimp -implicitDefEqProofs only [go_sem,↓reduceIte,Tryz.f70,a8,aP,Nat.lt_irrefl,Int.lt_irrefl]
   rw [hos]
   exact fun _=>Shift.of (Sub.loose _ _ _) (aA.le_refl _)
  |some n =>
   rw [aU] at hos
   simp -dsimp -implicitDefEqProofs only [go_sem,↓reduceIte,Tryz.f70,aT,aK,Nat.lt_irrefl,Int.lt_irrefl]
   exact fun _=>fS _ hos (aA.le_refl _) hcl.symm
@[go_sem] def bBZ:List Nat:=[5,18]
theorem aBV {n sz:Nat} {A:List (List (List Int))} (hA:∀ L∈A,c5 sz n L) (hal:A.length≤1048576) (hn:n≤1048576) (hsz:1≤sz):dI Tryz.prog 73 [j2 A] (bB (A.map fun L=>L.map fun s=>s.getD 0 0)):=by
 refine j7 21 aGZ bBZ bC mix Tryz.func73 rfl (by kernel_rfl) (by simp) fun h=>?_
 simp -dsimp -implicitDefEqProofs only [go_sem,↓reduceIte,Tryz.f73]
 refine ⟨Nat.zero_lt_one,?_⟩
 have hcl:(A.map fun L=>L.map fun s=>s.getD 0 0).length = A.length:=List.length_map _
 refine bQ (keep:=aGZ) (ib:=bBZ) (mk:=bC) mix (by kernel_rfl) (fun x:Nat × Option Nat=>[(0,j2 A),(3,eU 1 ((A.map fun L=>L.map fun s=>s.getD 0 0).take x.1).length x.2),(4,I x.1)]) (fun x=>gB h (.row 1 ((((A.map fun L=>L.map fun s=>s.getD 0 0).take x.1).map fun n=>[ints n]).map (List.map .v))) x.2) (fun x=>x.1≤A.length∧eF h ((A.map fun L=>L.map fun s=>s.getD 0 0).take x.1) x.2) (fun x=>A.length - x.1) (0,none) ⟨by simp [bU,bF,eU],by simp only [aP];exact aA.le_refl _,Nat.zero_le _,by simp [eF]⟩ ?_
 rintro ⟨k,o⟩ ⟨hk,hos⟩
 simp only at hk hos ⊢
 rcases Nat.lt_or_ge k A.length with hlt | hge
 ·have ea:A[k]? = some A[k]:=List.getElem?_eq_getElem hlt
  have hy:(A.map fun L=>L.map fun s=>s.getD 0 0).take (k + 1) = (A.map fun L=>L.map fun s=>s.getD 0 0).take k ++ [(A.map fun L=>L.map fun s=>s.getD 0 0)[k]'(by omega)]:=List.take_succ_eq_append_getElem (by omega)
  have hlk:((A.map fun L=>L.map fun s=>s.getD 0 0).take k).length = k:=by rw [List.length_take];omega
  rw [List.getElem_map] at hy
  cases o with
  |none =>
   rw [a6] at hos
   rw [hos] at hy ⊢
   simp -dsimp -implicitDefEqProofs only [go_sem,↓reduceIte,Tryz.f73,a8,aP,hlt,ea]
   intro _
   first | refine aG.mk (l9 (hA _ (List.getElem_mem hlt)) hn hsz) ?_ | refine aD.mk (l9 (hA _ (List.getElem_mem hlt)) hn hsz) ?_ | refine aG.a5 (l9 (hA _ (List.getElem_mem hlt)) hn hsz) ?_ | refine aD.mk (aX.cD (l9 (hA _ (List.getElem_mem hlt)) hn hsz)) ?_
   simp -dsimp -implicitDefEqProofs only [go_sem,↓reduceIte,Tryz.f73]
   repeat' (with_reducible first | intro _ | refine And.intro ?_ ?_)
   all_goals try (first | omega | decide)
   rename_i b hb
   refine ⟨(k + 1,some b),?_⟩
   simp only [hy]
   refine ⟨⟨rfl,?_⟩,aA.le_refl _,⟨by omega,hb⟩,by omega⟩
   rw [IntWalk.i64_in _ (by omega)];rfl
  |some n =>
   rw [aU] at hos
   simp -dsimp -implicitDefEqProofs only [go_sem,↓reduceIte,Tryz.f73,aT,aK,hlt,ea]
   intro _
   first | refine aG.mk (l9 (hA _ (List.getElem_mem hlt)) hn hsz) ?_ | refine aD.mk (l9 (hA _ (List.getElem_mem hlt)) hn hsz) ?_ | refine aG.a5 (l9 (hA _ (List.getElem_mem hlt)) hn hsz) ?_ | refine aD.mk (aX.cD (l9 (hA _ (List.getElem_mem hlt)) hn hsz)) ?_
   simp -dsimp -implicitDefEqProofs only [go_sem,↓reduceIte,Tryz.f73]
   repeat' (with_reducible first | intro _ | refine And.intro ?_ ?_)
   all_goals try (first | omega | decide | exact Nat.le_refl _)
   rename_i b hb
   refine ⟨(k + 1,some b),?_⟩
   simp only [hy,aK,aT,aU]
   refine ⟨⟨by rw [List.length_append];rfl,?_⟩,?_,⟨by omega,hb.2⟩,by omega⟩
   ·rw [IntWalk.i64_in _ (by omega)];rfl
   ·rw [← dQ];exact iX hos
 ·have hk':k = A.length:=by omega
  subst hk'
  rw [List.take_of_length_le (by omega)] at hos ⊢
  cases o with
  |none =>
   rw [a6] at hos
   simp -dsimp -implicitDefEqProofs only [go_sem,↓reduceIte,Tryz.f73,a8,aP,Nat.lt_irrefl,Int.lt_irrefl]
   rw [hos]
   exact fun _=>Shift.of (Sub.loose _ _ _) (aA.le_refl _)
  |some m =>
   rw [aU] at hos
   simp -dsimp -implicitDefEqProofs only [go_sem,↓reduceIte,Tryz.f73,aT,aK,Nat.lt_irrefl,Int.lt_irrefl]
   refine fun _=>fH ((A.map fun L=>L.map fun s=>s.getD 0 0).map fun n=>[ints n]) hos (aA.le_refl _) (by simp [dF,dG]) ?_
   simp [aC.cR,iF,List.take_of_length_le]
@[go_sem] def aJZ:List Nat:=[0,1,2,6,7,8,9,13,18]
@[go_sem] def aXH:Marks:=fun id=>match id with | 8=>([],(.op 0 (.op 1 (.op 2 (.op 3 (.op 4 (.op 5 (.op 6 (.op 7 (.op 8 (.op 9 (.op 10 (.op 11 (.op 12 (.op 13 (.op 14 (.op 15 (.op 16 (.op 17 (.op 18 (.op 19 .nil)))))))))))))))))))),[]) | _=>([],.nil,[])
theorem a6E {n sz:Nat} {A X:List (List Int)} (hA:c5 sz n A) (hX:c5 sz n X) (hn:n≤1048576) {k:Nat} (hk:k < sz) (hsz:sz≤1048576):dI Tryz.prog 149 [bB A,bB X,I k] (I (j6 (fun j=>A.getD j []) X k n)):=by
 have hal:=hA.1
 refine j7 41 aJZ bM aXH mix Tryz.func149 rfl (by kernel_rfl) (by simp) fun h=>?_
 simp -dsimp -implicitDefEqProofs only [go_sem,↓reduceIte,Tryz.f149]
 refine jM (keep:=aJZ) (ib:=bM) (mk:=aXH) mix (by kernel_rfl) (fun j:Nat=>[(0,bB A),(1,bB X),(2,I k),(7,I (j6 (fun j=>A.getD j []) X k j)),(8,I j)]) (fun j=>j≤n) (fun j=>n - j) 0 ⟨by simp [bU,bF,j6],Nat.zero_le _⟩ ?_
 intro j hj
 rcases Nat.lt_or_ge j n with hlt | hge
 ·have ha:=hA.get hlt
  have hx:=hX.get hlt
  simp -dsimp -implicitDefEqProofs only [go_sem,↓reduceIte,Tryz.f149,hlt,hal]
  intro _
  refine jM (keep:=aJZ) (ib:=bM) (mk:=aXH) mix (by kernel_rfl) (fun i:Nat=>[(0,bB A),(1,bB X),(2,I k),(7,I (xV (A.getD j []) (X.getD j []) k (j6 (fun j=>A.getD j []) X k j) i)),(8,I j),(9,I i)]) (fun i=>i≤k + 1) (fun i=>k + 1 - i) 0 ⟨by simp [bU,bF,xV],Nat.zero_le _⟩ ?_
  intro i hi
  rcases Nat.lt_or_ge i (k + 1) with jO | aAP
  ·have e1:=b9 (l:=A.getD j []) (i:=i) (by rw [ha.2.1];omega)
   have e2:=b9 (l:=X.getD j []) (i:=k - i) (by rw [hx.2.1];omega)
   have ek:IntKind.i64.wrap ((k:Int) - (i:Int)) = ((k - i:Nat):Int):=by rw [IntWalk.i64_in _ (by omega)];omega
   have hik:(i:Int)≤(k:Int):=by omega
   simp -dsimp -implicitDefEqProofs only [go_sem,↓reduceIte,Tryz.f149,hik,ek,ha.1,hx.1,e1,e2,ha.2.1,hx.2.1]
   refine ⟨by rw [hal];exact hlt,by omega,by rw [hX.1];exact hlt,by omega,?_⟩
   first | refine aG.mk (aV ((A.getD j []).getD i 0) ((X.getD j []).getD (k - i) 0) (ha.2.2.get i) (hx.2.2.get (k - i))) ?_ | refine aD.mk (aV ((A.getD j []).getD i 0) ((X.getD j []).getD (k - i) 0) (ha.2.2.get i) (hx.2.2.get (k - i))) ?_ | refine aG.a5 (aV ((A.getD j []).getD i 0) ((X.getD j []).getD (k - i) 0) (ha.2.2.get i) (hx.2.2.get (k - i))) ?_ | refine aD.mk (aX.cD (aV ((A.getD j []).getD i 0) ((X.getD j []).getD (k - i) 0) (ha.2.2.get i) (hx.2.2.get (k - i)))) ?_
   simp -dsimp -implicitDefEqProofs only [go_sem,↓reduceIte,Tryz.f149]
   first | refine aG.mk (eW (xV (A.getD j []) (X.getD j []) k (j6 (fun j=>A.getD j []) X k j) i) ((A.getD j []).getD i 0 * (X.getD j []).getD (k - i) 0 % 1000003)) ?_ | refine aD.mk (eW (xV (A.getD j []) (X.getD j []) k (j6 (fun j=>A.getD j []) X k j) i) ((A.getD j []).getD i 0 * (X.getD j []).getD (k - i) 0 % 1000003)) ?_ | refine aG.a5 (eW (xV (A.getD j []) (X.getD j []) k (j6 (fun j=>A.getD j []) X k j) i) ((A.getD j []).getD i 0 * (X.getD j []).getD (k - i) 0 % 1000003)) ?_ | refine aD.mk (aX.cD (eW (xV (A.getD j []) (X.getD j []) k (j6 (fun j=>A.getD j []) X k j) i) ((A.getD j []).getD i 0 * (X.getD j []).getD (k - i) 0 % 1000003))) ?_
   simp -dsimp -implicitDefEqProofs only [go_sem,↓reduceIte,Tryz.f149]
   exact ⟨i + 1,⟨rfl,IntWalk.i64_in _ (by omega)⟩,by omega,by omega⟩
  ·obtain rfl:i = k + 1:=by omega
   simp -dsimp -implicitDefEqProofs only [go_sem,↓reduceIte,Tryz.f149,show ¬ (((k + 1:Nat):Int)≤(k:Int)) by omega]
   exact ⟨j + 1,⟨rfl,IntWalk.i64_in _ (by omega)⟩,hlt,by omega⟩
 ·obtain rfl:j = n:=by omega
  simp -dsimp -implicitDefEqProofs only [go_sem,↓reduceIte,Tryz.f149,Nat.lt_irrefl,Int.lt_irrefl,hal]
  exact fun _=>Shift.of (Sub.refl _) (aA.le_refl _)
theorem aFN {g:aA} {b len:Nat} {es:List (List OV)} {L:List (List Int)} (hes:OR (oL I) L es) (ho:fR g (OV.bR [OV.sl b 1 es])) (hl:len = L.length):View g (.os b 1 0 len) (bB L):=by
 have h1:=View.ovD (h:=g) (d:=bB L) (OV.sl b 1 es) (sN (OS.mk hes)) (by
  rw [OV.cO,OV.dV,List.append_nil] at ho
  exact ho)
 rw [OV.nJ,← hes.length] at h1
 rwa [hl]
theorem aPD {n:Nat} {N:Nat→Nat→Int} {r r':Nat→Int} (h:∀ i,i < n→r i = r' i) {i:Nat} (hi:i < n):wS n N r i = wS n N r' i:=by
 have h1:=zM (F:=dW) (G:=dW) (R:=fun a b=>a = b) (fun x y q=>by rw [q]) (fun x y d e q1 q2 _=>by rw [q1,q2]) (fun x y f g u v q1 q2 q3=>by rw [q1,q2,q3]) (n:=n) (w:=n + 1) (by omega) (M:=gV n N r) (N:=gV n N r') (fun i hi k hk=>by
  unfold gV
  split
  ·rfl
  ·exact h i hi) n (Nat.le_refl _)
 rcases h1 with ⟨a,b⟩ | ⟨A,B,a,b,c⟩
 ·rw [wS,wS,a,b]
 ·rw [wS,wS,a,b];exact c i hi n (by omega)
theorem aFO {r x y:List Int} {k:Nat} (s:Int) (h:∀ q,x.getD q 0 = y.getD q 0):∀ i,xV r x k s i = xV r y k s i
 |0=>rfl
 |i + 1=>by rw [xV,xV,aFO s h i,h]
def zS (n:Nat) (S:Nat→Nat→List Int) (b:Nat→List Int) (sz q r:Nat):List Int:=(rS n S b q).getD r [] ++ List.replicate (sz - q) 0
def zL (n:Nat) (S:Nat→Nat→List Int) (b:Nat→List Int) (sz k i:Nat):List (List Int):=(List.range n).map fun r=>zS n S b sz (if r < i then k + 1 else k) r
theorem aPE {n:Nat} (S:Nat→Nat→List Int) (b:Nat→List Int) {sz q r:Nat} (hr:r < n) (hq:q≤sz):(zS n S b sz q r).length = sz:=by
 rw [zS,List.length_append,tY S b hr,List.length_replicate];omega
theorem bB0 {n:Nat} (S:Nat→Nat→List Int) (b:Nat→List Int) (sz q r j:Nat):(zS n S b sz q r).getD j 0 = ((rS n S b q).getD r []).getD j 0:=by
 rw [zS]
 generalize (rS n S b q).getD r [] = x
 rw [List.getD_eq_getElem?_getD,List.getElem?_append,List.getD_eq_getElem?_getD]
 split
 ·rfl
 ·rename_i h
  rw [List.getElem?_eq_none (l:=x) (Nat.le_of_not_lt h),List.getElem?_replicate]
  split <;> rfl
theorem a6F {n:Nat} (S:Nat→Nat→List Int) (b:Nat→List Int) (hk:∀ k i,i < n→bD k ((rS n S b k).getD i [])) {sz q r:Nat} (hr:r < n) (hq:q≤sz):bD sz (zS n S b sz q r):=⟨aPE S b hr hq,fun x hx=>by
 rcases List.mem_append.1 hx with hx | hx
 ·exact (hk q r hr).2 x hx
 ·rw [(List.mem_replicate.1 hx).2];exact nN⟩
theorem a6G {n:Nat} (S:Nat→Nat→List Int) (b:Nat→List Int) {sz q r:Nat} (hr:r < n) (hq:q < sz):(zS n S b sz q r).set q (wS n (fun i j=>(S i j).getD 0 0) (fun i=>((b i).getD q 0 - j6 (S i) (rS n S b q) q n) % 1000003) r) = zS n S b sz (q + 1) r:=by
 rw [zS,zS,List.set_append_right _ _ (by rw [tY S b hr];exact Nat.le_refl _),tY S b hr,Nat.sub_self,vU S b q hr,show sz - q = (sz - (q + 1)) + 1 by omega,List.replicate_succ,List.set_cons_zero,List.append_assoc];rfl
theorem uA (n:Nat) (S:Nat→Nat→List Int) (b:Nat→List Int) (sz k i:Nat):(zL n S b sz k i).length = n:=by simp [zL]
theorem aXI {n:Nat} (S:Nat→Nat→List Int) (b:Nat→List Int) (sz k i:Nat) {r:Nat} (hr:r < n):(zL n S b sz k i).getD r [] = zS n S b sz (if r < i then k + 1 else k) r:=aA0 hr _
theorem aXJ {n:Nat} (S:Nat→Nat→List Int) (b:Nat→List Int) (hk:∀ k i,i < n→bD k ((rS n S b k).getD i [])) {sz k i:Nat} (hq:k < sz):c5 sz n (zL n S b sz k i):=⟨uA _ _ _ _ _ _,fun s hs=>by
 obtain ⟨r,hr,rfl⟩:=List.mem_map.1 hs
 refine a6F S b hk (List.mem_range.1 hr) ?_
 split <;> omega⟩
theorem a0W (n:Nat) (S:Nat→Nat→List Int) (b:Nat→List Int) (sz k:Nat):zL n S b sz k n = zL n S b sz (k + 1) 0:=List.map_congr_left fun r hr=>by rw [if_pos (List.mem_range.1 hr),if_neg (Nat.not_lt_zero _)]
theorem a6H {n:Nat} (S:Nat→Nat→List Int) (b:Nat→List Int) {sz k i:Nat} (hi:i < n):zL n S b sz k (i + 1) = (zL n S b sz k i).set i (zS n S b sz (k + 1) i):=by
 apply List.ext_getElem
 ·simp [zL]
 ·intro r a b
  rw [List.getElem_set]
  split
  ·rename_i e;subst e
   simp [zL]
  ·rename_i e
   simp only [zL,List.getElem_map,List.getElem_range]
   congr 1
   by_cases h1:r < i
   ·rw [if_pos h1,if_pos (by omega)]
   ·rw [if_neg h1,if_neg (by omega)]
theorem aXK (n:Nat) (S:Nat→Nat→List Int) (b:Nat→List Int) (sz:Nat):zL n S b sz 0 0 = List.replicate n (bJ 0 sz):=by
 apply List.ext_getElem
 ·simp [zL]
 ·intro r a c
  rw [uA] at a
  simp only [zL,List.getElem_map,List.getElem_range,List.getElem_replicate,if_neg (Nat.not_lt_zero _)]
  have h1:=tY S b a 0
  rw [zS,List.eq_nil_of_length_eq_zero h1,bJ,Nat.sub_zero,List.nil_append]
  cases sz with
  |zero=>rfl
  |succ q=>rw [List.replicate_succ,List.set_cons_zero]
theorem a6I (n:Nat) (S:Nat→Nat→List Int) (b:Nat→List Int) (sz:Nat):zL n S b sz sz 0 = rS n S b sz:=by
 apply List.ext_getElem
 ·rw [uA,aRY]
 ·intro r a c
  rw [uA] at a
  simp only [zL,List.getElem_map,List.getElem_range,if_neg (Nat.not_lt_zero _)]
  rw [zS,Nat.sub_self,List.replicate_zero,List.append_nil,List.getD_eq_getElem?_getD,List.getElem?_eq_getElem c];rfl
theorem a3C {n:Nat} (S:Nat→Nat→List Int) (b:Nat→List Int) (r:Nat→List Int) (sz k:Nat):∀ j,j≤n→j6 r (zL n S b sz k 0) k j = j6 r (rS n S b k) k j
 |0,_=>rfl
 |j + 1,hj=>by
  rw [j6,j6,a3C S b r sz k j (by omega)]
  refine aFO _ (fun q=>?_) _
  rw [aXI S b sz k 0 (by omega),if_neg (Nat.not_lt_zero _),bB0]
theorem aM2 {A:List (List (List Int))} (i k:Nat):((A.map fun L=>L.map fun s=>s.getD 0 0).getD i []).getD k 0 = ((A.getD i []).getD k []).getD 0 0:=by
 simp only [List.getD_eq_getElem?_getD,List.getElem?_map]
 cases A[i]? with
 |none=>simp
 |some L =>
  simp only [Option.map_some,Option.getD_some,List.getElem?_map]
  cases L[k]? with
  |none=>simp
  |some s=>simp
@[go_sem] def aFP:List Nat:=[0,1,4,5,6,7,8,9,10,11,12,17,41,48,75]
@[go_sem] def aXL:List Nat:=[13,27,44,67]
@[go_sem] def aXM:Marks:=fun id=>match id with | 14=>([14,17],(.op 0 (.op 1 (.op 2 (.op 3 (.op 4 (.op 5 (.op 6 (.op 7 (.op 8 (.op 9 (.op 10 (.op 11 (.op 12 (.op 13 (.op 14 (.op 15 (.op 16 (.op 17 (.op 18 .nil))))))))))))))))))),[]) | 19=>([3,10],(.op 0 (.op 1 (.op 2 (.op 4 (.op 5 (.op 6 (.op 7 (.op 8 (.op 3 (.op 9 (.op 10 .nil))))))))))),[]) | _=>([],.nil,[])
set_option maxHeartbeats 4000000 in
theorem aB2 {d sz:Nat} (hn:1≤d∧d≤12) (hsz:1≤sz∧sz≤1048576) {A:List (List (List Int))} {B:List (List Int)} (hal:A.length = d) (hA:∀ i,i < d→c5 sz d (A.getD i [])) (hB:c5 sz d B) (hs:¬ pD dW d (gV d (fun i j=>((A.getD i []).getD j []).getD 0 0) fun _=>0) d = none) :
  rN Tryz.prog 74 [j2 A,bB B] (QS (OS (oL I) 1 (rS d (fun i j=>(A.getD i []).getD j []) (fun i=>B.getD i []) sz))):=by
 have hbl:=hB.1
 have hb0:=hB.get (show 0 < d by omega)
 obtain ⟨S,hS⟩:∃ S:Nat→Nat→List Int,S = fun i j=>(A.getD i []).getD j []:=⟨_,rfl⟩
 obtain ⟨bf,hbd⟩:∃ bf:Nat→List Int,bf = fun i=>B.getD i []:=⟨_,rfl⟩
 have hs':¬ pD dW d (gV d (fun i j=>(S i j).getD 0 0) fun _=>0) d = none:=by rw [hS];exact hs
 have hk2:∀ k i,i < d→bD k ((rS d S bf k).getD i []):=aCW hsz.1 (fun i hi k hk=>by rw [hS];exact ((hA i hi).get hk).2) hs'
 rw [← hS,← hbd]
 have hcz:=oF 0 sz
 have hZl:(List.replicate d (bJ 0 sz)).length = d:=List.length_replicate
 have hbeg:=aBV (A:=A) (n:=d) (sz:=sz) (fun L hL=>by
  obtain ⟨i,hi,rfl⟩:=List.getElem_of_mem hL
  have:=hA i (by omega)
  rwa [List.getD_eq_getElem?_getD,List.getElem?_eq_getElem hi] at this) (by omega) (by omega) hsz.1
 refine pI 89 aFP aXL aXM mix Tryz.func74 rfl (by kernel_rfl) (by simp) fun h=>?_
 simp -dsimp -implicitDefEqProofs only [go_sem,↓reduceIte,Tryz.f74]
 refine ⟨Nat.zero_lt_one,?_⟩
 refine bQ (keep:=aFP) (ib:=aXL) (mk:=aXM) mix (by kernel_rfl) (fun x:Nat × LLx=>[(0,j2 A),(1,bB B),(5,eU 1 x.1 x.2.1),(6,I x.1)]) (fun x=>wZ x.2) (fun x=>x.1≤d∧LLG h ((List.replicate d (bJ 0 sz)).take x.1) x.2) (fun x=>d - x.1) (0,none,[],h) ⟨by simp [bU,bF,eU],aA.le_refl _,Nat.zero_le _,LLG.init _⟩ ?_
 rintro ⟨k,op,es,g⟩ ⟨hk,H⟩
 simp only at hk H ⊢
 rcases Nat.lt_or_ge k d with hlt | hge
 ·have eb:=(hB.get hlt).1
  have ebl:=(hB.get hlt).2.1
  have hy:(List.replicate d (bJ 0 sz)).take (k + 1) = (List.replicate d (bJ 0 sz)).take k ++ [bJ 0 sz]:=by
   rw [List.take_succ_eq_append_getElem (by omega)];simp
  have hlk:((List.replicate d (bJ 0 sz)).take k).length = k:=by rw [List.length_take];omega
  have tZ:=H.len
  simp only [hlk] at tZ
  have hown:=aA1 0 (sz:=sz) hsz
  have hc:=hcz
  cases op with
  |none =>
   obtain ⟨h1,rfl,rfl⟩:=H.nil
   obtain rfl:k = 0:=by rw [← hlk,h1];rfl
   simp -dsimp -implicitDefEqProofs only [go_sem,↓reduceIte,Tryz.f74,hlt,eb,ebl,hbl,a8,wZ,aP]
   intro _ _
   refine aG.wn0 (hown) ?_
   rintro r_ l_ g ⟨y_,oy_,rfl,rfl⟩ zO
   rcases oy_.vL with ⟨_,q_⟩ | ⟨m,rfl⟩
   ·rw [q_] at hc;simp at hc;omega
   rw [OV.iQ]
   rw [OV.cK,fW,eS] at zO
   obtain ⟨zm,rfl⟩:=zO.pE
   simp -dsimp -implicitDefEqProofs only [go_sem,↓reduceIte,Tryz.f74,hc,a8]
   refine ⟨Nat.zero_lt_one,Nat.zero_lt_one,Nat.zero_lt_one,fun b ⟨b1,b2⟩=>?_⟩
   obtain ⟨x',e',H',L'⟩:=H.fin (m:=m) (b:=b) (s:=bJ 0 sz) (hc) zm b2 b1 (aA.le_refl _)
   refine ⟨(1,x'),⟨by simp only [e'];rfl,IntWalk.i64_in _ (by omega)⟩,L',⟨hlt,by simp only;rw [hy];exact H'⟩,by simp only;omega⟩
  |some n =>
   simp -dsimp -implicitDefEqProofs only [go_sem,↓reduceIte,Tryz.f74,hlt,eb,ebl,hbl,aT,wZ,aK,lA,tZ]
   intro _ _
   refine aG.wn1 (hown) H.2.2 ?_
   rintro r_ l_ g' ⟨y_,oy_,rfl,rfl⟩ zO zn
   rcases oy_.vL with ⟨_,q_⟩ | ⟨m,rfl⟩
   ·rw [q_] at hc;simp at hc;omega
   rw [OV.iQ]
   rw [OV.cK,fW,eS] at zO
   obtain ⟨zm,rfl⟩:=zO.pE
   have jE:¬ m = n:=fun e=>by rw [e,aH] at zn;cases zn
   have o5:¬ n = m:=Ne.symm jE
   have c8:(m = n) = False:=eq_false jE
   have c9:(n = m) = False:=eq_false o5
   simp -dsimp -implicitDefEqProofs only [go_sem,↓reduceIte,Tryz.f74,hc,c8,c9,aF,lA,tZ,aT]
   refine ⟨Nat.zero_lt_one,Nat.zero_lt_one,Nat.zero_lt_one,Nat.le_refl _,by omega,by omega,fun b ⟨bn,bm,bz⟩=>?_⟩
   rw [show List.take k (OV.cells es) = OV.cells es from tZ ▸ s8 es]
   refine ⟨(k + 1,some b,es ++ [oI m (bJ 0 sz)],a7 g m (mF (bJ 0 sz))),⟨rfl,IntWalk.i64_in _ (by omega)⟩,?_,⟨hlt,by simp only;rw [hy];exact H.snoc (bJ 0 sz) zm bz bm⟩,by simp only;omega⟩
   show (wZ (some b,es ++ [oI m (bJ 0 sz)],a7 g m (mF (bJ 0 sz)))).le _
   rw [wZ.snoc,show List.length (bJ 0 sz) = _ from hc]
   exact aCY H.2.2 jE bn (fun q hq=>by simp only [dX,if_neg hq];(repeat' split) <;> first | rfl | contradiction)
 ·obtain rfl:k = d:=by omega
  obtain ⟨d,rfl⟩:∃ d,d = k:=⟨_,rfl⟩
  simp -dsimp -implicitDefEqProofs only [go_sem,↓reduceIte,Tryz.f74,Nat.lt_irrefl,Int.lt_irrefl,hbl]
  intro _
  first | refine aG.mk (hbeg) ?_ | refine aD.mk (hbeg) ?_ | refine aG.a5 (hbeg) ?_ | refine aD.mk (aX.cD (hbeg)) ?_
  simp -dsimp -implicitDefEqProofs only [go_sem,↓reduceIte,Tryz.f74]
  obtain ⟨W,hW⟩:∃ W,W = A.map fun L=>L.map fun s=>s.getD 0 0:=⟨_,rfl⟩
  rw [← hW]
  rw [List.take_of_length_le (by omega)] at H
  obtain ⟨y,hy,hv,hw⟩:=H.done
  rw [hZl] at hv
  generalize wZ (op,es,g) = G0 at *
  rw [← hv]
  rcases hy with ⟨rfl,h0⟩ | ⟨bb,es,rfl,hes⟩
  ·rw [h0] at hZl;simp at hZl;omega
  rw [← aXK d S bf sz] at hes
  have bFP:es.length = d:=by rw [← hes.length,uA]
  rw [OV.nJ,bFP]
  have hnw:g8 h (OV.bR [OV.sl bb 1 es]) G0:=by rw [OV.cO,OV.dV,List.append_nil];exact hw
  refine bQ (keep:=aFP) (ib:=aXL) (mk:=aXM) mix (by kernel_rfl) (fun x:Nat × List (List OV) × aA=>[(0,j2 A),(1,bB B),(5,.os bb 1 0 d),(7,bB W),(8,I x.1)]) (fun x=>x.2.2) (fun x=>x.1≤sz∧OR (oL I) (zL d S bf sz x.1 0) x.2.1∧g8 h (OV.bR [OV.sl bb 1 x.2.1]) x.2.2) (fun x=>sz - x.1) (0,es,G0) ⟨by simp [bU,bF],aA.le_refl _,Nat.zero_le _,hes,hnw⟩ ?_
  clear hes hnw hw H hv
  rintro ⟨c,es,g⟩ ⟨hk,hes,hnw⟩
  simp only at hk hes hnw ⊢
  have hgb:g bb = some (.row 1 (OV.cells es)):=hnw.aU6 []
  have hesl:es.length = d:=by rw [← hes.length,uA]
  have hkp:(0:Int) < (d:Int):=by omega
  have bB1:B[Int.toNat 0]? = some (B.getD 0 []):=hb0.1
  rcases Nat.lt_or_ge c sz with hlt | hge
  ·simp -dsimp -implicitDefEqProofs only [go_sem,↓reduceIte,Tryz.f74,hlt,hbl,hkp,bB1,hb0.2.1]
   refine fun _ _=>⟨by decide,?_⟩
   obtain ⟨R,hR⟩:∃ R:List Int,R = gJ d fun i=>((bf i).getD c 0 - j6 (S i) (rS d S bf c) c d) % 1000003:=⟨_,rfl⟩
   have hRl:R.length = d:=by rw [hR,bX]
   have hRg:∀ i,i < d→R.getD i 0 = ((bf i).getD c 0 - j6 (S i) (rS d S bf c) c d) % 1000003:=fun i hi=>by rw [List.getD_eq_getElem?_getD,hR,e8 _ hi];rfl
   have hRn:hH R:=fun x hx=>by
    rw [hR] at hx
    obtain ⟨i,_,rfl⟩:=List.mem_map.1 hx
    exact c7 _
   have hWS:(fun i k=>(W.getD i []).getD k 0) = fun i k=>(S i k).getD 0 0:=by funext i k;rw [hW,aM2,hS]
   obtain ⟨A0,hA0⟩:∃ A0,pD dW d (gV d (fun i k=>(W.getD i []).getD k 0) fun i=>R.getD i 0) d = some A0:=by
    rw [hWS]
    cases hq:pD dW d (gV d (fun i k=>(S i k).getD 0 0) fun i=>R.getD i 0) d with
    |none=>exact absurd ((aO5 fun _ _ _ _=>rfl).1 hq) hs'
    |some A0=>exact ⟨A0,rfl⟩
   have hWl:W.length = d:=by rw [hW,List.length_map,hal]
   have hWr:∀ i,i < d→W.getD i [] = (A.getD i []).map fun s=>s.getD 0 0:=fun i hi=>by
    rw [hW,List.getD_eq_getElem?_getD,List.getElem?_map,List.getElem?_eq_getElem (by omega),List.getD_eq_getElem?_getD,List.getElem?_eq_getElem (by omega)];rfl
   have hsolve:=aXG hn hWl (fun i hi=>by rw [hWr i hi,List.length_map,(hA i hi).1]) (fun i hi x hx=>by
    rw [hWr i hi] at hx
    obtain ⟨s,hs,rfl⟩:=List.mem_map.1 hx
    exact ((hA i hi).2 s hs).2.get 0) hRl hRn hA0
   have hsv:∀ i,i < d→A0 i d = wS d (fun i j=>(S i j).getD 0 0) (fun i=>((bf i).getD c 0 - j6 (S i) (rS d S bf c) c d) % 1000003) i:=fun i hi=>by
    rw [← aPD (r:=fun i=>R.getD i 0) hRg hi,wS,← hWS,hA0]
   generalize hNw:(gJ d fun i=>A0 i d) = Nw at hsolve
   have hNl:Nw.length = d:=by rw [← hNw,bX]
   have hNg:∀ i,i < d→Nw[i]? = some (A0 i d):=fun i hi=>by rw [← hNw,e8 _ hi]
   have hzs:=aXJ S bf hk2 (sz:=sz) (k:=c) (i:=0) hlt
   refine bQ (keep:=aFP) (ib:=aXL) (mk:=aXM) mix (by kernel_rfl) (fun x:Nat × Option Nat=>[(0,j2 A),(1,bB B),(5,.os bb 1 0 d),(7,bB W),(8,I c),(9,eU 1 (R.take x.1).length x.2),(10,I x.1)]) (fun x=>gB g (.row 1 (((R.take x.1).map fun n=>[I n]).map (List.map .v))) x.2) (fun x=>x.1≤d∧eF g (R.take x.1) x.2) (fun x=>d - x.1) (0,none) ⟨by simp [bU,bF,eU],by simp only [aP];exact aA.le_refl _,Nat.zero_le _,by simp [eF]⟩ ?_
   rintro ⟨k,o⟩ ⟨hi,hos⟩
   simp only at hi hos ⊢
   rcases Nat.lt_or_ge k d with jO | aAP
   ·have eA:A[k]? = some (A.getD k []):=by rw [List.getD_eq_getElem?_getD,List.getElem?_eq_getElem (by omega)];rfl
    have hbi:=hB.get jO
    have ebc:=b9 (l:=B.getD k []) (i:=c) (by rw [hbi.2.1];omega)
    have hbil:=hbi.2.1
    have hdot:=a6E (hA k jO) hzs (by omega) hlt hsz.2
    have hde:j6 (fun j=>(A.getD k []).getD j []) (zL d S bf sz c 0) c d = j6 (S k) (rS d S bf c) c d:=by rw [hS];exact a3C _ _ _ _ _ d (Nat.le_refl _)
    rw [hde] at hdot
    have hmin:=kI ((B.getD k []).getD c 0) (j6 (S k) (rS d S bf c) c d) (hbi.2.2.get c) (aHE _ _ _ _)
    have hy:R.take (k + 1) = R.take k ++ [((B.getD k []).getD c 0 - j6 (S k) (rS d S bf c) c d) % 1000003]:=by
     rw [List.take_succ_eq_append_getElem (by omega)]
     congr 2
     have:=hRg k jO
     rw [List.getD_eq_getElem?_getD,List.getElem?_eq_getElem (by omega)] at this
     rw [show R[k] = _ from this,hbd]
    have hlk:(R.take k).length = k:=by rw [List.length_take];omega
    cases o with
    |none =>
     rw [a6] at hos
     rw [hos] at hy ⊢
     simp -dsimp -implicitDefEqProofs only [go_sem,↓reduceIte,Tryz.f74,a8,aP,jO,hbl,hal,eA,hbi.1,ebc,hbil]
     intro _
     refine ⟨by omega,aG.aBI hdot (eD.cons (View.same _ _) (eD.cons (aFN hes hnw.iD (uA _ _ _ _ _ _).symm) (eD.cons (View.same _ _) eD.nil))) rfl ?_⟩
     simp -dsimp -implicitDefEqProofs only [go_sem,↓reduceIte,Tryz.f74]
     first | refine aG.mk (hmin) ?_ | refine aD.mk (hmin) ?_ | refine aG.a5 (hmin) ?_ | refine aD.mk (aX.cD (hmin)) ?_
     simp -dsimp -implicitDefEqProofs only [go_sem,↓reduceIte,Tryz.f74]
     repeat' (with_reducible first | intro _ | refine And.intro ?_ ?_)
     all_goals try (first | omega | decide)
     rename_i b hb
     refine ⟨(k + 1,some b),?_⟩
     simp only [hy]
     refine ⟨⟨rfl,?_⟩,aA.le_refl _,⟨by omega,hb⟩,by omega⟩
     rw [IntWalk.i64_in _ (by omega)];rfl
    |some m =>
     rw [aU] at hos
     simp -dsimp -implicitDefEqProofs only [go_sem,↓reduceIte,Tryz.f74,aT,aK,jO,hbl,hal,eA,hbi.1,ebc,hbil]
     intro _
     refine ⟨by omega,aG.aBI hdot (eD.cons (View.same _ _) (eD.cons (aFN hes (hnw.iD.up hos) (uA _ _ _ _ _ _).symm) (eD.cons (View.same _ _) eD.nil))) rfl ?_⟩
     simp -dsimp -implicitDefEqProofs only [go_sem,↓reduceIte,Tryz.f74]
     first | refine aG.mk (hmin) ?_ | refine aD.mk (hmin) ?_ | refine aG.a5 (hmin) ?_ | refine aD.mk (aX.cD (hmin)) ?_
     simp -dsimp -implicitDefEqProofs only [go_sem,↓reduceIte,Tryz.f74]
     repeat' (with_reducible first | intro _ | refine And.intro ?_ ?_)
     all_goals try (first | omega | decide | exact Nat.le_refl _)
     rename_i b hb
     refine ⟨(k + 1,some b),?_⟩
     simp only [hy,aK,aT,aU]
     refine ⟨⟨by rw [List.length_append];rfl,?_⟩,?_,⟨by omega,hb.2⟩,by omega⟩
     ·rw [IntWalk.i64_in _ (by omega)];rfl
     ·rw [← dQ];exact iX hos
   ·obtain rfl:k = d:=by omega
    rw [List.take_of_length_le (by omega)] at hos ⊢
    cases o with
    |none =>
     rw [a6] at hos
     rw [hos] at hRl;simp at hRl;omega
    |some m =>
     rw [aU] at hos
     simp -dsimp -implicitDefEqProofs only [go_sem,↓reduceIte,Tryz.f74,aT,aK,Nat.lt_irrefl,Int.lt_irrefl,hbl]
     intro _
     refine aG.aRF (es:=R.map fun n=>[I n]) hsolve (by simp [dG,dF]) (by simp [iF,aC.cR,List.take_of_length_le]) ?_
     simp -dsimp -implicitDefEqProofs only [go_sem,↓reduceIte,Tryz.f74]
     refine bQ (keep:=aFP) (ib:=aXL) (mk:=aXM) mix (by kernel_rfl) (fun x:Nat × List (List OV) × aA=>[(0,j2 A),(1,bB B),(5,.os bb 1 0 k),(7,bB W),(8,I c),(11,ints Nw),(12,I x.1)]) (fun x=>x.2.2) (fun x=>x.1≤k∧OR (oL I) (zL k S bf sz c x.1) x.2.1∧g8 h (OV.bR [OV.sl bb 1 x.2.1]) x.2.2) (fun x=>k - x.1) (0,es,g) ⟨by simp [bU,bF],aA.bI hos (aA.le_refl _),Nat.zero_le _,hes,hnw⟩ ?_
     clear hes hnw hgb hesl hos
     rintro ⟨i,es,g⟩ ⟨hi,hes,hnw⟩
     simp only at hi hes hnw ⊢
     have hgb:g bb = some (.row 1 (OV.cells es)):=hnw.aU6 []
     have hesl:es.length = k:=by rw [← hes.length,uA]
     rcases Nat.lt_or_ge i k with uP | bFK
     ·obtain ⟨m,q1,q2,q3,q4⟩:=aXA hes hnw (aXJ S bf hk2 hlt) hsz.1 uP
      rw [aXI S bf sz c i uP,if_neg (Nat.lt_irrefl i)] at q1 q3
      have hset:=a6G S bf (sz:=sz) uP hlt
      rw [← hsv i uP] at hset
      have hpl:=aPE S bf (sz:=sz) (q:=c) uP (by omega)
      have epk:=b9 (l:=zS k S bf sz c i) (i:=c) (by rw [hpl];exact hlt)
      have eN:=hNg i uP
      have xX:¬ m = bb:=q4
      have aA2:¬ bb = m:=Ne.symm xX
      have aFF:(m = bb) = False:=eq_false xX
      have aFG:(bb = m) = False:=eq_false aA2
      simp -dsimp -implicitDefEqProofs only [go_sem,↓reduceIte,Tryz.f74,uP,hgb,lA,hesl,q2,q3,hbl,eN,hNl,mF,hpl,epk]
      rw [nL I,hset]
      have hpe:=hnw.a27 (zS k S bf sz (c + 1) i) q1 (by rw [hpl,aPE S bf uP (by omega)])
      exact fun _=>⟨hlt,(i + 1,es.set i (oI m (zS k S bf sz (c + 1) i)),a7 g m (mF (zS k S bf sz (c + 1) i))),IntWalk.i64_in _ (by omega),aA.le_refl _,⟨uP,by simp only;rw [a6H S bf uP];exact hes.set i _ _ (a5Z m _),hpe.1⟩,by simp only;omega⟩
     ·obtain rfl:i = k:=by omega
      simp -dsimp -implicitDefEqProofs only [go_sem,↓reduceIte,Tryz.f74,Nat.lt_irrefl,Int.lt_irrefl,hbl]
      exact fun _=>⟨(c + 1,es,g),IntWalk.i64_in _ (by omega),aA.le_refl _,⟨hlt,by simp only;rw [← a0W];exact hes,hnw⟩,by simp only;omega⟩
  ·obtain rfl:c = sz:=by omega
   simp -dsimp -implicitDefEqProofs only [go_sem,↓reduceIte,Tryz.f74,Nat.lt_irrefl,Int.lt_irrefl,hbl,hkp,bB1,hb0.2.1]
   rw [a6I] at hes
   rw [OV.cO,OV.dV,List.append_nil] at hnw
   exact fun _ _=>⟨_,g,_,aZ _ _,⟨OV.sl bb 1 es,OS.mk hes,by rw [OV.nJ,hesl],rfl⟩,hnw⟩
def eqP (a b:Int):Bool:=decide (2≤a∧a≤7) && decide (b = a - 1)
abbrev a0X (s:List Int):Prop:=(1≤s.length∧s.length≤13)∧hH s
abbrev aHL (y:List (List Int)) (m:Nat):Prop:=∀ s∈y,a0X s∧s.length = m
abbrev aFQ (y:List (List Int)) (n:Int):Prop:=aHL y (y.getD 0 []).length∧(y.length:Int) = n
noncomputable def jH (p:aE) (f:Int) (y:List (List Int)):Int:=if iN p f eqP = 0 then if aFQ y (p.par f - 1) then 0 else 2 else iN p f eqP
theorem aPF {a b:Int} (h:eqP a b = true):(2≤a∧a≤7)∧b = a - 1:=by
 simp only [eqP,Bool.and_eq_true,decide_eq_true_eq] at h
 exact h
theorem aM3 (a b:Int):dI Tryz.prog 165 [I a,I b] (.bool (eqP a b)):=by
 refine dJ 13 aBZ bM bC mix Tryz.func165 rfl (by kernel_rfl) (by simp) fun h=>?_
 simp -dsimp -implicitDefEqProofs only [go_sem,↓reduceIte,Tryz.f165]
 first | refine aG.mk (within a 2 7) ?_ | refine aD.mk (within a 2 7) ?_ | refine aG.a5 (within a 2 7) ?_ | refine aD.mk (aX.cD (within a 2 7)) ?_
 simp -dsimp -implicitDefEqProofs only [go_sem,↓reduceIte,Tryz.f165]
 refine ⟨fun h=>?_,fun h=>?_⟩
 ·rw [eqP,decide_eq_true h,Bool.true_and,IntWalk.i64_in _ (by omega)]
 ·rw [eqP,decide_eq_false h,Bool.false_and]
theorem aPG (p:aE) (f:Int) (hps:p.s≤4194304):dI Tryz.prog 92 [.agg p.c,I f] (I (iN p f eqP)):=by
 have hif:=aW7 p f hps aM3
 simp only [aE.aQ] at hif ⊢
 refine dJ 8 a2E aN9 bC mix Tryz.func92 rfl (by kernel_rfl) (by simp) fun h=>?_
 simp -dsimp -implicitDefEqProofs only [go_sem,↓reduceIte,Tryz.f92]
 first | refine aG.mk (hif) ?_ | refine aD.mk (hif) ?_ | refine aG.a5 (hif) ?_ | refine aD.mk (aX.cD (hif)) ?_
 simp -dsimp -implicitDefEqProofs only [go_sem,↓reduceIte,Tryz.f92]
theorem rI (s:List Int):dI Tryz.prog 118 [ints s] (.bool (decide (a0X s))):=by
 refine dJ 12 aAN bM bC mix Tryz.func118 rfl (by kernel_rfl) (by simp) fun h=>?_
 simp -dsimp -implicitDefEqProofs only [go_sem,↓reduceIte,Tryz.f118]
 intro _
 first | refine aG.mk (within (s.length:Int) 1 13) ?_ | refine aD.mk (within (s.length:Int) 1 13) ?_ | refine aG.a5 (within (s.length:Int) 1 13) ?_ | refine aD.mk (aX.cD (within (s.length:Int) 1 13)) ?_
 simp -dsimp -implicitDefEqProofs only [go_sem,↓reduceIte,Tryz.f118]
 refine ⟨fun q _=>?_,fun q=>(decide_eq_false fun z=>q (by omega)).symm⟩
 first | refine aG.mk (qB s s.length) ?_ | refine aD.mk (qB s s.length) ?_ | refine aG.a5 (qB s s.length) ?_ | refine aD.mk (aX.cD (qB s s.length)) ?_
 simp -dsimp -implicitDefEqProofs only [go_sem,↓reduceIte,Tryz.f118]
 exact decide_eq_decide.2 ⟨fun z=>⟨by omega,z⟩,fun z=>z.2⟩
theorem aR9 (s:List Int):dI Tryz.prog 190 [ints s] (.bool (decide (a0X s))):=by
 refine dJ 10 aAN bM bC mix Tryz.func190 rfl (by kernel_rfl) (by simp) fun h=>?_
 simp -dsimp -implicitDefEqProofs only [go_sem,↓reduceIte,Tryz.f190]
 intro _
 first | refine aG.mk (eH (s.length:Int) 1 13) ?_ | refine aD.mk (eH (s.length:Int) 1 13) ?_ | refine aG.a5 (eH (s.length:Int) 1 13) ?_ | refine aD.mk (aX.cD (eH (s.length:Int) 1 13)) ?_
 simp -dsimp -implicitDefEqProofs only [go_sem,↓reduceIte,Tryz.f190]
 refine ⟨fun q=>?_,fun q=>(decide_eq_false fun z=>q (by omega)).symm⟩
 first | refine aG.mk (tF s) ?_ | refine aD.mk (tF s) ?_ | refine aG.a5 (tF s) ?_ | refine aD.mk (aX.cD (tF s)) ?_
 simp -dsimp -implicitDefEqProofs only [go_sem,↓reduceIte,Tryz.f190]
 exact decide_eq_decide.2 ⟨fun z=>⟨by omega,z⟩,fun z=>z.2⟩
theorem aHM {y:List (List Int)} {k m:Nat} (hk:k < y.length) (h:aHL (y.take k) m) (h1:a0X (y[k]'hk)) (h2:(y[k]'hk).length = m):aHL (y.take (k + 1)) m:=fun s hs=>by
 rw [List.take_succ_eq_append_getElem hk,List.mem_append,List.mem_singleton] at hs
 rcases hs with hs | rfl
 ·exact h s hs
 ·exact ⟨h1,h2⟩
@[go_sem] def aSA:List Nat:=[0,1,4,5,9,26]
theorem wQ (y:List (List Int)) (hl:y.length≤4194304) (m:Nat):dI Tryz.prog 144 [bB y,I m] (.bool (decide (aHL y m))):=by
 refine dJ 27 aSA bM bC mix Tryz.func144 rfl (by kernel_rfl) (by simp) fun h=>?_
 simp -dsimp -implicitDefEqProofs only [go_sem,↓reduceIte,Tryz.f144]
 refine jM (keep:=aSA) (ib:=bM) (mk:=bC) mix (by kernel_rfl) (fun k:Nat=>[(0,bB y),(1,I m),(5,I k)]) (fun k=>k≤y.length∧aHL (y.take k) m) (fun k=>y.length - k) 0 ⟨by simp [bU,bF],Nat.zero_le _,fun s hs=>by simp at hs⟩ ?_
 rintro k ⟨hk,hkl⟩
 rcases Nat.lt_or_ge k y.length with hlt | hge
 ·have ea:y[k]? = some y[k]:=List.getElem?_eq_getElem hlt
  have h3:y.take (k + 1) = y.take k ++ [y[k]]:=List.take_succ_eq_append_getElem hlt
  simp -dsimp -implicitDefEqProofs only [go_sem,↓reduceIte,Tryz.f144,hlt,ea]
  intro _
  first | refine aG.mk (aR9 y[k]) ?_ | refine aD.mk (aR9 y[k]) ?_ | refine aG.a5 (aR9 y[k]) ?_ | refine aD.mk (aX.cD (aR9 y[k])) ?_
  simp -dsimp -implicitDefEqProofs only [go_sem,↓reduceIte,Tryz.f144,hlt,ea]
  refine ⟨fun q _=>⟨fun q2=>(decide_eq_false fun z=>q2 (z _ (List.getElem_mem hlt)).2).symm,fun q2=>⟨k + 1,IntWalk.i64_in _ (by omega),⟨hlt,aHM hlt hkl q q2⟩,by omega⟩⟩,fun q=>(decide_eq_false fun z=>q (z _ (List.getElem_mem hlt)).1).symm⟩
 ·obtain rfl:k = y.length:=by omega
  simp -dsimp -implicitDefEqProofs only [go_sem,↓reduceIte,Tryz.f144,Nat.lt_irrefl,Int.lt_irrefl]
  rw [List.take_length] at hkl
  exact fun _=>(decide_eq_true hkl).symm
@[go_sem] def aSB:List Nat:=[0,1,4,6,7,8,9,10,24]
theorem aC1 (y:List (List Int)) (hl:y.length≤4194304) (n:Int):dI Tryz.prog 113 [bB y,I n] (.bool (decide (aFQ y n))):=by
 refine dJ 30 aSB bM bC mix Tryz.func113 rfl (by kernel_rfl) (by simp) fun h=>?_
 simp -dsimp -implicitDefEqProofs only [go_sem,↓reduceIte,Tryz.f113]
 intro _
 refine jM (keep:=aSB) (ib:=bM) (mk:=bC) mix (by kernel_rfl) (fun k:Nat=>[(0,bB y),(1,I n),(7,bB y),(8,I y.length),(9,I k)]) (fun k=>k≤y.length∧aHL (y.take k) (y.getD 0 []).length) (fun k=>y.length - k) 0 ⟨by simp [bU,bF],Nat.zero_le _,fun s hs=>by simp at hs⟩ ?_
 rintro k ⟨hk,hkl⟩
 rcases Nat.lt_or_ge k y.length with hlt | hge
 ·have ea:y[k]? = some y[k]:=List.getElem?_eq_getElem hlt
  have h3:y.take (k + 1) = y.take k ++ [y[k]]:=List.take_succ_eq_append_getElem hlt
  have e0:y[Int.toNat 0]? = some (y.getD 0 []):=by rw [List.getD_eq_getElem?_getD,show Int.toNat 0 = 0 from rfl,List.getElem?_eq_getElem (by omega)];rfl
  simp -dsimp -implicitDefEqProofs only [go_sem,↓reduceIte,Tryz.f113,hlt,ea]
  first | refine aG.mk (rI y[k]) ?_ | refine aD.mk (rI y[k]) ?_ | refine aG.a5 (rI y[k]) ?_ | refine aD.mk (aX.cD (rI y[k])) ?_
  simp -dsimp -implicitDefEqProofs only [go_sem,↓reduceIte,Tryz.f113,hlt,ea,e0]
  refine ⟨fun q _=>⟨by omega,?_⟩,fun q=>(decide_eq_false fun z=>q (z.1 _ (List.getElem_mem hlt)).1).symm⟩
  exact fun _=>⟨fun q2=>(decide_eq_false fun z=>q2 (z.1 _ (List.getElem_mem hlt)).2).symm,fun q2=>⟨k + 1,IntWalk.i64_in _ (by omega),⟨hlt,aHM hlt hkl q q2⟩,by omega⟩⟩
 ·obtain rfl:k = y.length:=by omega
  simp -dsimp -implicitDefEqProofs only [go_sem,↓reduceIte,Tryz.f113,Nat.lt_irrefl,Int.lt_irrefl]
  rw [List.take_length] at hkl
  exact fun _=>decide_eq_decide.2 ⟨fun z=>⟨hkl,z⟩,fun z=>z.2⟩
@[go_sem] def aPH:List Nat:=[0,1,4,5,43]
@[go_sem] def a6J:Marks:=fun id=>match id with | 2=>([11,22],(.op 0 (.op 1 (.op 2 (.op 3 (.op 4 (.op 5 (.op 6 (.op 7 (.op 8 (.op 9 (.op 10 (.op 11 (.op 12 (.op 13 (.op 14 (.op 15 (.op 16 (.op 17 (.op 18 (.op 19 (.op 20 (.op 21 (.op 23 (.op 24 (.op 25 (.op 26 (.op 27 (.op 28 (.op 29 (.op 30 (.op 31 (.op 22 (.op 32 (.op 33 (.op 34 .nil))))))))))))))))))))))))))))))))))),[]) | _=>([],.nil,[])
theorem aM4 (p:aE) (hps:p.s≤4194304) (f:Int):dI Tryz.prog 85 [.ip 1 [p.c] 0 0,I f] (I (iN p f eqP)):=by
 have hif:=aXB p hps f
 by_cases h1:p.ok
 ·by_cases h2:0≤f∧f≤(p.aJ.length:Int) - 1
  ·obtain ⟨F,ef,e1,e2,e3⟩:=aFD h1 h2
   rw [if_pos h1,if_pos h2] at hif
   simp only [aE.aQ] at hif ⊢
   rw [e3]
   refine dJ 45 aPH bM a6J mix Tryz.func85 rfl (by kernel_rfl) (by simp) fun h=>?_
   simp -dsimp -implicitDefEqProofs only [go_sem,↓reduceIte,Tryz.f85]
   first | refine aG.mk (hif) ?_ | refine aD.mk (hif) ?_ | refine aG.a5 (hif) ?_ | refine aD.mk (aX.cD (hif)) ?_
   simp -dsimp -implicitDefEqProofs only [go_sem,↓reduceIte,Tryz.f85,ef,aS.aQ]
   refine ⟨h2.1,by omega,?_⟩
   first | refine aG.mk (eH F.a9 2 7) ?_ | refine aD.mk (eH F.a9 2 7) ?_ | refine aG.a5 (eH F.a9 2 7) ?_ | refine aD.mk (aX.cD (eH F.a9 2 7)) ?_
   simp -dsimp -implicitDefEqProofs only [go_sem,↓reduceIte,Tryz.f85,ef,aS.aQ]
   refine ⟨fun q=>⟨h2.1,by omega,h2.1,by omega,fun _=>?_⟩,fun q=>?_⟩
   ·rw [IntWalk.i64_in (F.a9 - 1) (by omega),eqP,decide_eq_true q,Bool.true_and]
    exact ⟨fun q2=>by rw [decide_eq_false q2];rfl,fun q2=>by rw [decide_eq_true q2];rfl⟩
   ·rw [eqP,decide_eq_false q,Bool.false_and];rfl
  ·rw [if_pos h1,if_neg h2] at hif
   have e:iN p f eqP = 2:=by rw [iN,if_pos h1,if_neg h2]
   simp only [aE.aQ] at hif ⊢
   refine dJ 45 aPH bM a6J mix Tryz.func85 rfl (by kernel_rfl) (by simp) fun h=>?_
   simp -dsimp -implicitDefEqProofs only [go_sem,↓reduceIte,Tryz.f85]
   first | refine aG.mk (hif) ?_ | refine aD.mk (hif) ?_ | refine aG.a5 (hif) ?_ | refine aD.mk (aX.cD (hif)) ?_
   simp -dsimp -implicitDefEqProofs only [go_sem,↓reduceIte,Tryz.f85]
   rw [e]
 ·rw [if_neg h1] at hif
  have e:iN p f eqP = 1:=by rw [iN,if_neg h1]
  simp only [aE.aQ] at hif ⊢
  refine dJ 45 aPH bM a6J mix Tryz.func85 rfl (by kernel_rfl) (by simp) fun h=>?_
  simp -dsimp -implicitDefEqProofs only [go_sem,↓reduceIte,Tryz.f85]
  first | refine aG.mk (hif) ?_ | refine aD.mk (hif) ?_ | refine aG.a5 (hif) ?_ | refine aD.mk (aX.cD (hif)) ?_
  simp -dsimp -implicitDefEqProofs only [go_sem,↓reduceIte,Tryz.f85]
  rw [e]
@[go_sem] def aXN:List Nat:=[0,1,2,6,7,35]
theorem aM5 (p:aE) (hps:p.s≤4194304) (f:Int) (y:List (List Int)) (hl:y.length≤4194304):dI Tryz.prog 67 [.ip 1 [p.c] 0 0,I f,bB y] (I (jH p f y)):=by
 have hif:=aM4 p hps f
 by_cases h0:iN p f eqP = 0
 ·obtain ⟨h1,h2,F,ef,e1,e2,e3⟩:=xW h0
  rw [h0] at hif
  have e:jH p f y = if aFQ y (F.a9 - 1) then 0 else 2:=by rw [jH,if_pos h0,e1]
  simp only [aE.aQ] at hif ⊢
  refine dJ 37 aXN bM bC mix Tryz.func67 rfl (by kernel_rfl) (by simp) fun h=>?_
  simp -dsimp -implicitDefEqProofs only [go_sem,↓reduceIte,Tryz.f67]
  have e4:=aPF e3
  have eP:IntKind.i64.wrap (F.a9 - 1) = F.a9 - 1:=IntWalk.i64_in _ (by omega)
  first | refine aG.mk (hif) ?_ | refine aD.mk (hif) ?_ | refine aG.a5 (hif) ?_ | refine aD.mk (aX.cD (hif)) ?_
  simp -dsimp -implicitDefEqProofs only [go_sem,↓reduceIte,Tryz.f67,ef,aS.aQ,eP]
  intro _
  refine ⟨h2.1,h2.2,fun q=>⟨by omega,?_⟩,fun q=>by rw [e,if_neg fun z=>q z.2]⟩
  have e0:y[Int.toNat 0]? = some (y.getD 0 []):=by rw [List.getD_eq_getElem?_getD,show Int.toNat 0 = 0 from rfl,List.getElem?_eq_getElem (by omega)];rfl
  simp -dsimp -implicitDefEqProofs only [go_sem,↓reduceIte,Tryz.f67,e0]
  intro _
  first | refine aG.mk (wQ y hl (y.getD 0 []).length) ?_ | refine aD.mk (wQ y hl (y.getD 0 []).length) ?_ | refine aG.a5 (wQ y hl (y.getD 0 []).length) ?_ | refine aD.mk (aX.cD (wQ y hl (y.getD 0 []).length)) ?_
  simp -dsimp -implicitDefEqProofs only [go_sem,↓reduceIte,Tryz.f67]
  rw [e]
  exact ⟨fun z=>by rw [if_neg fun w=>z w.1],fun z=>by rw [if_pos ⟨z,q⟩]⟩
 ·have e:jH p f y = iN p f eqP:=by rw [jH,if_neg h0]
  generalize iN p f eqP = c at *
  simp only [aE.aQ] at hif ⊢
  refine dJ 37 aXN bM bC mix Tryz.func67 rfl (by kernel_rfl) (by simp) fun h=>?_
  simp -dsimp -implicitDefEqProofs only [go_sem,↓reduceIte,Tryz.f67]
  first | refine aG.mk (hif) ?_ | refine aD.mk (hif) ?_ | refine aG.a5 (hif) ?_ | refine aD.mk (aX.cD (hif)) ?_
  simp -dsimp -implicitDefEqProofs only [go_sem,↓reduceIte,Tryz.f67,h0]
  rw [e]
@[go_sem] def aXO:List Nat:=[0,1,2,3,6,7,24]
theorem a0Y (p:aE) (f:Int) (hps:p.s≤4194304) (y:List (List Int)) (hl:y.length≤4194304):dI Tryz.prog 76 [.agg p.c,I f,bB y] (I (jH p f y)):=by
 have hif:=aPG p f hps
 by_cases h0:iN p f eqP = 0
 ·obtain ⟨h1,h2,F,ef,e1,e2,e3⟩:=xW h0
  rw [h0] at hif
  have e:jH p f y = if aFQ y (F.a9 - 1) then 0 else 2:=by rw [jH,if_pos h0,e1]
  simp only [aE.aQ] at hif ⊢
  refine dJ 26 aXO aD7 bC mix Tryz.func76 rfl (by kernel_rfl) (by simp) fun h=>?_
  simp -dsimp -implicitDefEqProofs only [go_sem,↓reduceIte,Tryz.f76]
  have e4:=aPF e3
  have eP:IntKind.i64.wrap (F.a9 - 1) = F.a9 - 1:=IntWalk.i64_in _ (by omega)
  first | refine aG.mk (hif) ?_ | refine aD.mk (hif) ?_ | refine aG.a5 (hif) ?_ | refine aD.mk (aX.cD (hif)) ?_
  simp -dsimp -implicitDefEqProofs only [go_sem,↓reduceIte,Tryz.f76,ef,aS.aQ,eP]
  refine ⟨h2.1,h2.2,?_⟩
  first | refine aG.mk (aC1 y hl (F.a9 - 1)) ?_ | refine aD.mk (aC1 y hl (F.a9 - 1)) ?_ | refine aG.a5 (aC1 y hl (F.a9 - 1)) ?_ | refine aD.mk (aX.cD (aC1 y hl (F.a9 - 1))) ?_
  simp -dsimp -implicitDefEqProofs only [go_sem,↓reduceIte,Tryz.f76]
  rw [e]
  exact ⟨fun z=>by rw [if_neg z],fun z=>by rw [if_pos z]⟩
 ·have e:jH p f y = iN p f eqP:=by rw [jH,if_neg h0]
  generalize iN p f eqP = c at *
  simp only [aE.aQ] at hif ⊢
  refine dJ 26 aXO aD7 bC mix Tryz.func76 rfl (by kernel_rfl) (by simp) fun h=>?_
  simp -dsimp -implicitDefEqProofs only [go_sem,↓reduceIte,Tryz.f76]
  first | refine aG.mk (hif) ?_ | refine aD.mk (hif) ?_ | refine aG.a5 (hif) ?_ | refine aD.mk (aX.cD (hif)) ?_
  simp -dsimp -implicitDefEqProofs only [go_sem,↓reduceIte,Tryz.f76,h0]
  rw [e]
def tS (sz:Nat):List Int:=(bJ 0 sz).set 1 1
theorem aFR (sz:Nat):(tS sz).length = sz:=by simp [tS,bJ]
theorem nA (sz:Nat):bJ 0 sz = List.replicate sz 0:=by
 cases sz with
 |zero=>rfl
 |succ q=>rw [bJ,List.replicate_succ,List.set_cons_zero]
theorem a6K (sz:Nat):bD sz (tS sz):=⟨aFR sz,fun x hx=>by
 rw [tS,nA] at hx
 rcases List.mem_or_eq_of_mem_set hx with hx | rfl
 ·rw [(List.mem_replicate.1 hx).2];exact nN
 ·decide⟩
theorem a0Z {sz:Nat} (h:1≤sz):(tS sz).getD 0 0 = 0:=by
 obtain ⟨q,rfl⟩:∃ q,sz = q + 1:=⟨sz - 1,by omega⟩
 rw [tS,nA,List.replicate_succ];rfl
theorem a00 {sz:Nat} (hs:1≤sz∧sz≤1048576):dI Tryz.prog 145 [I sz] (ints (tS sz)):=by
 have hown:=aA1 0 hs
 have hc:=oF 0 sz
 refine j7 11 a2C bM bC mix Tryz.func145 rfl (by kernel_rfl) (by simp) fun h=>?_
 simp -dsimp -implicitDefEqProofs only [go_sem,↓reduceIte,Tryz.f145]
 refine aG.wn0 (hown) ?_
 rintro r_ l_ g ⟨y_,oy_,rfl,rfl⟩ zO
 rcases oy_.vL with ⟨_,q_⟩ | ⟨m,rfl⟩
 ·rw [q_] at hc;simp at hc;omega
 rw [OV.iQ]
 rw [OV.cK,fW,eS] at zO
 obtain ⟨zm,rfl⟩:=zO.pE
 have e1:sz≤1→bJ 0 sz = tS sz:=fun q=>by rw [tS,List.set_eq_of_length_le (by rw [hc];exact q)]
 have e3:(bJ 0 sz).length = (tS sz).length:=by rw [hc,aFR]
 simp -dsimp -implicitDefEqProofs only [go_sem,↓reduceIte,Tryz.f145,hc,mF]
 refine ⟨fun q=>⟨by omega,?_⟩,fun q=>?_⟩
 ·have e5:(bJ 0 sz)[Int.toNat 1]? = some 0:=by rw [nA,List.getElem?_replicate,if_pos (show Int.toNat 1 < sz by rw [show Int.toNat 1 = 1 from rfl];omega)]
  simp -dsimp -implicitDefEqProofs only [go_sem,↓reduceIte,Tryz.f145,e5]
  rw [aO,show Int.toNat 1 = 1 from rfl,nL I,← tS]
  exact fS (tS sz) zm (aA.le_refl _) (aFR sz).symm
 ·rw [e1 (by omega)]
  exact fS (tS sz) zm (aA.le_refl _) (aFR sz).symm
@[go_sem] def a01:List Nat:=[0,2,3,8]
theorem aFS {sz:Nat} (hs:1≤sz∧sz≤1048576):dI Tryz.prog 110 [I ((sz:Int) - 1)] (ints (tS sz)):=by
 have e2:=aCK (x:=[aC.int .i64 0]) hs.1
 have e1:IntKind.i64.wrap ((sz:Int) - 1 + 1) = (sz:Int):=by rw [IntWalk.i64_in _ (by omega)];omega
 refine j7 12 a01 bM bC mix Tryz.func110 rfl (by kernel_rfl) (by simp) fun h=>?_
 simp -dsimp -implicitDefEqProofs only [go_sem,↓reduceIte,Tryz.f110,Int.toNat_natCast,e2,e1]
 refine ⟨Nat.zero_lt_one,Nat.le_refl _,by omega,by omega,fun m hm=>⟨fun q=>⟨by omega,?_⟩,fun q=>?_⟩⟩
 ·have e4:(List.replicate sz [aC.int .i64 0])[Int.toNat 1]? = some [aC.int .i64 0]:=by rw [List.getElem?_replicate,if_pos (show Int.toNat 1 < sz by rw [show Int.toNat 1 = 1 from rfl];omega)]
  simp -dsimp -implicitDefEqProofs only [go_sem,↓reduceIte,Tryz.f110,e4]
  rw [aO,show Int.toNat 1 = 1 from rfl,s9,nL I,← nA,← tS]
  exact fS (tS sz) hm (aA.le_refl _) (aFR sz).symm
 ·obtain rfl:sz = 1:=by omega
  exact fS (tS 1) hm (aA.le_refl _) rfl
@[go_sem] def aXP:List Nat:=[0,2,3,4,14]
theorem aSC {y:List (List Int)} {sz:Nat} (hy:c5 sz y.length y) (hl:1≤y.length∧y.length≤12) (hs:1≤sz∧sz≤1048576):dI Tryz.prog 68 [bB y] (bB (tS sz :: y)):=by
 have ht:=a00 hs
 have e0:y[Int.toNat 0]? = some (y.getD 0 []):=(hy.get (by omega)).1
 have e0l:=(hy.get (show 0 < y.length by omega)).2.1
 refine j7 25 aXP aQO bC mix Tryz.func68 rfl (by kernel_rfl) (by simp) fun h=>?_
 simp -dsimp -implicitDefEqProofs only [go_sem,↓reduceIte,Tryz.f68,e0,e0l]
 refine ⟨by omega,fun _=>?_⟩
 first | refine aG.mk (ht) ?_ | refine aD.mk (ht) ?_ | refine aG.a5 (ht) ?_ | refine aD.mk (aX.cD (ht)) ?_
 simp -dsimp -implicitDefEqProofs only [go_sem,↓reduceIte,Tryz.f68]
 refine ⟨Nat.zero_lt_one,Nat.zero_lt_one,?_⟩
 have hyl:=hy.1
 refine bQ (keep:=aXP) (ib:=aQO) (mk:=bC) mix (by kernel_rfl) (fun x:Nat × Option Nat=>[(0,bB y),(3,match x.2 with | none=>aC.sl 1 [[ints (tS sz)]] true | some b=>.os b 1 0 (x.1 + 1)),(4,I x.1)]) (fun x=>gB h (.row 1 (((tS sz :: y.take x.1).map fun s=>[ints s]).map (List.map .v))) x.2) (fun x=>x.1≤y.length∧match x.2 with | none=>x.1 = 0 | some b=>h b = none) (fun x=>y.length - x.1) (0,none) ⟨by simp [bU,bF],by simp only [aP];exact aA.le_refl _,Nat.zero_le _,rfl⟩ ?_
 rintro ⟨k,o⟩ ⟨hk,hos⟩
 simp only at hk hos ⊢
 rcases Nat.lt_or_ge k y.length with hlt | hge
 ·have ea:=(hy.get hlt).1
  have hy2:tS sz :: y.take (k + 1) = (tS sz :: y.take k) ++ [y.getD k []]:=by
   rw [List.take_succ_eq_append_getElem hlt,List.getD_eq_getElem?_getD,List.getElem?_eq_getElem hlt];rfl
  have hlk:(tS sz :: y.take k).length = k + 1:=by rw [List.length_cons,List.length_take];omega
  cases o with
  |none =>
   simp only at hos
   subst hos
   simp -dsimp -implicitDefEqProofs only [go_sem,↓reduceIte,Tryz.f68,aP,hlt,ea]
   refine fun _=>⟨by decide,by decide,by decide,fun b hb=>⟨(1,some b),⟨rfl,IntWalk.i64_in _ (by omega)⟩,?_,⟨hlt,hb⟩,by simp only;omega⟩⟩
   have:=(List.cons.inj hy2).2
   simp only [Nat.zero_add,List.take_zero] at this
   simp only [this,aK]
   exact aA.le_refl _
  |some m =>
   simp only at hos
   simp -dsimp -implicitDefEqProofs only [go_sem,↓reduceIte,Tryz.f68,aK,hlt,ea,hlk]
   have hk2:(y.take k).length = k:=by rw [List.length_take];omega
   refine fun _=>⟨by decide,by decide,by decide,by omega,by omega,by omega,fun b hb=>⟨(k + 1,some b),⟨rfl,IntWalk.i64_in _ (by omega)⟩,?_,⟨hlt,hb.2⟩,by simp only;omega⟩⟩
   have:=(List.cons.inj hy2).2
   simp only [this,aK]
   generalize y.take k = z at hk2 ⊢
   rw [show List.append z [y.getD k []] = z ++ [y.getD k []] from rfl]
   simp only [List.map_append,List.map_cons,List.map_nil]
   rw [List.take_of_length_le (by rw [List.length_map,List.length_map];omega)]
   exact iX hos
 ·obtain rfl:k = y.length:=by omega
  rw [List.take_of_length_le (Nat.le_refl _)]
  cases o with
  |none=>simp only at hos;omega
  |some m =>
   simp only at hos
   simp -dsimp -implicitDefEqProofs only [go_sem,↓reduceIte,Tryz.f68,aK,Nat.lt_irrefl,Int.lt_irrefl]
   refine fun _=>fH ((tS sz :: y).map fun n=>[ints n]) hos (aA.le_refl _) (by simp [dF,dG]) ?_
   simp [aC.cR,iF,List.take_of_length_le]
@[go_sem] def a3D:List Nat:=[6,16]
theorem without {S:List (List (List Int))} (hS:∀ r∈S,1≤r.length∧r.length≤1048576) (hl:S.length≤1048576):dI Tryz.prog 150 [j2 S] (j2 (S.map fun r=>r.drop 1)):=by
 refine j7 20 aQM a3D bC mix Tryz.func150 rfl (by kernel_rfl) (by simp) fun h=>?_
 simp -dsimp -implicitDefEqProofs only [go_sem,↓reduceIte,Tryz.f150]
 refine ⟨Nat.zero_lt_one,fun _=>?_⟩
 have hcl:(S.map fun r=>r.drop 1).length = S.length:=List.length_map _
 refine bQ (keep:=aQM) (ib:=a3D) (mk:=bC) mix (by kernel_rfl) (fun x:Nat × Option Nat=>[(3,eU 1 ((S.map fun r=>r.drop 1).take x.1).length x.2),(7,j2 S),(8,I S.length),(9,I x.1)]) (fun x=>gB h (.row 1 ((((S.map fun r=>r.drop 1).take x.1).map fun n=>[bB n]).map (List.map .v))) x.2) (fun x=>x.1≤S.length∧eF h ((S.map fun r=>r.drop 1).take x.1) x.2) (fun x=>S.length - x.1) (0,none) ⟨by simp [bU,bF,eU],by simp only [aP];exact aA.le_refl _,Nat.zero_le _,by simp [eF]⟩ ?_
 rintro ⟨k,o⟩ ⟨hk,hos⟩
 simp only at hk hos ⊢
 rcases Nat.lt_or_ge k S.length with hlt | hge
 ·have ea:S[k]? = some S[k]:=List.getElem?_eq_getElem hlt
  have h1:=hS _ (List.getElem_mem hlt)
  have hy:(S.map fun r=>r.drop 1).take (k + 1) = (S.map fun r=>r.drop 1).take k ++ [(S.map fun r=>r.drop 1)[k]'(by omega)]:=List.take_succ_eq_append_getElem (by omega)
  have hlk:((S.map fun r=>r.drop 1).take k).length = k:=by rw [List.length_take];omega
  rw [List.getElem_map] at hy
  have hd:aC.sl 1 (List.drop (Int.toNat 1) (List.take S[k].length (List.map (fun s=>[ints s]) S[k]))) false = bB (S[k].drop 1):=by
   rw [List.take_of_length_le (by rw [List.length_map];exact Nat.le_refl _),show Int.toNat 1 = 1 from rfl,← List.map_drop]
  cases o with
  |none =>
   rw [a6] at hos
   rw [hos] at hy ⊢
   simp -dsimp -implicitDefEqProofs only [go_sem,↓reduceIte,Tryz.f150,a8,aP,hlt,ea]
   rw [hd]
   repeat' (with_reducible first | intro _ | refine And.intro ?_ ?_)
   all_goals try (first | omega | decide)
   rename_i b hb
   refine ⟨(k + 1,some b),?_⟩
   simp only [hy]
   refine ⟨⟨rfl,?_⟩,aA.le_refl _,⟨by omega,hb⟩,by omega⟩
   rw [IntWalk.i64_in _ (by omega)];rfl
  |some n =>
   rw [aU] at hos
   simp -dsimp -implicitDefEqProofs only [go_sem,↓reduceIte,Tryz.f150,aT,aK,hlt,ea]
   rw [hd]
   repeat' (with_reducible first | intro _ | refine And.intro ?_ ?_)
   all_goals try (first | omega | decide | exact Nat.le_refl _)
   rename_i b hb
   refine ⟨(k + 1,some b),?_⟩
   simp only [hy,aK,aT,aU]
   refine ⟨⟨by rw [List.length_append];rfl,?_⟩,?_,⟨by omega,hb.2⟩,by omega⟩
   ·rw [IntWalk.i64_in _ (by omega)];rfl
   ·rw [← dQ];exact iX hos
 ·have hk':k = S.length:=by omega
  subst hk'
  rw [List.take_of_length_le (by omega)] at hos ⊢
  cases o with
  |none =>
   rw [a6] at hos
   simp -dsimp -implicitDefEqProofs only [go_sem,↓reduceIte,Tryz.f150,a8,aP,Nat.lt_irrefl,Int.lt_irrefl]
   rw [hos]
   exact Shift.of (Sub.loose _ _ _) (aA.le_refl _)
  |some m =>
   rw [aU] at hos
   simp -dsimp -implicitDefEqProofs only [go_sem,↓reduceIte,Tryz.f150,aT,aK,Nat.lt_irrefl,Int.lt_irrefl]
   refine fH ((S.map fun r=>r.drop 1).map fun n=>[bB n]) hos (aA.le_refl _) (by simp [dF,dG]) ?_
   simp [aC.cR,iF,List.take_of_length_le]
def gD (n:Nat) (M:Nat→Nat→List Int) (y:List (List Int)):List (List Int) × Bool:=match pD rR n M n with
 |some A=>(gJ n fun i=>jQ (y.getD i []) (A i n),true)
 |none=>([],false)
@[go_sem] def aPI:List Nat:=[0,1,2,6,7,8,9,10,11,12,20,22,23,24,25]
@[go_sem] def a6L:List Nat:=[21,36]
theorem a02 {d sz:Nat} (hn:1≤d∧d≤12) (hsz:1≤sz∧sz≤1048576) {y:List (List Int)} {a:List (List (List Int))} {B:List (List Int)} (hys:c5 sz d y) (hal:a.length = d) (ha:∀ i,i < d→c5 sz d (a.getD i [])) (hb:c5 sz d B) {M:Nat→Nat→List Int} (hM:M = gV d (fun i k=>(a.getD i []).getD k []) fun i=>B.getD i []) :
  rN Tryz.prog 78 [bB y,j2 a,bB B] (QS (OS (oL I) 1 (gD d M y).1) (fun z=>.gW [z,.bool (gD d M y).2])):=by
 have hs:=solved hn hsz hal ha hb hM
 have hMok:okM (bD sz) d M:=fun i hi k hk=>by
  rw [hM];unfold gV
  split
  ·exact ((ha i hi).get (by assumption)).2
  ·exact (hb.get hi).2
 cases hA:pD rR d M d with
 |none =>
  rw [aO9,hA] at hs
  rw [gD,hA]
  refine pI 40 aPI a6L bC mix Tryz.func78 rfl (by kernel_rfl) (by simp) fun h=>?_
  simp -dsimp -implicitDefEqProofs only [go_sem,↓reduceIte,Tryz.f78]
  first | refine aG.mk (hs) ?_ | refine aD.mk (hs) ?_ | refine aG.a5 (hs) ?_ | refine aD.mk (aX.cD (hs)) ?_
  simp -dsimp -implicitDefEqProofs only [go_sem,↓reduceIte,Tryz.f78]
  exact ⟨.gW [(OV.nil 1).val,.bool false],h,[],Shift.of (Sub.gW (.cons (Sub.nil 1 true) (.cons (.refl _) .nil))) (aA.le_refl _),⟨_,OS.nil,rfl,by rw [OV.kZ]⟩,g8.nil h⟩
 |some A =>
  rw [aO9,hA] at hs
  rw [gD,hA]
  have hAs:=(zK (aCV sz) hMok d (Nat.le_refl _) A hA).1
  simp only at hs ⊢
  generalize hX:(gJ d fun i=>A i d) = X at hs
  have hXg:∀ i,i < d→X[i]? = some (A i d):=fun i hi=>by rw [← hX,e8 _ hi]
  have hXl:X.length = d:=by rw [← hX,bX]
  have hyl:=hys.1
  obtain ⟨Z,hZ⟩:∃ Z,Z = gJ d fun i=>jQ (y.getD i []) (A i d):=⟨_,rfl⟩
  have hZl:Z.length = d:=by rw [hZ,bX]
  rw [← hZ]
  refine pI 40 aPI a6L bC mix Tryz.func78 rfl (by kernel_rfl) (by simp) fun h=>?_
  simp -dsimp -implicitDefEqProofs only [go_sem,↓reduceIte,Tryz.f78]
  first | refine aG.mk (hs) ?_ | refine aD.mk (hs) ?_ | refine aG.a5 (hs) ?_ | refine aD.mk (aX.cD (hs)) ?_
  simp -dsimp -implicitDefEqProofs only [go_sem,↓reduceIte,Tryz.f78]
  refine ⟨Nat.zero_lt_one,fun _=>?_⟩
  refine bQ (keep:=aPI) (ib:=a6L) (mk:=bC) mix (by kernel_rfl) (fun x:Nat × LLx=>[(8,bB X),(10,eU 1 x.1 x.2.1),(22,bB y),(23,I d),(24,I x.1)]) (fun x=>wZ x.2) (fun x=>x.1≤d∧LLG h (Z.take x.1) x.2) (fun x=>d - x.1) (0,none,[],h) ⟨by simp [bU,bF,eU,hyl],aA.le_refl _,Nat.zero_le _,LLG.init _⟩ ?_
  rintro ⟨k,op,es,g⟩ ⟨hk,H⟩
  simp only at hk H ⊢
  rcases Nat.lt_or_ge k d with hlt | hge
  ·have ey:=hys.get hlt
   have eX:=hXg k hlt
   have hak:=hAs k hlt d (by omega)
   have hy:Z.take (k + 1) = Z.take k ++ [jQ (y.getD k []) (A k d)]:=by
    rw [List.take_succ_eq_append_getElem (by omega)]
    congr 2
    simp [hZ,gJ]
   have hlk:(Z.take k).length = k:=by rw [List.length_take];omega
   have tZ:=H.len
   simp only [hlk] at tZ
   have hown:=aLW (y.getD k []) (A k d) (by rw [hak.1,ey.2.1]) (by rw [ey.2.1];omega) ey.2.2 hak.2
   have hc:(jQ (y.getD k []) (A k d)).length = sz:=(lB ey.2 hak).1
   cases op with
   |none =>
    obtain ⟨h1,rfl,rfl⟩:=H.nil
    obtain rfl:k = 0:=by rw [← hlk,h1];rfl
    simp -dsimp -implicitDefEqProofs only [go_sem,↓reduceIte,Tryz.f78,hlt,ey.1,eX,hXl,a8,wZ,aP]
    refine ⟨by omega,?_⟩
    refine aG.wn0 (hown) ?_
    rintro r_ l_ g ⟨y_,oy_,rfl,rfl⟩ zO
    rcases oy_.vL with ⟨_,q_⟩ | ⟨m,rfl⟩
    ·rw [q_] at hc;simp at hc;omega
    rw [OV.iQ]
    rw [OV.cK,fW,eS] at zO
    obtain ⟨zm,rfl⟩:=zO.pE
    simp -dsimp -implicitDefEqProofs only [go_sem,↓reduceIte,Tryz.f78,hc,a8]
    refine ⟨Nat.zero_lt_one,Nat.zero_lt_one,Nat.zero_lt_one,fun b ⟨b1,b2⟩=>?_⟩
    obtain ⟨x',e',H',L'⟩:=H.fin (m:=m) (b:=b) (s:=jQ (y.getD 0 []) (A 0 d)) (hc) zm b2 b1 (aA.le_refl _)
    refine ⟨(1,x'),⟨by simp only [e'];rfl,IntWalk.i64_in _ (by omega)⟩,L',⟨hlt,by simp only;rw [hy];exact H'⟩,by simp only;omega⟩
   |some n =>
    simp -dsimp -implicitDefEqProofs only [go_sem,↓reduceIte,Tryz.f78,hlt,ey.1,eX,hXl,aT,wZ,aK,lA,tZ]
    refine ⟨by omega,?_⟩
    refine aG.wn1 (hown) H.2.2 ?_
    rintro r_ l_ g' ⟨y_,oy_,rfl,rfl⟩ zO zn
    rcases oy_.vL with ⟨_,q_⟩ | ⟨m,rfl⟩
    ·rw [q_] at hc;simp at hc;omega
    rw [OV.iQ]
    rw [OV.cK,fW,eS] at zO
    obtain ⟨zm,rfl⟩:=zO.pE
    have jE:¬ m = n:=fun e=>by rw [e,aH] at zn;cases zn
    have o5:¬ n = m:=Ne.symm jE
    have c8:(m = n) = False:=eq_false jE
    have c9:(n = m) = False:=eq_false o5
    simp -dsimp -implicitDefEqProofs only [go_sem,↓reduceIte,Tryz.f78,hc,c8,c9,aF,lA,tZ,aT]
    refine ⟨Nat.zero_lt_one,Nat.zero_lt_one,Nat.zero_lt_one,Nat.le_refl _,by omega,by omega,fun b ⟨bn,bm,bz⟩=>?_⟩
    rw [show List.take k (OV.cells es) = OV.cells es from tZ ▸ s8 es]
    refine ⟨(k + 1,some b,es ++ [oI m (jQ (y.getD k []) (A k d))],a7 g m (mF (jQ (y.getD k []) (A k d)))),⟨rfl,IntWalk.i64_in _ (by omega)⟩,?_,⟨hlt,by simp only;rw [hy];exact H.snoc (jQ (y.getD k []) (A k d)) zm bz bm⟩,by simp only;omega⟩
    show (wZ (some b,es ++ [oI m (jQ (y.getD k []) (A k d))],a7 g m (mF (jQ (y.getD k []) (A k d))))).le _
    rw [wZ.snoc,show List.length (jQ (y.getD k []) (A k d)) = _ from hc]
    exact aCY H.2.2 jE bn (fun q hq=>by simp only [dX,if_neg hq];(repeat' split) <;> first | rfl | contradiction)
  ·obtain rfl:k = d:=by omega
   simp -dsimp -implicitDefEqProofs only [go_sem,↓reduceIte,Tryz.f78,Nat.lt_irrefl,Int.lt_irrefl]
   rw [List.take_of_length_le (by omega)] at H
   obtain ⟨z,hz,hv,hw⟩:=H.done
   rw [hZl] at hv
   rw [← hv]
   exact ⟨_,wZ (op,es,g),_,aZ _ _,⟨z,hz,rfl,rfl⟩,hw⟩
def hdY (y:List (List Int)):List Int:=0 :: y.map fun s=>s.getD 0 0
structure uB (p:aE) (f:Int) (y:List (List Int)) (n sz:Nat):Prop where
 ok:p.ok
 fn:0≤f∧f < p.aJ.length
 hn:1≤n∧n≤6
 hs:1≤sz∧sz≤13
 ser:c5 sz n y
 hl:(hdY y).length = n + 1
 ns:hH (hdY y)
 par:∀ F,p.aJ[f.toNat]? = some F→((hdY y).length:Int) = F.a9
 outs:(p.outs f).length = n
 st:St (hdY y) sz (tS sz :: y)
 e0:(y.getD 0 []).length = sz
theorem qP {p:aE} {f:Int} {y:List (List Int)} (h:jH p f y = 0):uB p f y y.length (y.getD 0 []).length:=by
 by_cases h0:iN p f eqP = 0
 ·obtain ⟨h1,h2,F,ef,e1,e2,e3⟩:=xW h0
  have e4:=aPF e3
  rw [jH,if_pos h0,e1] at h
  by_cases hg:aFQ y (F.a9 - 1)
  ·have hlen:=hg.2
   have hy0:y.getD 0 []∈y:=by
    rw [List.getD_eq_getElem?_getD,List.getElem?_eq_getElem (show 0 < y.length by omega)];exact List.getElem_mem _
   have qQ:=(hg.1 _ hy0).1.1
   have hser:c5 (y.getD 0 []).length y.length y:=⟨rfl,fun s hs=>⟨(hg.1 s hs).2,(hg.1 s hs).1.2⟩⟩
   have hhl:(hdY y).length = y.length + 1:=by simp [hdY]
   refine ⟨h1,h2,by omega,qQ,hser,hhl,fun x hx=>?_,fun G hG=>by rw [ef] at hG;cases hG;omega,by rw [e2];omega,⟨⟨by simp [hdY],fun s hs=>?_⟩,fun i hi=>?_⟩,rfl⟩
   ·rcases List.mem_cons.1 hx with rfl | hx
    ·exact nN
    ·obtain ⟨s,hs,rfl⟩:=List.mem_map.1 hx
     exact (hser.2 s hs).2.get 0
   ·rcases List.mem_cons.1 hs with rfl | hs
    ·exact a6K _
    ·exact hser.2 s hs
   ·cases i with
    |zero=>exact a0Z qQ.1
    |succ i =>
     rw [hhl] at hi
     show (y.getD i []).getD 0 0 = (y.map fun s=>s.getD 0 0).getD i 0
     simp [List.getD_eq_getElem?_getD,List.getElem?_map,List.getElem?_eq_getElem (show i < y.length by omega)]
  ·rw [if_neg hg] at h;cases h
 ·rw [jH,if_neg h0] at h;exact absurd h h0
theorem aM6 {start:List Int} {sz:Nat} {X:List (List Int)} (hX:St start sz X):X.map (·.getD 0 0) = start:=by
 apply List.ext_getElem
 ·rw [List.length_map,hX.1.1]
 ·intro i a b
  have:=hX.2 i b
  rw [List.length_map] at a
  have h1:X[i] = X.getD i []:=by rw [List.getD_eq_getElem?_getD,List.getElem?_eq_getElem a];rfl
  have h2:start[i] = start.getD i 0:=by rw [List.getD_eq_getElem?_getD,List.getElem?_eq_getElem b];rfl
  rw [List.getElem_map,h1,h2];exact this
theorem a3E {h g:aA} (c:Int) (hl:h.le g):Shift (.gW [.bO,.bO,I c]) g (.gW [bB [],j2 [],I c]) h :=
 Shift.of (Sub.gW (.cons (Sub.nil 1 false) (.cons (Sub.nil 1 false) (.cons (.refl _) .nil)))) hl
theorem a03 {p:aE} (hp:p.ok) (hps:p.s≤4194304) {sz:Nat} (hsz:1≤sz∧sz≤1048576) (f:Int) (hf:0≤f∧f < p.aJ.length) {start:List Int} (ns:hH start) (hs:1≤start.length∧start.length≤12) (hl:∀ F,p.aJ[f.toNat]? = some F→(start.length:Int) = F.a9) {c:Int} (hr:rP p f start = .error c) {X:List (List Int)} (hX:St start sz X) :
  dI Tryz.prog 58 [.agg p.c,I f,bB X] (.gW [bB [],j2 [],I c]):=by
 have hfi:=aV3 X (by rw [hX.1.1];omega) (fun s hs'=>by rw [(hX.1.2 s hs').1];exact hsz.1)
 rw [aM6 hX] at hfi
 have hrc:=aWE hp hps f hf start ns (by omega) hl
 rw [show nQ p f start = (⟨0,[],[],[]⟩,c) by rw [nQ,hr]] at hrc
 have hc:=aCJ p 1 f _ c (aCZ hp hf ns hl hr).1
 simp only [aE.aQ,jS.aQ] at hrc ⊢
 refine j7 63 aO6 a52 a53 mix Tryz.func58 rfl (by kernel_rfl) (by simp) fun h=>?_
 simp -dsimp -implicitDefEqProofs only [go_sem,↓reduceIte,Tryz.f58]
 first | refine aG.mk (hfi) ?_ | refine aD.mk (hfi) ?_ | refine aG.a5 (hfi) ?_ | refine aD.mk (aX.cD (hfi)) ?_
 simp -dsimp -implicitDefEqProofs only [go_sem,↓reduceIte,Tryz.f58]
 first | refine aG.mk (hrc) ?_ | refine aD.mk (hrc) ?_ | refine aG.a5 (hrc) ?_ | refine aD.mk (aX.cD (hrc)) ?_
 simp -dsimp -implicitDefEqProofs only [go_sem,↓reduceIte,Tryz.f58]
 exact fun n zn=>⟨fun _=>by rw [aO];exact a3E c (aA.bI zn (aA.le_refl _)),fun q=>absurd hc (by omega)⟩
@[go_sem] def aXQ:List Nat:=[0,1,2,3,6,7,8,9,10,11,12,28]
@[go_sem] def bB2:List Nat:=[3,16]
theorem aXR {p:aE} (hps:p.s≤4194304) {f:Int} {y:List (List Int)} {n sz:Nat} (G:uB p f y n sz) {L:List Int} {F:bY} {u:Nat} (hr:rP p f (hdY y) = .ok ((L,F),u)) (T:aR1 p f (hdY y) L F u) :
  dI Tryz.prog 77 [.agg p.c,I f,bB y] (.gW [bB (L.map fun r=>lR sz (tS sz :: y) F.code r.toNat),j2 ((sO F.code L (hJ sz (tS sz :: y) F.code F.code.length) sz (n + 1)).map fun r=>r.drop 1),I 0]):=by
 have ho:=aJP G.ser (by have:=G.hn;omega)
 have hsz:1≤sz∧sz≤1048576:=by have:=G.hs;omega
 have ht:=aFS hsz
 have hlin:=a54 G.ok hps hsz f G.fn G.ns (by rw [G.hl];have:=G.hn;omega) G.par hr T G.st
 rw [G.hl] at hlin
 have hw:=without (S:=sO F.code L (hJ sz (tS sz :: y) F.code F.code.length) sz (n + 1)) (fun r hr=>by
  obtain ⟨o,_,rfl⟩:=List.mem_map.1 hr
  have:=(aFE (i:=o) hsz T.ins (zN T.ins G.st.1) T.outs).1
  rw [G.hl] at this
  have:=G.hn
  omega) (by
  rw [sO,List.length_map,List.length_range,T.ll,G.outs]
  have:=G.hn
  omega)
 have hyl:=G.ser.1
 generalize (L.map fun r=>lR sz (tS sz :: y) F.code r.toNat) = A at *
 generalize sO F.code L (hJ sz (tS sz :: y) F.code F.code.length) sz (n + 1) = B at *
 simp only [aE.aQ] at hlin ⊢
 refine j7 33 aXQ bB2 bC mix Tryz.func77 rfl (by kernel_rfl) (by simp) fun h=>?_
 simp -dsimp -implicitDefEqProofs only [go_sem,↓reduceIte,Tryz.f77]
 first | refine aG.mk (ho) ?_ | refine aD.mk (ho) ?_ | refine aG.a5 (ho) ?_ | refine aD.mk (aX.cD (ho)) ?_
 simp -dsimp -implicitDefEqProofs only [go_sem,↓reduceIte,Tryz.f77]
 first | refine aG.mk (ht) ?_ | refine aD.mk (ht) ?_ | refine aG.a5 (ht) ?_ | refine aD.mk (aX.cD (ht)) ?_
 simp -dsimp -implicitDefEqProofs only [go_sem,↓reduceIte,Tryz.f77]
 have hn:=G.hn
 refine ⟨by decide,by decide,by decide,fun q=>?_,fun _=>⟨by omega,by omega,fun m hm=>?_⟩⟩
 ·rw [List.map_eq_nil_iff.1 q] at hyl;simp at hyl;omega
 refine aG.aRF (n:=m) (es:=(tS sz :: y).map fun s=>[ints s]) hlin (by simp [dG,dF];omega) (by simp only [iF,aC.cR];rw [if_pos (by simp),List.take_of_length_le (by simp;omega)];rfl) ?_
 simp -dsimp -implicitDefEqProofs only [go_sem,↓reduceIte,Tryz.f77]
 first | refine aG.mk (hw) ?_ | refine aD.mk (hw) ?_ | refine aG.a5 (hw) ?_ | refine aD.mk (aX.cD (hw)) ?_
 simp -dsimp -implicitDefEqProofs only [go_sem,↓reduceIte,Tryz.f77]
 exact Shift.of (Sub.refl _) (aA.bI hm (aA.le_refl _))
theorem aTP {p:aE} (hps:p.s≤4194304) {f:Int} {y:List (List Int)} {n sz:Nat} (G:uB p f y n sz) {c:Int} (hr:rP p f (hdY y) = .error c) :
  dI Tryz.prog 77 [.agg p.c,I f,bB y] (.gW [bB [],j2 [],I c]):=by
 have ho:=aJP G.ser (by have:=G.hn;omega)
 have hsz:1≤sz∧sz≤1048576:=by have:=G.hs;omega
 have ht:=aFS hsz
 have hlin:=a03 G.ok hps hsz f G.fn G.ns (by rw [G.hl];have:=G.hn;omega) G.par hr G.st
 have hc:=aCJ p 1 f _ c (aCZ G.ok G.fn G.ns G.par hr).1
 have hyl:=G.ser.1
 simp only [aE.aQ] at hlin ⊢
 refine j7 33 aXQ bB2 bC mix Tryz.func77 rfl (by kernel_rfl) (by simp) fun h=>?_
 simp -dsimp -implicitDefEqProofs only [go_sem,↓reduceIte,Tryz.f77]
 first | refine aG.mk (ho) ?_ | refine aD.mk (ho) ?_ | refine aG.a5 (ho) ?_ | refine aD.mk (aX.cD (ho)) ?_
 simp -dsimp -implicitDefEqProofs only [go_sem,↓reduceIte,Tryz.f77]
 first | refine aG.mk (ht) ?_ | refine aD.mk (ht) ?_ | refine aG.a5 (ht) ?_ | refine aD.mk (aX.cD (ht)) ?_
 simp -dsimp -implicitDefEqProofs only [go_sem,↓reduceIte,Tryz.f77]
 have hn:=G.hn
 refine ⟨by decide,by decide,by decide,fun q=>?_,fun _=>⟨by omega,by omega,fun m hm=>?_⟩⟩
 ·rw [List.map_eq_nil_iff.1 q] at hyl;simp at hyl;omega
 refine aG.aRF (n:=m) (es:=(tS sz :: y).map fun s=>[ints s]) hlin (by simp [dG,dF];omega) (by simp only [iF,aC.cR];rw [if_pos (by simp),List.take_of_length_le (by simp;omega)];rfl) ?_
 simp -dsimp -implicitDefEqProofs only [go_sem,↓reduceIte,Tryz.f77]
 exact ⟨fun _=>a3E c (aA.bI hm (aA.le_refl _)),fun q=>absurd hc (by omega)⟩
def aN (L:List Int) (F:bY) (sz:Nat) (y:List (List Int)):List (List (List Int)):=(sO F.code L (hJ sz (tS sz :: y) F.code F.code.length) sz (y.length + 1)).map fun r=>r.drop 1
def bN (L:List Int) (F:bY) (sz:Nat) (y:List (List Int)):List (List Int):=L.map fun r=>lR sz (tS sz :: y) F.code r.toNat
def mN (L:List Int) (F:bY) (sz:Nat) (y:List (List Int)):Nat→Nat→List Int:=gV y.length (fun i k=>((aN L F sz y).getD i []).getD k []) fun i=>(bN L F sz y).getD i []
noncomputable def c6 (p:aE) (f:Int) (y:List (List Int)):List (List Int) × Int:=if jH p f y = 0 then match rP p f (hdY y) with
 | .ok ((L,F),_)=>((gD y.length (mN L F (y.getD 0 []).length y) y).1,if (gD y.length (mN L F (y.getD 0 []).length y) y).2 then 0 else 6)
 | .error c=>([],c)
 else ([],jH p f y)
theorem uB.tape {p:aE} {f:Int} {y:List (List Int)} {n sz:Nat} (G:uB p f y n sz) {L:List Int} {F:bY} {u:Nat} (hr:rP p f (hdY y) = .ok ((L,F),u)):aR1 p f (hdY y) L F u∧L.length = n:=by
 have T:=bBQ G.ok G.fn G.ns (by rw [G.hl];have:=G.hn;omega) G.par hr
 exact ⟨T,by rw [T.ll,G.outs]⟩
theorem uB.sys {p:aE} {f:Int} {y:List (List Int)} {sz:Nat} (G:uB p f y y.length sz) {L:List Int} {F:bY} {u:Nat} (hr:rP p f (hdY y) = .ok ((L,F),u)):(aN L F sz y).length = y.length∧(∀ i,i < y.length→c5 sz y.length ((aN L F sz y).getD i []))∧c5 sz y.length (bN L F sz y):=by
 obtain ⟨T,hL⟩:=G.tape hr
 have hsz:1≤sz∧sz≤1048576:=by have:=G.hs;omega
 have hal:(aN L F sz y).length = y.length:=by simp [aN,sO,hL]
 refine ⟨hal,fun i hi=>?_,by rw [bN,List.length_map,hL],fun s hs=>?_⟩
 ·have h1:=aFE (i:=i) hsz T.ins (zN T.ins G.st.1) T.outs
  have e:(aN L F sz y).getD i [] = (aMQ F.code L (hJ sz (tS sz :: y) F.code F.code.length) sz (y.length + 1) i).drop 1:=by
   rw [List.getD_eq_getElem?_getD,List.getElem?_eq_getElem (by omega)]
   simp [aN,sO]
  rw [G.hl] at h1
  rw [e]
  exact ⟨by rw [List.length_drop,h1.1];omega,fun s hs=>h1.2 s (List.mem_of_mem_drop hs)⟩
 ·obtain ⟨r,hr',rfl⟩:=List.mem_map.1 hs
  have:=T.outs r hr'
  exact tQ T.ins G.st.1.2 (by rw [G.st.1.1]) _ (by omega)
theorem aJ0 {n:Nat} {M:Nat→Nat→List Int} {y:List (List Int)} (h:(gD n M y).2 = false):(gD n M y).1 = []:=by
 unfold gD at h ⊢
 split at h
 ·cases h
 ·rfl
@[go_sem] def aPJ:List Nat:=[0,1,2,3,6,7,8,9,10,11,12,13,19,30,40]
theorem aFT (p:aE) (hps:p.s≤4194304) (f:Int) (y:List (List Int)) (hl:y.length≤4194304):rN Tryz.prog 22 [.agg p.c,I f,bB y] (QS (OS (oL I) 1 (c6 p f y).1) (fun z=>.gW [z,I (c6 p f y).2])):=by
 have h1:=a0Y p f hps y hl
 by_cases h0:jH p f y = 0
 ·have G:=qP h0
  generalize hsz:(y.getD 0 []).length = sz at G
  rw [h0] at h1
  cases hX:rP p f (hdY y) with
  |ok q =>
   obtain ⟨⟨L,F⟩,u⟩:=q
   obtain ⟨T,hL⟩:=G.tape hX
   obtain ⟨q1,q2,q3⟩:=G.sys hX
   have h2:=aXR hps G hX T
   rw [← aN,← bN] at h2
   have hn:=G.hn
   have hs:=G.hs
   have h3:=a02 (M:=mN L F sz y) (by omega) (by omega) G.ser q1 q2 q3 rfl
   have e:c6 p f y = ((gD y.length (mN L F sz y) y).1,if (gD y.length (mN L F sz y) y).2 then 0 else 6):=by rw [c6,if_pos h0,hX,← hsz]
   rw [e]
   have hW:=aJ0 (n:=y.length) (M:=mN L F sz y) (y:=y)
   generalize gD y.length (mN L F sz y) y = W at *
   generalize aN L F sz y = A at *
   generalize bN L F sz y = B at *
   obtain ⟨W1,W2⟩:=W
   simp only [aE.aQ] at h1 h2 ⊢
   refine pI 42 aPJ aD7 bC mix Tryz.func22 rfl (by kernel_rfl) (by simp) fun h=>?_
   simp -dsimp -implicitDefEqProofs only [go_sem,↓reduceIte,Tryz.f22]
   first | refine aG.mk (h1) ?_ | refine aD.mk (h1) ?_ | refine aG.a5 (h1) ?_ | refine aD.mk (aX.cD (h1)) ?_
   simp -dsimp -implicitDefEqProofs only [go_sem,↓reduceIte,Tryz.f22]
   first | refine aG.mk (h2) ?_ | refine aD.mk (h2) ?_ | refine aG.a5 (h2) ?_ | refine aD.mk (aX.cD (h2)) ?_
   simp -dsimp -implicitDefEqProofs only [go_sem,↓reduceIte,Tryz.f22]
   refine aG.wn0 h3 ?_
   rintro r l g ⟨z,oz,rfl,rfl⟩ wn
   simp -dsimp -implicitDefEqProofs only [go_sem,↓reduceIte,Tryz.f22]
   refine ⟨fun q=>?_,fun q=>?_⟩
   ·subst q
    obtain rfl:W1 = []:=hW rfl
    exact ⟨.gW [(OV.nil 1).val,I 6],h,[],Shift.of (Sub.gW (.cons (Sub.nil 1 true) (.cons (.refl _) .nil))) wn.le,⟨_,OS.nil,rfl,by rw [OV.kZ]⟩,g8.nil h⟩
   ·subst q
    exact ⟨_,g,_,aZ _ _,⟨z,oz,rfl,rfl⟩,wn⟩
  |error c =>
   have h2:=aTP hps G hX
   have hc:=aCJ p 1 f _ c (aCZ G.ok G.fn G.ns G.par hX).1
   rw [show c6 p f y = ([],c) by rw [c6,if_pos h0,hX]]
   simp only [aE.aQ] at h1 h2 ⊢
   refine pI 42 aPJ aD7 bC mix Tryz.func22 rfl (by kernel_rfl) (by simp) fun h=>?_
   simp -dsimp -implicitDefEqProofs only [go_sem,↓reduceIte,Tryz.f22]
   first | refine aG.mk (h1) ?_ | refine aD.mk (h1) ?_ | refine aG.a5 (h1) ?_ | refine aD.mk (aX.cD (h1)) ?_
   simp -dsimp -implicitDefEqProofs only [go_sem,↓reduceIte,Tryz.f22]
   first | refine aG.mk (h2) ?_ | refine aD.mk (h2) ?_ | refine aG.a5 (h2) ?_ | refine aD.mk (aX.cD (h2)) ?_
   simp -dsimp -implicitDefEqProofs only [go_sem,↓reduceIte,Tryz.f22]
   exact ⟨fun _=>aMR _,fun q=>absurd hc (by omega)⟩
 ·rw [show c6 p f y = ([],jH p f y) by rw [c6,if_neg h0]]
  generalize jH p f y = c at *
  rw [aE.aQ] at h1 ⊢
  refine pI 42 aPJ aD7 bC mix Tryz.func22 rfl (by kernel_rfl) (by simp) fun h=>?_
  simp -dsimp -implicitDefEqProofs only [go_sem,↓reduceIte,Tryz.f22]
  first | refine aG.mk (h1) ?_ | refine aD.mk (h1) ?_ | refine aG.a5 (h1) ?_ | refine aD.mk (aX.cD (h1)) ?_
  simp -dsimp -implicitDefEqProofs only [go_sem,↓reduceIte,Tryz.f22,h0]
  exact aMR _
end Go.Hl

/-
  Contracts of functions and laws of the layer over the walk.
-/
import Derived.Test.YtoomflalicffnaaGreatVvD
import Derived.Test.YtoomflalicffnaaGreatVvC
namespace Go.Hl
set_option maxRecDepth 100000
open Go.Proofs
set_option linter.unusedVariables false
set_option linter.unusedSimpArgs false
def vR (sz:Nat):List Int:=List.replicate sz 0
def rQ (r:Int) (s:List Int) (A:List (List Int)):List (List Int):=A.set r.toNat (j8 (A.getD r.toNat []) s)
def l5 (c:aY) (rg:List (List Int)) (k:Nat) (A:List (List Int)):List (List Int) :=
 if c.fX = 3 then rQ c.fB (A.getD k []) (rQ c.fA (A.getD k []) A)
 else if c.fX = 4 then rQ c.fB (gS (A.getD k []) 1000002) (rQ c.fA (A.getD k []) A)
 else if c.fX = 5 then rQ c.fB (mulL (A.getD k []) (rg.getD c.fA.toNat [])) (rQ c.fA (mulL (A.getD k []) (rg.getD c.fB.toNat [])) A)
 else if c.fX = 6 then rQ c.fB (gS (mulL (gH (A.getD k []) (rg.getD c.fB.toNat [])) (rg.getD k [])) 1000002) (rQ c.fA (gH (A.getD k []) (rg.getD c.fB.toNat [])) A)
 else if c.fX = 7 then rQ c.fA (gS (A.getD k []) 1000002) A
 else A
def pM (code:List aY) (rg A:List (List Int)):Nat→Nat→List (List Int)
 |0,_=>A
 |n + 1,j=>l5 (code.getD j ⟨0,0,0,0⟩) rg j (pM code rg A n (j + 1))
def qL (outs ws:List Int) (A:List (List Int)):Nat→List (List Int)
 |0=>A
 |k + 1=>(qL outs ws A k).set (outs.getD k 0).toNat (((qL outs ws A k).getD (outs.getD k 0).toNat []).set 0 ((((qL outs ws A k).getD (outs.getD k 0).toNat []).getD 0 0 + ws.getD k 0) % 1000003))
def c5 (sz n:Nat) (A:List (List Int)):Prop:=A.length = n∧∀ s∈A,bD sz s
theorem c5.get {sz n:Nat} {A:List (List Int)} (h:c5 sz n A) {i:Nat} (hi:i < n):A[i]? = some (A.getD i [])∧bD sz (A.getD i []):=by
 have h1:=lN (env:=A) (i:=i) (by rw [h.1];exact hi)
 exact ⟨h1,h.2 _ (List.mem_of_getElem? h1)⟩
theorem c5.set {sz n:Nat} {A:List (List Int)} (h:c5 sz n A) {s:List Int} (hs:bD sz s) (i:Nat):c5 sz n (A.set i s):=⟨by rw [List.length_set];exact h.1,fun x hx=>by
 rcases List.mem_or_eq_of_mem_set hx with hx | rfl
 ·exact h.2 x hx
 ·exact hs⟩
theorem c5.put {sz n:Nat} {A:List (List Int)} (h:c5 sz n A) {r:Int} (hr:r.toNat < n) {s:List Int} (hs:bD sz s):c5 sz n (rQ r s A):=h.set (m4 (h.get hr).2 hs) _
theorem aG9 (A:List (List Int)) (k:Nat) (s:List Int):bH.row 1 (((A.map fun s=>[ints s]).map (List.map Cell.v)).set k [.v (ints s)]) = b7 (A.set k s):=by
 rw [b7,List.map_set,List.map_set];rfl
@[go_sem] def aZ8:List Nat:=[0,1,2]
@[go_sem] def bBF:Marks:=fun id=>match id with | 0=>([0,2,5,9],(.op 1 (.op 3 (.op 6 (.op 0 (.op 2 (.op 4 (.op 5 (.op 7 (.op 8 (.op 9 .nil)))))))))),[]) | _=>([],.nil,[])
theorem aI9 {sz n:Nat} (hsz:1≤sz∧sz≤1048576) {A:List (List Int)} (hA:c5 sz n A) {r:Int} (hr:0≤r∧r < n) {s:List Int} (hs:bD sz s) {g:aA} {nb b:Nat} (hb:g nb = some (.row 1 [[.v (.os b 1 0 n)]])) (hg:g b = some (b7 A)) :
  fE Tryz.prog 188 [I r,ints s,.op nb 1 0 0] g fun r_ h'=>h' = a7 g b (b7 (rQ r s A)):=by
 have hq:=hA.get (i:=r.toNat) (by omega)
 have hcall:=vN (added (A.getD r.toNat []) s (by rw [hs.1,hq.2.1]) (by rw [hq.2.1];omega) (rE hq.2.2) (rE hs.2))
 unfold b7 at hg
 refine yP 14 aZ8 bM bBF mix Tryz.func188 rfl (by kernel_rfl) (by simp) ?_
 simp -dsimp -implicitDefEqProofs only [go_sem,↓reduceIte,Tryz.f188,hb,hg,hq.1]
 refine ⟨hr.1,hr.2,aD.mk hcall ?_⟩
 simp -dsimp -implicitDefEqProofs only [go_sem,↓reduceIte,Tryz.f188,hb,hg,hq.1]
 exact ⟨hr.1,hr.2,_,by have h1:=aG9 A r.toNat (j8 (A.getD r.toNat []) s);rw [h1];exact aA.le_refl _,rfl⟩
theorem aWO {b sz:Nat}:∀ (N:List Nat) (A pre:List (List Int)) (g:aA),N.length = A.length→N.Nodup→(∀ k n,N[k]? = some n→g n = some (mF (A.getD k []))∧¬ n = b)→(∀ s∈A,s.length = sz)→g b = some (.row 1 ((pre.map fun s=>[ints s]).map (List.map .v) ++ (N.map fun n=>[aC.os n 1 0 sz]).map (List.map .v))) →
  ∃ g':aA,g'.wk g∧g' b = some (b7 (pre ++ A))∧∀ q,¬ q = b→q ∉ N→g' q = g q
 | [],[],pre,g,_,_,_,_,hb=>⟨g,aA.kF (aA.le_refl _),by rw [hb,List.append_nil,List.map_nil,List.map_nil,List.append_nil];rfl,fun _ _ _=>rfl⟩
 | [],_ :: _,_,_,h,_,_,_,_=>by simp at h
 | _ :: _,[],_,_,h,_,_,_,_=>by simp at h
 |n :: N,s :: A,pre,g,hl,hnd,hN,hs,hb=>by
  obtain ⟨hn,hnb⟩:=hN 0 n rfl
  rw [show (s :: A).getD 0 [] = s from rfl] at hn
  have hsl:=hs s (.head _)
  have hnn:n ∉ N:=(List.nodup_cons.1 hnd).1
  have hat:∀ (es:List (List Cell)) i j x,iE es i j = some x→∃ e∈es,x∈e:=fun es i j x hx=>by
   obtain ⟨e,h1,h2⟩:=jI hx
   exact ⟨e,List.mem_of_getElem? h1,List.mem_of_getElem? h2⟩
  have hw:=aA.aRE (m:=n) (b:=b) hn hb (Ne.symm hnb) (fun i j x hx=>by
   obtain ⟨e,he,hxe⟩:=hat _ i j _ hx
   rcases List.mem_append.1 he with he | he
   ·obtain ⟨e1,h1,rfl⟩:=List.mem_map.1 he
    obtain ⟨r,_,rfl⟩:=List.mem_map.1 h1
    simp only [List.map_cons,List.map_nil,List.mem_singleton,Cell.v.injEq] at hxe
    subst hxe;rfl
   ·obtain ⟨e1,h1,rfl⟩:=List.mem_map.1 he
    obtain ⟨r,_,rfl⟩:=List.mem_map.1 h1
    simp only [List.map_cons,List.map_nil,List.mem_singleton,Cell.v.injEq] at hxe
    subst hxe
    simp [dF,hsl])
  have hrow:(((pre.map fun s=>[ints s]).map (List.map Cell.v) ++ ((n :: N).map fun n=>[aC.os n 1 0 sz]).map (List.map Cell.v))).map (List.map (Cell.uI n (dP ((s.map fun n=>[I n]).map (List.map Cell.v))))) = ((pre ++ [s]).map fun s=>[ints s]).map (List.map .v) ++ (N.map fun n=>[aC.os n 1 0 sz]).map (List.map .v):=by
   rw [aLX,List.map_append,List.map_append,List.map_append,List.append_assoc]
   congr 1
   ·simp only [List.map_map]
    exact List.map_congr_left fun r _=>rfl
   ·rw [List.map_cons,List.map_cons,List.map_cons]
    show _ :: _ = [_] ++ _
    rw [List.singleton_append]
    congr 1
    ·simp only [List.map_cons,List.map_nil,Cell.uI,aC.cR,if_true,List.drop_zero]
     rw [List.take_of_length_le (by rw [List.length_map,hsl];exact Nat.le_refl _)]
    ·simp only [List.map_map]
     refine List.map_congr_left fun r hr=>?_
     have h1:¬ r = n:=fun e=>hnn (e ▸ hr)
     simp [Cell.uI,aC.cR,h1]
  rw [hrow] at hw
  obtain ⟨g',w1,w2,w3⟩:=aWO N A (pre ++ [s]) (a7 (a7 g n .gone) b (.row 1 (((pre ++ [s]).map fun s=>[ints s]).map (List.map Cell.v) ++ (N.map fun n=>[aC.os n 1 0 sz]).map (List.map Cell.v)))) (by simpa using hl) (List.nodup_cons.1 hnd).2 (fun k m hm=>by
   have h1:=hN (k + 1) m (by simpa using hm)
   have h2:¬ m = n:=fun e=>hnn (e ▸ List.mem_of_getElem? hm)
   refine ⟨?_,h1.2⟩
   rw [aF _ _ _ _ h1.2,aF _ _ _ _ h2]
   simpa using h1.1) (fun x hx=>hs x (.tail _ hx)) (aH _ _ _)
  refine ⟨g',w1.trans hw,by rw [w2,List.append_assoc];rfl,fun q h1 h2=>?_⟩
  have h3:¬ q = n:=fun e=>h2 (e ▸ .head _)
  rw [w3 q h1 fun h=>h2 (.tail _ h),aF _ _ _ _ h1,aF _ _ _ _ h3]
theorem aTF {sz n:Nat} (hsz:1≤sz) {inp:Int} {k:Nat} (hk:k < n) {c:aY} (hc:bK inp k c) {rg:List (List Int)} (hrg:c5 sz n rg) {A:List (List Int)} (hA:c5 sz n A):c5 sz n (l5 c rg k A):=by
 have h0:=(hA.get hk).2
 unfold bK at hc
 unfold l5
 have hr:∀ x:Int,0≤x∧x < k→bD sz (rg.getD x.toNat []):=fun x hx=>(hrg.get (by omega)).2
 by_cases h3:c.fX = 3
 ·rw [if_pos h3];exact (hA.put (by omega) h0).put (by omega) h0
 rw [if_neg h3]
 by_cases h4:c.fX = 4
 ·rw [if_pos h4];exact (hA.put (by omega) h0).put (by omega) (fO _ h0)
 rw [if_neg h4]
 by_cases h5:c.fX = 5
 ·rw [if_pos h5];exact (hA.put (by omega) (cE _ h0)).put (by omega) (cE _ h0)
 rw [if_neg h5]
 by_cases h6:c.fX = 6
 ·rw [if_pos h6];exact (hA.put (by omega) (lC _ h0)).put (by omega) (fO _ (cE _ (lC _ h0)))
 rw [if_neg h6]
 by_cases h7:c.fX = 7
 ·rw [if_pos h7];exact hA.put (by omega) (fO _ h0)
 ·rw [if_neg h7];exact hA
theorem qM {sz:Nat} (hsz:1≤sz∧sz≤1048576) {inp:Int} {code:List aY} (hins:∀ i c,code[i]? = some c→bK inp i c) {rg:List (List Int)} (hrg:c5 sz code.length rg) {A:List (List Int)} (hA:c5 sz code.length A):∀ n j,n + j = code.length→c5 sz code.length (pM code rg A n j)
 |0,_,_=>hA
 |n + 1,j,h=>by
  have ec:code[j]? = some code[j]:=List.getElem?_eq_getElem (by omega)
  rw [pM,show code.getD j ⟨0,0,0,0⟩ = code[j] by rw [List.getD_eq_getElem?_getD,ec];rfl]
  exact aTF hsz.1 (by omega) (hins j _ ec) hrg (qM hsz hins hrg hA n (j + 1) (by omega))
structure xS (h:aA) (nb b sz:Nat) (N:List Nat) (A:List (List Int)) (g:aA):Prop where
 ser:c5 sz N.length A
 nodup:N.Nodup
 out:∀ n∈N,¬ n = nb∧¬ n = b∧h n = none
 get:∀ k n,N[k]? = some n→g n = some (mF (A.getD k []))
 bk:g b = some (.row 1 ((N.map fun n=>[aC.os n 1 0 sz]).map (List.map .v)))
 nbk:g nb = some (.row 1 [[.v (.os b 1 0 N.length)]])
 keep:∀ q o,h q = some o→g q = some o
 bn:h b = none∧h nb = none∧¬ b = nb
theorem aAX (sz:Nat):bD sz (vR sz):=⟨by simp [vR],fun x hx=>by rw [(List.mem_replicate.1 hx).2];unfold fP;omega⟩
theorem aJB (sz:Nat):bH.row 1 ((List.replicate sz [aC.int IntKind.i64 0]).map (List.map .v)) = mF (vR sz):=by rw [mF,vR];simp [List.map_replicate]
theorem xS.first {h:aA} {nb n b sz:Nat} (hn:h nb = none) (n1:¬ n = nb) (n2:h n = none) (b1:¬ b = n) (b2:¬ b = nb) (b3:h b = none) {X:bH} :
  xS h nb b sz [n] [vR sz] (a7 (a7 (a7 (a7 h nb X) n (mF (vR sz))) b (.row 1 [[.v (.os n 1 0 sz)]])) nb (.row 1 [[.v (.os b 1 0 1)]])):=by
 refine ⟨⟨rfl,fun s hs=>by rw [List.mem_singleton.1 hs];exact aAX sz⟩,by simp,fun m hm=>by rw [List.mem_singleton.1 hm];exact ⟨n1,Ne.symm b1,n2⟩,fun k m hk=>?_,?_,aH _ _ _,fun q o hq=>?_,b3,hn,b2⟩
 ·match k with
  |0 =>
   cases hk
   rw [aF _ _ _ _ n1,aF _ _ _ _ (Ne.symm b1),aH];rfl
  |k + 1=>cases hk
 ·rw [aF _ _ _ _ b2,aH];rfl
 ·rw [aF _ _ _ _ (fun e=>by rw [e,hn] at hq;cases hq),aF _ _ _ _ (fun e=>by rw [e,b3] at hq;cases hq),aF _ _ _ _ (fun e=>by rw [e,n2] at hq;cases hq),aF _ _ _ _ (fun e=>by rw [e,hn] at hq;cases hq)];exact hq
theorem xS.free {h g:aA} {nb b sz:Nat} {N:List Nat} {A:List (List Int)} (H:xS h nb b sz N A g) {n:Nat} (hn:g n = none):¬ n = nb∧¬ n = b∧n ∉ N∧h n = none:=by
 refine ⟨(fun e=>by rw [e,H.nbk] at hn;cases hn),(fun e=>by rw [e,H.bk] at hn;cases hn),fun e=>?_,?_⟩
 ·obtain ⟨k,hk,ek⟩:=List.mem_iff_getElem.1 e
  have:=H.get k n (by rw [List.getElem?_eq_getElem hk,ek])
  rw [this] at hn;cases hn
 ·cases hq:h n with
  |none=>rfl
  |some o=>rw [H.keep n o hq] at hn;cases hn
theorem xS.more {h g:aA} {nb b sz:Nat} {N:List Nat} {A:List (List Int)} (H:xS h nb b sz N A g) {n b':Nat} (hn:g n = none) (b1:¬ b' = n) (hb:g b' = none) :
  xS h nb b' sz (N ++ [n]) (A ++ [vR sz]) (a7 (a7 (a7 (a7 g n (mF (vR sz))) b .gone) b' (.row 1 ((N.map fun n=>[aC.os n 1 0 sz]).map (List.map .v) ++ [[.v (.os n 1 0 sz)]]))) nb (.row 1 [[.v (.os b' 1 0 (N.length + 1))]])):=by
 obtain ⟨f1,f2,f3,f4⟩:=H.free hn
 obtain ⟨e1,e2,e3,e4⟩:=H.free hb
 obtain ⟨g1,g2,g3⟩:=H.bn
 have hl:=H.ser.1
 refine ⟨⟨by simp [hl],fun s hs=>?_⟩,?_,fun m hm=>?_,fun k m hk=>?_,?_,?_,fun q o hq=>?_,e4,g2,e1⟩
 ·rcases List.mem_append.1 hs with hs | hs
  ·exact H.ser.2 s hs
  ·rw [List.mem_singleton.1 hs];exact aAX sz
 ·rw [List.nodup_append]
  exact ⟨H.nodup,by simp,fun x hx y hy e=>by rw [List.mem_singleton.1 hy] at e;exact f3 (e ▸ hx)⟩
 ·rcases List.mem_append.1 hm with hm | hm
  ·have:=H.out m hm
   exact ⟨this.1,fun e=>e3 (e ▸ hm),this.2.2⟩
  ·rw [List.mem_singleton.1 hm]
   exact ⟨f1,Ne.symm b1,f4⟩
 ·rcases Nat.lt_or_ge k N.length with h1 | h1
  ·rw [List.getElem?_append_left h1] at hk
   have hmem:=List.mem_of_getElem? hk
   have ho:=H.out m hmem
   rw [aF _ _ _ _ ho.1,aF _ _ _ _ (fun e=>e3 (by rw [← e];exact hmem)),aF _ _ _ _ ho.2.1,aF _ _ _ _ (fun e=>f3 (by rw [← e];exact hmem)),H.get k m hk,List.getD_eq_getElem?_getD,List.getD_eq_getElem?_getD,List.getElem?_append_left (by omega)]
  ·rw [List.getElem?_append_right h1] at hk
   have h2:k - N.length = 0:=by
    rcases Nat.eq_zero_or_pos (k - N.length) with q | q
    ·exact q
    ·rw [List.getElem?_eq_none (by rw [List.length_singleton];exact q)] at hk;cases hk
   rw [h2] at hk
   cases hk
   rw [aF _ _ _ _ f1,aF _ _ _ _ (Ne.symm b1),aF _ _ _ _ f2,aH,List.getD_eq_getElem?_getD,List.getElem?_append_right (by omega),show k - A.length = 0 by omega];rfl
 ·rw [aF _ _ _ _ e1,aH,List.map_append,List.map_append];rfl
 ·rw [aH,List.length_append];rfl
 ·have hgq:=H.keep q o hq
  rw [aF _ _ _ _ (fun e=>by rw [e,g2] at hq;cases hq),aF _ _ _ _ (fun e=>by rw [e,e4] at hq;cases hq),aF _ _ _ _ (fun e=>by rw [e,g1] at hq;cases hq),aF _ _ _ _ (fun e=>by rw [e,f4] at hq;cases hq)];exact hgq
theorem xS.set {h g:aA} {nb b sz:Nat} {N:List Nat} {A:List (List Int)} (H:xS h nb b sz N A g) {r n:Nat} (hr:N[r]? = some n) {s:List Int} (hs:bD sz s):xS h nb b sz N (A.set r s) (a7 g n (mF s)):=by
 have hrl:r < N.length:=(List.getElem?_eq_some_iff.1 hr).1
 have hl:=H.ser.1
 have ho:=H.out n (List.mem_of_getElem? hr)
 refine ⟨H.ser.set hs r,H.nodup,H.out,fun k m hk=>?_,?_,?_,fun q o hq=>?_,H.bn⟩
 ·by_cases e:k = r
  ·subst e
   rw [hr] at hk
   cases hk
   rw [aH,List.getD_eq_getElem?_getD,List.getElem?_set_self (by omega)];rfl
  ·have hne:¬ m = n:=fun q=>by
    subst q
    have hkl:k < N.length:=(List.getElem?_eq_some_iff.1 hk).1
    exact e ((List.getElem?_inj hkl H.nodup).1 (hk.trans hr.symm))
   rw [aF _ _ _ _ hne,H.get k m hk,List.getD_eq_getElem?_getD,List.getD_eq_getElem?_getD,List.getElem?_set_ne (Ne.symm e)]
 ·rw [aF _ _ _ _ (Ne.symm ho.2.1)];exact H.bk
 ·rw [aF _ _ _ _ (Ne.symm ho.1)];exact H.nbk
 ·rw [aF _ _ _ _ (fun e=>by rw [e,ho.2.2] at hq;cases hq)];exact H.keep q o hq
theorem xS.seal {h g:aA} {nb b sz:Nat} {N:List Nat} {A:List (List Int)} (H:xS h nb b sz N A g):(a7 (a7 h nb (.row 1 [[.v (.os b 1 0 N.length)]])) b (b7 A)).wk g:=by
 obtain ⟨g',w1,w2,w3⟩:=aWO (b:=b) (sz:=sz) N A [] g H.ser.1.symm H.nodup (fun k n hk=>⟨H.get k n hk,(H.out n (List.mem_of_getElem? hk)).2.1⟩) (fun s hs=>(H.ser.2 s hs).1) H.bk
 refine aA.wk.trans (aA.kF fun q=>?_) w1
 by_cases e:q = b
 ·subst e;rw [aH];exact .inr w2.symm
 rw [aF _ _ _ _ e]
 by_cases e2:q = nb
 ·subst e2
  rw [aH,w3 q e fun hq=>(H.out q hq).1 rfl];exact .inr H.nbk.symm
 rw [aF _ _ _ _ e2]
 cases hq:h q with
 |none=>exact .inl rfl
 |some o =>
  right
  rw [w3 q e fun hn=>by rw [(H.out q hn).2.2] at hq;cases hq]
  exact (H.keep q o hq).symm
@[go_sem] def aCQ:List Nat:=[0,1,2,3,6,7,9,10,11,12,13,14,15,16,18,19,20,21,32,33,34,35,61,75,76,88,101,125,150]
@[go_sem] def aRQ:List Nat:=[3,17,28]
@[go_sem] def aRR:Marks:=fun id=>match id with | 5=>([0,2,3,5,6],(.op 1 (.op 0 (.op 2 (.op 3 (.op 4 (.op 5 (.op 6 .nil))))))),[(0,2),(0,3)]) | 10=>([0,3,4,7,9,13,14,16],(.op 1 (.op 5 (.op 10 (.op 11 (.op 12 (.op 0 (.op 2 (.op 3 (.op 4 (.op 6 (.op 7 (.op 8 (.op 9 (.op 13 (.op 14 (.op 15 (.op 16 .nil))))))))))))))))),[(0,14),(3,14)]) | 15=>([1,4,5,8,9,10],(.op 0 (.op 2 (.op 6 (.op 1 (.op 3 (.op 4 (.op 5 (.op 7 (.op 8 (.op 9 (.op 10 (.op 11 .nil)))))))))))),[(1,9),(4,9),(5,9),(5,10),(8,9),(8,10)]) | 23=>([2,4,5],(.op 0 (.op 1 (.op 3 (.op 2 (.op 4 (.op 5 .nil)))))),[(2,4)]) | 25=>([2,6,8,9,10],(.op 0 (.op 1 (.op 3 (.op 4 (.op 5 (.op 2 (.op 6 (.op 7 (.op 8 (.op 9 (.op 10 .nil))))))))))),[(2,9)]) | 26=>([2,6,8,9,10],(.op 0 (.op 1 (.op 3 (.op 4 (.op 5 (.op 2 (.op 6 (.op 7 (.op 8 (.op 9 (.op 10 .nil))))))))))),[(2,9)]) | 30=>([2,7,8,9,10],(.op 0 (.op 1 (.op 3 (.op 4 (.op 5 (.op 6 (.op 2 (.op 7 (.op 8 (.op 9 (.op 10 .nil))))))))))),[(2,8),(2,9)]) | 32=>([2,4,5],(.op 0 (.op 1 (.op 3 (.op 2 (.op 4 (.op 5 .nil)))))),[(2,4)]) | _=>([],.nil,[])
set_option maxHeartbeats 4000000 in
theorem aWP (t:jS) {sz:Nat} (hsz:1≤sz∧sz≤1048576) (hins:∀ i c,t.aM[i]? = some c→bK t.gM i c) (hcl:1≤t.aM.length∧t.aM.length≤3200) (rg:List (List Int)) (hrg:c5 sz t.aM.length rg) (ws:List Int) (hws:ws.length = t.aL.length) (hwn:hH ws) (hol:t.aL.length≤100) (ho:∀ r∈t.aL,0≤r∧r < t.aM.length) :
  dI Tryz.prog 138 [.agg t.c,bB rg,ints ws] (bB (pM t.aM rg (qL t.aL ws (List.replicate t.aM.length (vR sz)) t.aL.length) t.aM.length 0)):=by
 rw [jS.aQ]
 refine j7 159 aCQ aRQ aRR mix Tryz.func138 rfl (by kernel_rfl) (by simp) fun h=>?_
 simp -dsimp -implicitDefEqProofs only [go_sem,↓reduceIte,Tryz.f138]
 refine ⟨by decide,fun nb hnb hlc=>?_⟩
 rw [aO]
 have hrl:rg.length = t.aM.length:=hrg.1
 refine bQ (keep:=aCQ) (ib:=aRQ) (mk:=aRR) mix (by kernel_rfl) (fun x:Nat × aA=>[(1,bB rg),(2,ints ws),(3,.ip 4 [[I t.gM,cY 4 aY.c t.aM,cY 2 dT.c t.kV,ints t.aL]] 0 0),(7,.op nb 1 0 0),(18,bB rg),(19,I rg.length),(20,I x.1)]) (fun x=>x.2) (fun x=>x.1≤t.aM.length∧((x.1 = 0∧x.2 = a7 h nb (.row 1 [[.v (.sl 1 [] true)]]))∨∃ b N,N.length = x.1∧xS h nb b sz N (List.replicate x.1 (vR sz)) x.2)) (fun x=>t.aM.length - x.1) (0,a7 h nb (.row 1 [[.v (.sl 1 [] true)]])) ⟨by simp [bU,bF],aA.le_refl _,Nat.zero_le _,.inl ⟨rfl,rfl⟩⟩ ?_
 rintro ⟨k,g⟩ ⟨hk,hg⟩
 simp only at hk hg ⊢
 rcases Nat.lt_or_ge k t.aM.length with hlt | hge
 ·have er:=hrg.get hlt
  have lr:=er.2.1
  rcases hg with ⟨rfl,rfl⟩ | ⟨b,N,hN,H⟩
  ·simp -dsimp -implicitDefEqProofs only [go_sem,↓reduceIte,Tryz.f138,er.1,hrl,hlt,lr]
   refine fun _=>⟨by decide,Nat.le_refl _,by omega,by omega,fun n ⟨n1,n2⟩=>?_⟩
   have lZ:¬ n = nb:=n1
   have l4:¬ nb = n:=Ne.symm lZ
   have iL:(n = nb) = False:=eq_false lZ
   have iM:(nb = n) = False:=eq_false l4
   refine ⟨by rw [aF _ _ _ _ l4,aH],by decide,by decide,by decide,fun b ⟨b1,b2,b3⟩=>?_⟩
   have bV:¬ b = nb:=b2
   have dS:¬ nb = b:=Ne.symm bV
   have cT:(b = nb) = False:=eq_false bV
   have cU:(nb = b) = False:=eq_false dS
   have sK:¬ b = n:=b1
   have sM:¬ n = b:=Ne.symm sK
   have m6:(b = n) = False:=eq_false sK
   have m7:(n = b) = False:=eq_false sM
   simp -dsimp -implicitDefEqProofs only [go_sem,↓reduceIte,Tryz.f138,iL,m7,iM,cU,m6,cT,aF,cF,aJB]
   exact ⟨(1,_),⟨hrl.symm,IntWalk.i64_in _ (by omega)⟩,aA.le_refl _,⟨hlt,.inr ⟨b,[n],rfl,xS.first hnb n1 n2 b1 b2 b3⟩⟩,by simp only;omega⟩
  ·have hb:=H.bk
   have hnb:=H.nbk
   simp -dsimp -implicitDefEqProofs only [go_sem,↓reduceIte,Tryz.f138,er.1,hrl,hlt,lr,hnb,hb]
   refine fun _=>⟨by decide,Nat.le_refl _,by omega,by omega,fun n n2=>?_⟩
   obtain ⟨f1,f2,f3,f4⟩:=H.free n2
   have lZ:¬ n = nb:=f1
   have l4:¬ nb = n:=Ne.symm lZ
   have iL:(n = nb) = False:=eq_false lZ
   have iM:(nb = n) = False:=eq_false l4
   have sM:¬ n = b:=f2
   have sK:¬ b = n:=Ne.symm sM
   have m7:(n = b) = False:=eq_false sM
   have m6:(b = n) = False:=eq_false sK
   refine ⟨by rw [aF _ _ _ _ l4];exact hnb,by decide,by decide,by decide,?_⟩
   have bV:¬ b = nb:=H.bn.2.2
   have dS:¬ nb = b:=Ne.symm bV
   have cT:(b = nb) = False:=eq_false bV
   have cU:(nb = b) = False:=eq_false dS
   simp -dsimp -implicitDefEqProofs only [go_sem,↓reduceIte,Tryz.f138,iL,m7,iM,cU,m6,cT,aF,hnb,hb]
   refine ⟨Nat.le_refl _,by omega,by omega,fun c ⟨c1,c2⟩=>?_⟩
   obtain ⟨x1,x2,x3,x4⟩:=H.free c2
   have aWQ:¬ c = nb:=x1
   have a5P:¬ nb = c:=Ne.symm aWQ
   have a5Q:(c = nb) = False:=eq_false aWQ
   have a5R:(nb = c) = False:=eq_false a5P
   have aL9:¬ c = b:=x2
   have aWR:¬ b = c:=Ne.symm aL9
   have a2X:(c = b) = False:=eq_false aL9
   have a2Y:(b = c) = False:=eq_false aWR
   have a2Z:¬ c = n:=c1
   have bBH:¬ n = c:=Ne.symm a2Z
   have bBI:(c = n) = False:=eq_false a2Z
   have bBJ:(n = c) = False:=eq_false bBH
   simp -dsimp -implicitDefEqProofs only [go_sem,↓reduceIte,Tryz.f138,iL,m7,bBJ,iM,cU,a5R,m6,cT,a2Y,bBI,a5Q,a2X,aF,hnb,hb,aJB]
   rw [List.take_of_length_le (by simp)]
   exact ⟨(k + 1,_),⟨hrl.symm,IntWalk.i64_in _ (by omega)⟩,aA.le_refl _,⟨hlt,.inr ⟨c,N ++ [n],by rw [List.length_append,hN];rfl,by rw [List.replicate_succ'];exact H.more n2 c1 c2⟩⟩,by simp only;omega⟩
 ·have hk':k = t.aM.length:=by omega
  subst hk'
  rcases hg with ⟨h0,_⟩ | ⟨b,N,hN,H⟩
  ·omega
  simp -dsimp -implicitDefEqProofs only [go_sem,↓reduceIte,Tryz.f138,hrl,Nat.lt_irrefl,Int.lt_irrefl]
  refine fun _=>?_
  clear hk hge
  have hsw:∀ k,k≤t.aL.length→c5 sz t.aM.length (qL t.aL ws (List.replicate t.aM.length (vR sz)) k):=fun k=>by
   induction k with
   |zero=>exact fun _=>hN ▸ H.ser
   |succ k ih =>
    intro hk
    have h1:=ih (by omega)
    have hr:=ho (t.aL.getD k 0) (by rw [List.getD_eq_getElem?_getD,List.getElem?_eq_getElem (by omega)];exact List.getElem_mem _)
    have h2:=(h1.get (i:=(t.aL.getD k 0).toNat) (by omega)).2
    refine h1.set ⟨by rw [List.length_set];exact h2.1,fun x hx=>?_⟩ _
    rcases List.mem_or_eq_of_mem_set hx with hx | rfl
    ·exact h2.2 x hx
    ·exact c7 _
  refine bQ (keep:=aCQ) (ib:=aRQ) (mk:=aRR) mix (by kernel_rfl) (fun x:Nat × aA=>[(1,bB rg),(2,ints ws),(3,.ip 4 [[I t.gM,cY 4 aY.c t.aM,cY 2 dT.c t.kV,ints t.aL]] 0 0),(7,.op nb 1 0 0),(32,ints t.aL),(33,I t.aL.length),(34,I x.1)]) (fun x=>x.2) (fun x=>x.1≤t.aL.length∧xS h nb b sz N (qL t.aL ws (List.replicate t.aM.length (vR sz)) x.1) x.2) (fun x=>t.aL.length - x.1) (0,g) ⟨by simp [bU,bF],aA.le_refl _,Nat.zero_le _,H⟩ ?_
  clear H g
  rintro ⟨k,g⟩ ⟨hk,H⟩
  simp only at hk H ⊢
  have hb:=H.bk
  have aOX:=H.nbk
  rcases Nat.lt_or_ge k t.aL.length with hlt | hge
  ·have eo:t.aL[k]? = some (t.aL.getD k 0):=b9 hlt
   have ew:ws[k]? = some (ws.getD k 0):=b9 (by omega)
   have hr:=ho _ (List.mem_of_getElem? eo)
   have hsn:=hsw (k + 1) hlt
   have hs0:=hsw k (by omega)
   have hst:qL t.aL ws (List.replicate t.aM.length (vR sz)) (k + 1) = (qL t.aL ws (List.replicate t.aM.length (vR sz)) k).set (t.aL.getD k 0).toNat (((qL t.aL ws (List.replicate t.aM.length (vR sz)) k).getD (t.aL.getD k 0).toNat []).set 0 ((((qL t.aL ws (List.replicate t.aM.length (vR sz)) k).getD (t.aL.getD k 0).toNat []).getD 0 0 + ws.getD k 0) % 1000003)):=rfl
   generalize hA1:qL t.aL ws (List.replicate t.aM.length (vR sz)) (k + 1) = A1 at *
   generalize qL t.aL ws (List.replicate t.aM.length (vR sz)) k = A at *
   generalize t.aL.getD k 0 = r at *
   have er:N[r.toNat]? = some (N[r.toNat]'(by omega)):=List.getElem?_eq_getElem (by omega)
   generalize N[r.toNat]'(by omega) = n at er
   have hgn:=H.get _ _ er
   have hq:=hs0.get (i:=r.toNat) (by omega)
   have e0:(A.getD r.toNat [])[Int.toNat 0]? = some ((A.getD r.toNat []).getD 0 0):=b9 (by rw [hq.2.1];exact hsz.1)
   have hout:=H.out n (List.mem_of_getElem? er)
   have lZ:¬ n = nb:=hout.1
   have l4:¬ nb = n:=Ne.symm lZ
   have iL:(n = nb) = False:=eq_false lZ
   have iM:(nb = n) = False:=eq_false l4
   have sM:¬ n = b:=hout.2.1
   have sK:¬ b = n:=Ne.symm sM
   have m7:(n = b) = False:=eq_false sM
   have m6:(b = n) = False:=eq_false sK
   have bV:¬ b = nb:=H.bn.2.2
   have dS:¬ nb = b:=Ne.symm bV
   have cT:(b = nb) = False:=eq_false bV
   have cU:(nb = b) = False:=eq_false dS
   unfold mF at hgn
   simp -dsimp -implicitDefEqProofs only [go_sem,↓reduceIte,Tryz.f138,eo,ew,hlt,aOX,hb,er,hgn,e0,iL,m7,iM,cU,m6,cT,aF]
   have n1:=hq.2.2.get 0
   have n2:=hwn.get k
   refine ⟨by omega,hr.1,by omega,hr.1,by omega,by omega,aG.mk (aIN _ _) ?_⟩
   simp -dsimp -implicitDefEqProofs only [go_sem,↓reduceIte,Tryz.f138,eo,ew,hlt,aOX,hb,er,hgn,e0,iL,m7,iM,cU,m6,cT,aF]
   have hrow:bH.row 1 ((((A.getD r.toNat []).map fun n=>[I n]).map (List.map Cell.v)).set (Int.toNat 0) [Cell.v (I (((A.getD r.toNat []).getD 0 0 + ws.getD k 0) % 1000003))]) = mF ((A.getD r.toNat []).set 0 (((A.getD r.toNat []).getD 0 0 + ws.getD k 0) % 1000003)):=by
    rw [show Int.toNat 0 = 0 from rfl,nL I];rfl
   have hset:=H.set er (s:=(A.getD r.toNat []).set 0 (((A.getD r.toNat []).getD 0 0 + ws.getD k 0) % 1000003)) ⟨by rw [List.length_set];exact hq.2.1,fun x hx=>by
    rcases List.mem_or_eq_of_mem_set hx with hx | rfl
    ·exact hq.2.2 x hx
    ·exact c7 _⟩
   rw [← hst] at hset
   refine ⟨by omega,(k + 1,_),IntWalk.i64_in _ (by omega),by rw [hrow];exact aA.le_refl _,⟨hlt,?_⟩,by simp only;omega⟩
   simp only [hA1]
   exact hset
  ·have hk':k = t.aL.length:=by omega
   subst hk'
   simp -dsimp -implicitDefEqProofs only [go_sem,↓reduceIte,Tryz.f138,Nat.lt_irrefl,Int.lt_irrefl]
   refine fun _=>?_
   have hs0:=hsw _ (Nat.le_refl _)
   have hsl:=H.seal
   generalize qL t.aL ws (List.replicate t.aM.length (vR sz)) t.aL.length = A0 at *
   clear hb aOX
   rw [hN] at hsl
   refine aQG (keep:=aCQ) (ib:=aRQ) (mk:=aRR) mix (by kernel_rfl) (fun x:Nat=>[(1,bB rg),(3,.ip 4 [[I t.gM,cY 4 aY.c t.aM,cY 2 dT.c t.kV,ints t.aL]] 0 0),(7,.op nb 1 0 0),(12,I ((x:Int) - 1))]) (fun x=>a7 (a7 h nb (.row 1 [[.v (.os b 1 0 t.aM.length)]])) b (b7 (pM t.aM rg A0 (t.aM.length - x) x))) (fun x=>x≤t.aM.length) (fun x=>x) t.aM.length ⟨?_,?_,Nat.le_refl _⟩ ?_
   ·have wl:IntKind.i64.wrap ((t.aM.length:Int) - 1) = t.aM.length - 1:=IntWalk.i64_in _ (by omega)
    simp [bU,bF,wl]
   ·rw [Nat.sub_self];exact hsl
   obtain ⟨bn1,bn2,bn3⟩:=H.bn
   have bV:¬ b = nb:=bn3
   have dS:¬ nb = b:=Ne.symm bV
   have cT:(b = nb) = False:=eq_false bV
   have cU:(nb = b) = False:=eq_false dS
   intro x hx
   cases x with
   |zero =>
    simp -dsimp -implicitDefEqProofs only [go_sem,↓reduceIte,Tryz.f138,cT,cU,aF]
    refine ⟨fun q=>absurd q (by omega),fun _=>?_⟩
    exact m5 _ bn1 (by
     intro q_
     simp only [cF,Nat.sub_zero]
     by_cases e1:q_ = b
     ·rw [if_pos e1,if_pos e1];exact .inr rfl
     ·rw [if_neg e1,if_neg e1]
      by_cases e2:q_ = nb
      ·subst e2;exact .inl hnb
      ·rw [if_neg e2];exact .inr rfl) (qM hsz hins hrg hs0 t.aM.length 0 rfl).1.symm
   |succ y =>
    have hst:pM t.aM rg A0 (t.aM.length - y) y = l5 (t.aM.getD y ⟨0,0,0,0⟩) rg y (pM t.aM rg A0 (t.aM.length - (y + 1)) (y + 1)):=by
     rw [show t.aM.length - y = (t.aM.length - (y + 1)) + 1 by omega,pM]
    have hA:=qM hsz hins hrg hs0 (t.aM.length - (y + 1)) (y + 1) (by omega)
    generalize pM t.aM rg A0 (t.aM.length - (y + 1)) (y + 1) = A at *
    have ec:t.aM[y]? = some t.aM[y]:=List.getElem?_eq_getElem (by omega)
    have hin:=hins y _ ec
    rw [show t.aM.getD y ⟨0,0,0,0⟩ = t.aM[y] by rw [List.getD_eq_getElem?_getD,ec];rfl] at hst
    generalize t.aM[y] = c at *
    have eA:=hA.get (i:=y) (by omega)
    have wy:((y + 1:Nat):Int) - 1 = (y:Int):=by omega
    have wy2:IntKind.i64.wrap ((y:Int) - 1) = (y:Int) - 1:=IntWalk.i64_in _ (by omega)
    rw [wy]
    simp -dsimp -implicitDefEqProofs only [go_sem,↓reduceIte,Tryz.f138,ec,b7,eA.1,cT,cU,aF,wy2,aY.aQ]
    refine ⟨by omega,by omega,fun n ⟨n1,n2,n3⟩=>?_⟩
    have sM:¬ n = b:=n1
    have sK:¬ b = n:=Ne.symm sM
    have m7:(n = b) = False:=eq_false sM
    have m6:(b = n) = False:=eq_false sK
    have lZ:¬ n = nb:=n2
    have l4:¬ nb = n:=Ne.symm lZ
    have iL:(n = nb) = False:=eq_false lZ
    have iM:(nb = n) = False:=eq_false l4
    refine ⟨⟨by rw [aF _ _ _ _ sK,aH],by rw [aF _ _ _ _ l4,aF _ _ _ _ dS,aH]⟩,⟨by rw [aF _ _ _ _ sK],by rw [aF _ _ _ _ l4]⟩,?_⟩
    simp only [aO]
    have hnext:∀ g:aA,(a7 (a7 h nb (.row 1 [[.v (.os b 1 0 t.aM.length)]])) b (b7 (l5 c rg y A))).le g→∃ x':Nat,(y:Int) - 1 = (x':Int) - 1∧(a7 (a7 h nb (.row 1 [[.v (.os b 1 0 t.aM.length)]])) b (b7 (pM t.aM rg A0 (t.aM.length - x') x'))).wk g∧x'≤t.aM.length∧x' < y + 1:=fun g l=>⟨y,rfl,by rw [hst];exact aA.kF l,by omega,Nat.lt_succ_self _⟩
    have aWS:∀ (X Y R Z:bH),(a7 (a7 h nb X) b Y).le (a7 (a7 (a7 (a7 h nb X) b Z) n R) b Y):=fun X Y R Z q_=>by
     by_cases e1:q_ = b
     ·rw [e1,aH,aH];exact .inr rfl
     rw [aF _ _ _ _ e1,aF _ _ _ _ e1]
     by_cases e2:q_ = n
     ·rw [e2,aF _ _ _ _ n2];exact .inl n3
     ·rw [aF _ _ _ _ e2,aF _ _ _ _ e1];exact .inr rfl
    have bBK:∀ (X Y R:bH),(a7 (a7 h nb X) b Y).le (a7 (a7 (a7 h nb X) b Y) n R):=fun X Y R=>aA.bI (by rw [aF _ _ _ _ n1,aF _ _ _ _ n2];exact n3) (aA.le_refl _)
    have hown:=eA.2
    have gnb:∀ (X Y R:bH),(a7 (a7 (a7 h nb X) b Y) n R) nb = some X:=fun X Y R=>by rw [aF _ _ _ _ l4,aF _ _ _ _ dS,aH]
    have aZ9:∀ (X Y R W:bH),(a7 (a7 (a7 (a7 h nb X) b Y) n R) b W) nb = some X:=fun X Y R W=>by rw [aF _ _ _ _ dS,aF _ _ _ _ l4,aF _ _ _ _ dS,aH]
    have gb1:∀ (X Y R:bH),(a7 (a7 (a7 h nb X) b Y) n R) b = some Y:=fun X Y R=>by rw [aF _ _ _ _ sK,aH]
    rcases (show c.fX = 1∨c.fX = 2∨c.fX = 3∨c.fX = 4∨c.fX = 5∨c.fX = 6∨c.fX = 7 by unfold bK at hin;omega) with h1 | h1 | h1 | h1 | h1 | h1 | h1
    ·simp -dsimp -implicitDefEqProofs only [go_sem,↓reduceIte,Tryz.f138,h1]
     refine hnext _ ?_
     rw [l5,if_neg (by omega),if_neg (by omega),if_neg (by omega),if_neg (by omega),if_neg (by omega)]
     exact bBK _ _ _
    ·simp -dsimp -implicitDefEqProofs only [go_sem,↓reduceIte,Tryz.f138,h1]
     refine hnext _ ?_
     rw [l5,if_neg (by omega),if_neg (by omega),if_neg (by omega),if_neg (by omega),if_neg (by omega)]
     exact bBK _ _ _
    ·have i0:(0≤c.fA∧c.fA < y)∧0≤c.fB∧c.fB < y:=by unfold bK at hin;omega
     have era:=hrg.get (i:=c.fA.toNat) (by omega)
     have erb:=hrg.get (i:=c.fB.toNat) (by omega)
     have ery:=hrg.get (i:=y) (by omega)
     simp -dsimp -implicitDefEqProofs only [go_sem,↓reduceIte,Tryz.f138,h1]
     refine aG.gQ (aI9 hsz hA (r:=c.fA) ⟨i0.1.1,by omega⟩ hown (gnb _ _ _) (gb1 _ _ _)) ?_
     rintro r_ h' rfl
     simp -dsimp -implicitDefEqProofs only [go_sem,↓reduceIte,Tryz.f138,h1,m7,iL,m6,cT,iM,cU,aF]
     refine aG.gQ (aI9 hsz (hA.put (r:=c.fA) (by omega) hown) (r:=c.fB) ⟨i0.2.1,by omega⟩ hown (aZ9 _ _ _ _) (aH _ _ _)) ?_
     rintro r_ h' rfl
     rw [aO]
     simp -dsimp -implicitDefEqProofs only [go_sem,↓reduceIte,Tryz.f138,wy2]
     refine hnext _ ?_
     rw [l5,if_pos h1]
     exact aWS _ _ _ _
    ·have i0:(0≤c.fA∧c.fA < y)∧0≤c.fB∧c.fB < y:=by unfold bK at hin;omega
     have era:=hrg.get (i:=c.fA.toNat) (by omega)
     have erb:=hrg.get (i:=c.fB.toNat) (by omega)
     have ery:=hrg.get (i:=y) (by omega)
     simp -dsimp -implicitDefEqProofs only [go_sem,↓reduceIte,Tryz.f138,h1]
     refine aG.gQ (aI9 hsz hA (r:=c.fA) ⟨i0.1.1,by omega⟩ hown (gnb _ _ _) (gb1 _ _ _)) ?_
     rintro r_ h' rfl
     simp -dsimp -implicitDefEqProofs only [go_sem,↓reduceIte,Tryz.f138,h1,m7,iL,m6,cT,iM,cU,aF]
     refine aG.mk (scaled _ 1000002 (by unfold fP;omega) (by rw [hown.1];omega) hown.2) ?_
     simp -dsimp -implicitDefEqProofs only [go_sem,↓reduceIte,Tryz.f138,h1,m7,iL,m6,cT,iM,cU,aF]
     refine aG.gQ (aI9 hsz (hA.put (r:=c.fA) (by omega) hown) (r:=c.fB) ⟨i0.2.1,by omega⟩ (fO _ hown) (aZ9 _ _ _ _) (aH _ _ _)) ?_
     rintro r_ h' rfl
     rw [aO]
     simp -dsimp -implicitDefEqProofs only [go_sem,↓reduceIte,Tryz.f138,wy2]
     refine hnext _ ?_
     rw [l5,if_neg (by omega),if_pos h1]
     exact aWS _ _ _ _
    ·have i0:(0≤c.fA∧c.fA < y)∧0≤c.fB∧c.fB < y:=by unfold bK at hin;omega
     have era:=hrg.get (i:=c.fA.toNat) (by omega)
     have erb:=hrg.get (i:=c.fB.toNat) (by omega)
     have ery:=hrg.get (i:=y) (by omega)
     simp -dsimp -implicitDefEqProofs only [go_sem,↓reduceIte,Tryz.f138,h1,era.1,erb.1,hrl]
     simp only [aO]
     refine ⟨i0.2.1,by omega,aG.mk (product _ _ (by rw [erb.2.1,hown.1]) (by rw [hown.1];omega) hown.2 erb.2.2) ?_⟩
     simp -dsimp -implicitDefEqProofs only [go_sem,↓reduceIte,Tryz.f138,h1]
     refine aG.gQ (aI9 hsz hA (r:=c.fA) ⟨i0.1.1,by omega⟩ (cE _ hown) (gnb _ _ _) (gb1 _ _ _)) ?_
     rintro r_ h' rfl
     simp -dsimp -implicitDefEqProofs only [go_sem,↓reduceIte,Tryz.f138,h1,m7,iL,m6,cT,iM,cU,aF,era.1,hrl]
     refine ⟨i0.1.1,by omega,aG.mk (product _ _ (by rw [era.2.1,hown.1]) (by rw [hown.1];omega) hown.2 era.2.2) ?_⟩
     simp -dsimp -implicitDefEqProofs only [go_sem,↓reduceIte,Tryz.f138,h1,m7,iL,m6,cT,iM,cU,aF]
     refine aG.gQ (aI9 hsz (hA.put (r:=c.fA) (by omega) (cE _ hown)) (r:=c.fB) ⟨i0.2.1,by omega⟩ (cE _ hown) (aZ9 _ _ _ _) (aH _ _ _)) ?_
     rintro r_ h' rfl
     rw [aO]
     simp -dsimp -implicitDefEqProofs only [go_sem,↓reduceIte,Tryz.f138,wy2]
     refine hnext _ ?_
     rw [l5,if_neg (by omega),if_neg (by omega),if_pos h1]
     exact aWS _ _ _ _
    ·have i0:(0≤c.fA∧c.fA < y)∧0≤c.fB∧c.fB < y:=by unfold bK at hin;omega
     have era:=hrg.get (i:=c.fA.toNat) (by omega)
     have erb:=hrg.get (i:=c.fB.toNat) (by omega)
     have ery:=hrg.get (i:=y) (by omega)
     simp -dsimp -implicitDefEqProofs only [go_sem,↓reduceIte,Tryz.f138,h1,era.1,erb.1,hrl]
     simp only [aO]
     have hpart:=lC (rg.getD c.fB.toNat []) hown
     refine ⟨i0.2.1,by omega,aG.mk (quotient _ _ (by rw [erb.2.1,hown.1]) (by rw [hown.1];omega) (by rw [hown.1];omega) hown.2 erb.2.2) ?_⟩
     simp -dsimp -implicitDefEqProofs only [go_sem,↓reduceIte,Tryz.f138,h1]
     refine aG.gQ (aI9 hsz hA (r:=c.fA) ⟨i0.1.1,by omega⟩ hpart (gnb _ _ _) (gb1 _ _ _)) ?_
     rintro r_ h' rfl
     simp -dsimp -implicitDefEqProofs only [go_sem,↓reduceIte,Tryz.f138,h1,m7,iL,m6,cT,iM,cU,aF,ery.1,hrl]
     refine ⟨by omega,aG.mk (product _ _ (by rw [ery.2.1,hpart.1]) (by rw [hpart.1];omega) hpart.2 ery.2.2) ?_⟩
     simp -dsimp -implicitDefEqProofs only [go_sem,↓reduceIte,Tryz.f138,h1,m7,iL,m6,cT,iM,cU,aF]
     refine aG.mk (scaled _ 1000002 (by unfold fP;omega) (by rw [(cE _ hpart).1];omega) (cE _ hpart).2) ?_
     simp -dsimp -implicitDefEqProofs only [go_sem,↓reduceIte,Tryz.f138,h1,m7,iL,m6,cT,iM,cU,aF]
     refine aG.gQ (aI9 hsz (hA.put (r:=c.fA) (by omega) hpart) (r:=c.fB) ⟨i0.2.1,by omega⟩ (fO _ (cE _ hpart)) (aZ9 _ _ _ _) (aH _ _ _)) ?_
     rintro r_ h' rfl
     rw [aO]
     simp -dsimp -implicitDefEqProofs only [go_sem,↓reduceIte,Tryz.f138,wy2]
     refine hnext _ ?_
     rw [l5,if_neg (by omega),if_neg (by omega),if_neg (by omega),if_pos h1]
     exact aWS _ _ _ _
    ·have i0:0≤c.fA∧c.fA < y:=by unfold bK at hin;omega
     simp -dsimp -implicitDefEqProofs only [go_sem,↓reduceIte,Tryz.f138,h1]
     refine aG.mk (scaled _ 1000002 (by unfold fP;omega) (by rw [hown.1];omega) hown.2) ?_
     simp -dsimp -implicitDefEqProofs only [go_sem,↓reduceIte,Tryz.f138,h1,m7,iL,m6,cT,iM,cU,aF]
     refine aG.gQ (aI9 hsz hA (r:=c.fA) ⟨i0.1,by omega⟩ (fO _ hown) (gnb _ _ _) (gb1 _ _ _)) ?_
     rintro r_ h' rfl
     simp -dsimp -implicitDefEqProofs only [go_sem,↓reduceIte,Tryz.f138,wy2]
     refine hnext _ ?_
     rw [l5,if_neg (by omega),if_neg (by omega),if_neg (by omega),if_neg (by omega),if_pos h1]
     exact aWS _ _ _ _
def byK (code:List aY) (L:List (List Int)) (sz inp:Nat):Nat→List (List Int)
 |0=>List.replicate inp (vR sz)
 |k + 1=>if (code.getD k ⟨0,0,0,0⟩).fX = 1 then (byK code L sz inp k).set (code.getD k ⟨0,0,0,0⟩).aW.toNat (j8 ((byK code L sz inp k).getD (code.getD k ⟨0,0,0,0⟩).aW.toNat []) (L.getD k [])) else byK code L sz inp k
theorem zE {sz:Nat} {code:List aY} {inp:Nat} (hins:∀ i c,code[i]? = some c→bK inp i c) {L:List (List Int)} (hL:c5 sz code.length L):∀ k,k≤code.length→c5 sz inp (byK code L sz inp k)
 |0,_=>⟨by simp [byK],fun s hs=>by rw [(List.mem_replicate.1 hs).2];exact aAX sz⟩
 |k + 1,h=>by
  have ih:=zE hins hL k (by omega)
  have ec:code[k]? = some code[k]:=List.getElem?_eq_getElem (by omega)
  have hc:=hins k _ ec
  rw [byK,show code.getD k ⟨0,0,0,0⟩ = code[k] by rw [List.getD_eq_getElem?_getD,ec];rfl]
  split
  ·rename_i h1
   unfold bK at hc
   exact ih.set (m4 (ih.get (by omega)).2 (hL.get (by omega)).2) _
  ·exact ih
@[go_sem] def aJC:List Nat:=[0,1,2,4,5,6,7,8,12,18,19,20,28,29,30,31,37]
@[go_sem] def aWT:List Nat:=[2,24]
@[go_sem] def aWU:Marks:=fun id=>match id with | 12=>([2,5,7,14],(.op 0 (.op 1 (.op 3 (.op 4 (.op 8 (.op 9 (.op 10 (.op 11 (.op 2 (.op 5 (.op 6 (.op 7 (.op 12 (.op 13 (.op 14 .nil))))))))))))))),[]) | _=>([],.nil,[])
set_option maxHeartbeats 4000000 in
theorem aWV (t:jS) {sz inp:Nat} (hsz:1≤sz∧sz≤1048576) (hinp:t.gM = inp) (bIO:inp≤12) (hins:∀ i c,t.aM[i]? = some c→bK inp i c) (hcl:1≤t.aM.length∧t.aM.length≤3200) (L:List (List Int)) (hL:c5 sz t.aM.length L) :
  dI Tryz.prog 104 [.agg t.c,bB L] (bB (byK t.aM L sz inp t.aM.length)):=by
 rw [jS.aQ,hinp]
 have e0:=hL.get (i:=0) (by omega)
 have ll:=hL.1
 have e00:L[Int.toNat 0]? = some (L.getD 0 []):=e0.1
 have l0:=e0.2.1
 refine j7 54 aJC aWT aWU mix Tryz.func104 rfl (by kernel_rfl) (by simp) fun h=>?_
 simp -dsimp -implicitDefEqProofs only [go_sem,↓reduceIte,Tryz.f104,e00,ll,l0]
 refine ⟨by decide,fun b0 hb0 _=>⟨fun _=>⟨by omega,fun _=>?_⟩,fun q=>absurd (by omega) q⟩⟩
 refine aQG (keep:=aJC) (ib:=aWT) (mk:=aWU) mix (by kernel_rfl) (fun x:Nat × Nat=>[(1,bB L),(2,.ip 4 [[I inp,cY 4 aY.c t.aM,cY 2 dT.c t.kV,ints t.aL]] 0 0),(5,.os x.2 1 0 x.1),(6,I sz),(18,I inp),(19,I x.1)]) (fun x=>a7 h x.2 (b7 (List.replicate x.1 (vR sz)))) (fun x=>x.1≤inp∧h x.2 = none) (fun x=>inp - x.1) (0,b0) ⟨by simp [bU,bF],aA.kF (aA.le_refl _),Nat.zero_le _,hb0⟩ ?_
 rintro ⟨k,b⟩ ⟨hk,hb⟩
 simp only at hk hb ⊢
 rcases Nat.lt_or_ge k inp with hlt | hge
 ·simp -dsimp -implicitDefEqProofs only [go_sem,↓reduceIte,Tryz.f104,hlt,b7,List.length_replicate]
  refine ⟨by decide,Nat.le_refl _,by omega,by omega,fun m ⟨m1,m2⟩=>?_⟩
  have j5:¬ m = b:=m1
  have gU:¬ b = m:=Ne.symm j5
  have k6:(m = b) = False:=eq_false j5
  have k5:(b = m) = False:=eq_false gU
  refine ⟨by decide,by decide,by decide,?_⟩
  simp -dsimp -implicitDefEqProofs only [go_sem,↓reduceIte,Tryz.f104,k6,k5,aF]
  rw [List.length_replicate]
  refine ⟨Nat.le_refl _,by omega,by omega,fun c ⟨c1,c2,c3⟩=>?_⟩
  have aWW:¬ c = m:=c1
  have a20:¬ m = c:=Ne.symm aWW
  have bHL:(c = m) = False:=eq_false aWW
  have bHM:(m = c) = False:=eq_false a20
  have aL9:¬ c = b:=c2
  have aWR:¬ b = c:=Ne.symm aL9
  have a2X:(c = b) = False:=eq_false aL9
  have a2Y:(b = c) = False:=eq_false aWR
  have hzl:(vR sz).length = sz:=(aAX sz).1
  refine ⟨(k + 1,c),⟨rfl,IntWalk.i64_in _ (by omega)⟩,?_,⟨hlt,c3⟩,by simp only;omega⟩
  refine aZQ (m:=m) (b:=c) (List.replicate k (vR sz)) (vR sz) ?_ ?_ aWW ?_
  ·rw [aF _ _ _ _ a20,aF _ _ _ _ j5,aH];exact congrArg some (aJB sz)
  ·rw [aH,List.take_of_length_le (by simp),hzl]
  ·rw [List.replicate_succ']
   intro q_
   by_cases e1:q_ = c
   ·rw [e1,aH,aH];exact .inr rfl
   rw [aF _ _ _ _ e1,aF _ _ _ _ e1]
   by_cases e2:q_ = m
   ·rw [e2];exact .inl m2
   by_cases e3:q_ = b
   ·rw [e3];exact .inl hb
   rw [aF _ _ _ _ e2,aF _ _ _ _ e1,aF _ _ _ _ e3,aF _ _ _ _ e2,aF _ _ _ _ e3];exact .inr rfl
 ·have hk':k = inp:=by omega
  subst hk'
  simp -dsimp -implicitDefEqProofs only [go_sem,↓reduceIte,Tryz.f104,Int.lt_irrefl,Nat.lt_irrefl]
  refine fun _=>?_
  refine bQ (keep:=aJC) (ib:=aWT) (mk:=aWU) mix (by kernel_rfl) (fun x:Nat=>[(1,bB L),(5,.os b 1 0 k),(28,cY 4 aY.c t.aM),(29,I t.aM.length),(30,I x)]) (fun x=>a7 h b (b7 (byK t.aM L sz k x))) (fun x=>x≤t.aM.length) (fun x=>t.aM.length - x) 0 ⟨by simp [bU,bF],aA.le_refl _,Nat.zero_le _⟩ ?_
  intro x hx
  have hB:=zE hins hL x hx
  rcases Nat.lt_or_ge x t.aM.length with hlt | aAP
  ·have ec:t.aM[x]? = some t.aM[x]:=List.getElem?_eq_getElem hlt
   have hc:=hins x _ ec
   have hst:byK t.aM L sz k (x + 1) = if t.aM[x].fX = 1 then (byK t.aM L sz k x).set t.aM[x].aW.toNat (j8 ((byK t.aM L sz k x).getD t.aM[x].aW.toNat []) (L.getD x [])) else byK t.aM L sz k x:=by
    rw [byK,show t.aM.getD x ⟨0,0,0,0⟩ = t.aM[x] by rw [List.getD_eq_getElem?_getD,ec];rfl]
   generalize byK t.aM L sz k x = A at *
   generalize t.aM[x] = c at *
   have eL:=hL.get hlt
   simp -dsimp -implicitDefEqProofs only [go_sem,↓reduceIte,Tryz.f104,hlt,ec,aY.aQ]
   refine fun n ⟨n1,n2⟩=>?_
   have sM:¬ n = b:=n1
   have sK:¬ b = n:=Ne.symm sM
   have m7:(n = b) = False:=eq_false sM
   have m6:(b = n) = False:=eq_false sK
   simp only [aO]
   refine ⟨fun h1=>?_,fun h1=>⟨x + 1,IntWalk.i64_in _ (by omega),?_,hlt,by omega⟩⟩
   ·have hn:0≤c.aW∧c.aW < k:=by unfold bK at hc;omega
    have eA:=hB.get (i:=c.aW.toNat) (by omega)
    have hcall:=vN (added (A.getD c.aW.toNat []) (L.getD x []) (by rw [eL.2.1,eA.2.1]) (by rw [eA.2.1];omega) (rE eA.2.2) (rE eL.2.2))
    simp -dsimp -implicitDefEqProofs only [go_sem,↓reduceIte,Tryz.f104,b7,m7,m6,aF,eA.1,eL.1,ll]
    refine ⟨hlt,hn.1,hn.2,aD.mk hcall ?_⟩
    simp -dsimp -implicitDefEqProofs only [go_sem,↓reduceIte,Tryz.f104,b7,m7,m6,aF,eA.1,eL.1,ll]
    refine ⟨hn.1,hn.2,x + 1,IntWalk.i64_in _ (by omega),?_,hlt,by omega⟩
    rw [hst,if_pos h1]
    have hr:=aG9 A c.aW.toNat (j8 (A.getD c.aW.toNat []) (L.getD x []))
    intro q_
    by_cases e1:q_ = b
    ·rw [e1,aH,aH];exact .inr (congrArg some hr.symm)
    rw [aF _ _ _ _ e1,aF _ _ _ _ e1]
    by_cases e2:q_ = n
    ·rw [e2];exact .inl n2
    rw [aF _ _ _ _ e2,aF _ _ _ _ e2,aF _ _ _ _ e1];exact .inr rfl
   ·rw [hst,if_neg h1]
    exact aA.bI (by rw [aF _ _ _ _ n1];exact n2) (aA.le_refl _)
  ·have hx':x = t.aM.length:=by omega
   subst hx'
   simp -dsimp -implicitDefEqProofs only [go_sem,↓reduceIte,Tryz.f104,Int.lt_irrefl,Nat.lt_irrefl]
   exact m5 _ hb (aA.le_refl _) hB.1.symm
theorem vS {sz n:Nat} (hsz:1≤sz) {outs ws:List Int} (ho:∀ r∈outs,0≤r∧r < n) (hwn:hH ws):∀ k,k≤outs.length→c5 sz n (qL outs ws (List.replicate n (vR sz)) k)
 |0,_=>⟨by simp [qL],fun s hs=>by rw [(List.mem_replicate.1 hs).2];exact aAX sz⟩
 |k + 1,hk=>by
  have h1:=vS hsz ho hwn k (by omega)
  have hr:=ho (outs.getD k 0) (by rw [List.getD_eq_getElem?_getD,List.getElem?_eq_getElem (by omega)];exact List.getElem_mem _)
  have h2:=(h1.get (i:=(outs.getD k 0).toNat) (by omega)).2
  refine h1.set ⟨by rw [List.length_set];exact h2.1,fun x hx=>?_⟩ _
  rcases List.mem_or_eq_of_mem_set hx with hx | rfl
  ·exact h2.2 x hx
  ·exact c7 _
def Cg (x y:Int):Prop:=∃ q:Int,x = y + 1000003 * q
theorem Cg.refl (x:Int):Cg x x:=⟨0,by omega⟩
theorem Cg.symm {x y:Int} (h:Cg x y):Cg y x:=by obtain ⟨q,h⟩:=h;exact ⟨-q,by omega⟩
theorem Cg.trans {x y z:Int} (h:Cg x y) (k:Cg y z):Cg x z:=by obtain ⟨q,h⟩:=h;obtain ⟨r,k⟩:=k;exact ⟨q + r,by omega⟩
theorem Cg.add {a b c d:Int} (h:Cg a b) (k:Cg c d):Cg (a + c) (b + d):=by obtain ⟨q,h⟩:=h;obtain ⟨r,k⟩:=k;exact ⟨q + r,by omega⟩
theorem Cg.mul {a b c d:Int} (h:Cg a b) (k:Cg c d):Cg (a * c) (b * d):=by
 obtain ⟨q,rfl⟩:=h;obtain ⟨r,rfl⟩:=k;exact ⟨q * d + b * r + 1000003 * q * r,by grind⟩
theorem Cg.mod (x:Int):Cg (x % 1000003) x:=⟨-(x / 1000003),by omega⟩
theorem Cg.of_eq {x y:Int} (h:x = y):Cg x y:=h ▸ Cg.refl x
theorem Cg.num {x y:Int} (h:Cg x y) (hx:fP x) (hy:fP y):x = y:=by
 obtain ⟨q,h⟩:=h
 unfold fP at hx hy
 omega
theorem aAY {x y:Int} (h:Cg x y):Cg (-x) (-y):=by obtain ⟨q,h⟩:=h;exact ⟨-q,by omega⟩
theorem wM {code:List aY} {j:Nat} {c:aY} (e:code[j]? = some c):code.getD j ⟨0,0,0,0⟩ = c:=by rw [List.getD_eq_getElem?_getD,e];rfl
def dO:(Nat→Int)→(Nat→Int)→Nat→Int
 |f,g,0=>f 0 * g 0
 |f,g,k + 1=>f 0 * g (k + 1) + dO (fun i=>f (i + 1)) g k
theorem aAZ:∀ (k:Nat) (f g:Nat→Int),dO f g (k + 1) = dO f (fun i=>g (i + 1)) k + f (k + 1) * g 0
 |0,f,g=>rfl
 |k + 1,f,g=>by
  show f 0 * g (k + 2) + dO (fun i=>f (i + 1)) g (k + 1) = (f 0 * g (k + 2) + dO (fun i=>f (i + 1)) (fun i=>g (i + 1)) k) + f (k + 2) * g 0
  have:=aAZ k (fun i=>f (i + 1)) g
  simp only [Nat.add_assoc,Nat.reduceAdd] at this ⊢
  omega
theorem mI:∀ (k:Nat) (f g:Nat→Int),dO f g k = dO g f k
 |0,f,g=>Int.mul_comm _ _
 |k + 1,f,g=>by
  rw [aAZ k g f,dO,mI k (fun i=>f (i + 1)) g,Int.mul_comm (f 0)];omega
theorem tU:∀ (k:Nat) (f g h:Nat→Int),dO (fun i=>f i + g i) h k = dO f h k + dO g h k
 |0,f,g,h=>Int.add_mul _ _ _
 |k + 1,f,g,h=>by
  rw [dO,dO,dO,tU k (fun i=>f (i + 1)) (fun i=>g (i + 1)) h];grind
theorem tV (c:Int):∀ (k:Nat) (f h:Nat→Int),dO (fun i=>c * f i) h k = c * dO f h k
 |0,f,h=>Int.mul_assoc _ _ _
 |k + 1,f,h=>by
  rw [dO,dO,tV c k (fun i=>f (i + 1)) h];grind
theorem wN (k:Nat) (f h:Nat→Int):dO (fun i=>-(f i)) h k = -(dO f h k):=by
 have:=tV (-1) k f h
 simp only [Int.neg_mul,Int.one_mul] at this
 exact this
theorem vT (k:Nat) (f g h:Nat→Int):dO h (fun i=>f i + g i) k = dO h f k + dO h g k:=by rw [mI,tU,mI k f,mI k g]
theorem zF (k:Nat) (f h:Nat→Int):dO h (fun i=>-(f i)) k = -(dO h f k):=by rw [mI,wN,mI k f]
theorem aMA (c:Int) (k:Nat) (f h:Nat→Int):dO h (fun i=>c * f i) k = c * dO h f k:=by rw [mI,tV,mI k f]
theorem m8:∀ (k:Nat) (f g h:Nat→Int),dO (dO f g) h k = dO f (dO g h) k
 |0,f,g,h=>Int.mul_assoc _ _ _
 |k + 1,f,g,h=>by
  have e:(fun i=>dO f g (i + 1)) = fun i=>f 0 * g (i + 1) + dO (fun i=>f (i + 1)) g i:=rfl
  rw [dO,e,tU k (fun i=>f 0 * g (i + 1)) (dO (fun i=>f (i + 1)) g),tV,m8 k (fun i=>f (i + 1)) g h,dO,dO,dO]
  grind
theorem lI:∀ (k:Nat) (f f' g g':Nat→Int),(∀ i,i≤k→Cg (f i) (f' i))→(∀ i,i≤k→Cg (g i) (g' i))→Cg (dO f g k) (dO f' g' k)
 |0,f,f',g,g',a,b=>(a 0 (Nat.le_refl _)).mul (b 0 (Nat.le_refl _))
 |k + 1,f,f',g,g',a,b=>((a 0 (by omega)).mul (b (k + 1) (Nat.le_refl _))).add (lI k _ _ g g' (fun i hi=>a (i + 1) (by omega)) fun i hi=>b i (by omega))
theorem aCS:∀ (k:Nat) (f:Nat→Int),dO f (fun i=>if i = 0 then 1 else 0) k = f k
 |0,f=>by simp [dO]
 |k + 1,f=>by rw [aAZ];simp only [Nat.add_one_ne_zero,if_false,if_true];rw [mI];have:=tV 0 k (fun _=>0) f;simp only [Int.zero_mul] at this;rw [this];omega
def dA (F:Nat→Int):Nat→Int
 |0=>0
 |m + 1=>dA F m + F m
theorem aHB (F:Nat→Int):∀ m,dA F (m + 1) = F 0 + dA (fun i=>F (i + 1)) m
 |0=>by simp [dA]
 |m + 1=>by rw [dA,aHB F m,dA];omega
theorem jZ {F G:Nat→Int}:∀ m,(∀ i,i < m→F i = G i)→dA F m = dA G m
 |0,_=>rfl
 |m + 1,h=>by rw [dA,dA,jZ m fun i hi=>h i (by omega),h m (by omega)]
theorem aJD {F G:Nat→Int}:∀ m,(∀ i,i < m→Cg (F i) (G i))→Cg (dA F m) (dA G m)
 |0,_=>Cg.refl _
 |m + 1,h=>(aJD m fun i hi=>h i (by omega)).add (h m (by omega))
theorem pN:∀ (k:Nat) (f g:Nat→Int),dO f g k = dA (fun i=>f i * g (k - i)) (k + 1)
 |0,f,g=>by simp [dO,dA]
 |k + 1,f,g=>by
  have h:dA (fun i=>f (i + 1) * g (k - i)) (k + 1) = dA (fun i=>f (i + 1) * g (k + 1 - (i + 1))) (k + 1):=jZ _ fun i hi=>by rw [show k + 1 - (i + 1) = k - i by omega]
  rw [dO,pN k,h,aHB (fun i=>f i * g (k + 1 - i)) (k + 1)];rfl
def sF (s:List Int):Nat→Int:=fun i=>s.getD i 0
theorem aWX (a b:List Int) (k:Nat):∀ m,Cg (wR a b k m) (dA (fun i=>sF a i * sF b (k - i)) m)
 |0=>Cg.refl _
 |m + 1=>(Cg.mod _).trans ((aWX a b k m).add (Cg.refl _))
theorem aWY (o b:List Int) (k:Nat) (r:Int):∀ m,Cg (dvS o b k r m) (r - dA (fun i=>sF o i * sF b (k - i)) m)
 |0=>Cg.of_eq (by simp [dvS,dA])
 |m + 1=>(Cg.mod _).trans (((aWY o b k r m).add (Cg.refl (-(o.getD m 0 * b.getD (k - m) 0)))).trans (Cg.of_eq (by rw [dA];simp only [sF];omega)))
theorem aE1 {sz:Nat} {a b:List Int} (ha:bD sz a) (hb:bD sz b) {k:Nat} (hk:k < sz):Cg (sF (j8 a b) k) (sF a k + sF b k):=by
 have h:(j8 a b)[k]? = some ((a.getD k 0 + b.getD k 0) % 1000003):=by
  rw [j8,List.getElem?_zipWith,b9 (l:=a) (by rw [ha.1];exact hk),b9 (l:=b) (by rw [hb.1];exact hk)]
 rw [sF,List.getD_eq_getElem?_getD,h];exact Cg.mod _
theorem a5S {sz:Nat} {a:List Int} (ha:bD sz a) (n:Int) {k:Nat} (hk:k < sz):Cg (sF (gS a n) k) (sF a k * n):=by
 have h:(gS a n)[k]? = some (a.getD k 0 * n % 1000003):=by
  rw [gS,List.getElem?_map,b9 (l:=a) (by rw [ha.1];exact hk)];rfl
 rw [sF,List.getD_eq_getElem?_getD,h];exact Cg.mod _
theorem aE2 {sz:Nat} {a:List Int} (ha:bD sz a) {k:Nat} (hk:k < sz):Cg (sF (gS a 1000002) k) (-(sF a k)):=(a5S ha _ hk).trans ⟨sF a k,by omega⟩
theorem aJE {sz:Nat} {a b:List Int} (ha:bD sz a) (hb:bD sz b) {k:Nat} (hk:k < sz):Cg (sF (jQ a b) k) (sF a k + -(sF b k)):=(aE1 ha (fO _ hb) hk).trans ((Cg.refl _).add (aE2 hb hk))
theorem tW {sz:Nat} {a:List Int} (b:List Int) (ha:bD sz a) {k:Nat} (hk:k < sz):Cg (sF (mulL a b) k) (dO (sF a) (sF b) k):=by
 have h:(mulL a b)[k]? = some (wR a b k (k + 1)):=by
  rw [mulL,List.getElem?_map,List.getElem?_range (by rw [ha.1];exact hk)];rfl
 rw [sF,List.getD_eq_getElem?_getD,h,pN];exact aWX a b k _
theorem aE3 {sz:Nat} (n:Int) (k:Nat) (hk:k < sz):sF (bJ n sz) k = if k = 0 then n else 0:=by
 rw [sF,bJ,List.getD_eq_getElem?_getD]
 split
 ·rename_i e;subst e
  rw [List.getElem?_set_self (by rw [List.length_replicate];exact hk)];rfl
 ·rename_i e
  rw [List.getElem?_set_ne (Ne.symm e),List.getElem?_replicate,if_pos hk];rfl
theorem aE4 {sz:Nat} {a:List Int} (b:List Int) (ha:bD sz a) {k:Nat} (hk:k < sz):Cg (sF (gH a b) k) ((sF a k - dA (fun i=>sF (gH a b) i * sF b (k - i)) k) * gG (b.getD 0 0)):=by
 have hl:k < a.length:=by rw [ha.1];exact hk
 have h:sF (gH a b) k = dvS (iW a b k) b k (a.getD k 0) k * gG (b.getD 0 0) % 1000003:=by
  rw [sF,List.getD_eq_getElem?_getD,List.getElem?_eq_getElem (by rw [oW];exact hl)]
  exact y5 hl
 rw [h]
 refine (Cg.mod _).trans (Cg.mul ((aWY _ b k _ k).trans (Cg.of_eq ?_)) (Cg.refl _))
 congr 1
 refine jZ k fun i hi=>?_
 congr 1
 rw [sF,sF,gH,← wF a b (k:=k) a.length (by omega),List.getD_eq_getElem?_getD,List.getElem?_take_of_lt hi,← List.getD_eq_getElem?_getD]
def ivL (b:List Int) (sz:Nat):List Int:=gH (bJ 1 sz) b
theorem aMB (f g:Nat→Int) (k:Nat):dO f (fun i=>if i = 0 then 0 else g i) k = dA (fun i=>f i * g (k - i)) k:=by
 rw [pN,dA,Nat.sub_self,if_pos rfl,Int.mul_zero,Int.add_zero]
 exact jZ k fun i hi=>by rw [if_neg (by omega)]
theorem aE5 {sz:Nat} {a b:List Int} (ha:bD sz a):∀ (m k:Nat),k < m→k < sz→Cg (sF (gH a b) k) (dO (sF a) (sF (ivL b sz)) k)
 |0,k,h,_=>by omega
 |m + 1,k,h,hk=>by
  have ih:=fun i hi hi2=>aE5 (b:=b) ha m i hi hi2
  have hc:bD sz (bJ 1 sz):=gN (by unfold fP;omega)
  have h1:=aE4 b ha hk
  refine h1.trans ?_
  have h2:∀ i,i≤k→Cg (sF (ivL b sz) i) (gG (b.getD 0 0) * ((if i = 0 then 1 else 0) + -(dO (sF (ivL b sz)) (fun i=>if i = 0 then 0 else sF b i) i))):=fun i hi=>by
   have:=aE4 b hc (k:=i) (by omega)
   rw [aE3 _ _ (by omega)] at this
   rw [aMB,Int.mul_comm]
   exact this
  have h3:Cg (dO (sF a) (sF (ivL b sz)) k) (gG (b.getD 0 0) * (sF a k + -(dO (dO (sF a) (sF (ivL b sz))) (fun i=>if i = 0 then 0 else sF b i) k))):=by
   refine (lI k _ _ _ _ (fun i _=>Cg.refl _) h2).trans (Cg.of_eq ?_)
   rw [aMA (gG (b.getD 0 0)) k (fun i=>(if i = 0 then 1 else 0) + -(dO (sF (ivL b sz)) (fun i=>if i = 0 then 0 else sF b i) i)) (sF a),vT k (fun i=>if i = 0 then 1 else 0),aCS,zF k (dO (sF (ivL b sz)) fun i=>if i = 0 then 0 else sF b i),m8]
  refine Cg.trans ?_ h3.symm
  rw [aMB,Int.mul_comm]
  exact (Cg.refl _).mul ((Cg.refl _).add (aAY (aJD k fun i hi=>(ih i (by omega) (by omega)).mul (Cg.refl _))))
def uT:Nat→Nat→Nat
 | _,0=>1
 |0,_ + 1=>0
 |n + 1,k + 1=>uT n k + uT n (k + 1)
theorem tX:∀ n k,(k + 1) * uT (n + 1) (k + 1) = (n + 1) * uT n k
 |0,0=>rfl
 |0,k + 1=>by simp [uT]
 |n + 1,0=>by
  have h:=tX n 0
  simp only [uT,Nat.zero_add,Nat.one_mul,Nat.mul_one] at h ⊢
  omega
 |n + 1,k + 1=>by
  have h1:=tX n k
  have h2:=tX n (k + 1)
  have e:uT (n + 1 + 1) (k + 1 + 1) = uT (n + 1) (k + 1) + uT (n + 1) (k + 1 + 1):=rfl
  have e2:uT (n + 1) (k + 1) = uT n k + uT n (k + 1):=rfl
  rw [e]
  generalize uT (n + 1) (k + 1 + 1) = A at *
  generalize uT n k = B at *
  generalize uT n (k + 1) = C at *
  rw [e2] at h1 ⊢
  grind
theorem zG:∀ n k,n < k→uT n k = 0
 |0,k + 1,_=>rfl
 |n + 1,k + 1,h=>by rw [uT,zG n k (by omega),zG n (k + 1) (by omega)]
 | _,0,h=>by omega
theorem aMC:∀ n,uT n n = 1
 |0=>rfl
 |n + 1=>by rw [uT,aMC n,zG n (n + 1) (by omega)]
def l8 (F:Nat→Nat):Nat→Nat
 |0=>0
 |m + 1=>l8 F m + F m
theorem wO (F:Nat→Nat):∀ m,l8 F (m + 1) = F 0 + l8 (fun i=>F (i + 1)) m
 |0=>by simp [l8]
 |m + 1=>by rw [l8,wO F m,l8];omega
theorem xT {F G:Nat→Nat}:∀ m,(∀ i,i < m→F i = G i)→l8 F m = l8 G m
 |0,_=>rfl
 |m + 1,h=>by rw [l8,l8,xT m fun i hi=>h i (by omega),h m (by omega)]
theorem aMD (F G:Nat→Nat):∀ m,l8 (fun i=>F i + G i) m = l8 F m + l8 G m
 |0=>rfl
 |m + 1=>by rw [l8,l8,l8,aMD F G m];omega
theorem aME (a:Nat) (F:Nat→Nat):∀ m,a * l8 F m = l8 (fun i=>a * F i) m
 |0=>rfl
 |m + 1=>by rw [l8,l8,← aME a F m,Nat.mul_add]
theorem a21 (a:Nat):∀ n,(a + 1) ^ n = l8 (fun k=>uT n k * a ^ k) (n + 1)
 |0=>by simp [l8,uT]
 |n + 1=>by
  have e1:l8 (fun k=>uT (n + 1) k * a ^ k) (n + 1 + 1) = 1 + l8 (fun k=>uT n k * a ^ (k + 1) + uT n (k + 1) * a ^ (k + 1)) (n + 1):=by
   rw [wO,uT,Nat.pow_zero,Nat.mul_one]
   exact congrArg (1 + ·) (xT _ fun i _=>by rw [uT,Nat.add_mul])
  have e2:l8 (fun k=>uT n k * a ^ k) (n + 1 + 1) = 1 + l8 (fun k=>uT n (k + 1) * a ^ (k + 1)) (n + 1):=by
   rw [wO,show uT n 0 = 1 by cases n <;> rfl,Nat.pow_zero,Nat.mul_one]
  have e3:l8 (fun k=>uT n k * a ^ k) (n + 1 + 1) = l8 (fun k=>uT n k * a ^ k) (n + 1):=by rw [l8,zG n (n + 1) (by omega)];omega
  rw [e1,aMD,Nat.pow_succ,a21 a n,Nat.mul_comm,Nat.add_mul,aME]
  have e4:l8 (fun i=>a * (uT n i * a ^ i)) (n + 1) = l8 (fun k=>uT n k * a ^ (k + 1)) (n + 1):=xT _ fun i _=>by rw [Nat.pow_succ];grind
  rw [e4]
  omega
theorem aMF {p:Nat} {F:Nat→Nat}:∀ m,(∀ i,i < m→p ∣ F i)→p ∣ l8 F m
 |0,_=>⟨0,rfl⟩
 |m + 1,h=>Nat.dvd_add (aMF m fun i hi=>h i (by omega)) (h m (by omega))
theorem aWZ {p:Nat} (hp:1 < p) (hc:∀ k,0 < k→k < p→Nat.Coprime p k):∀ a:Nat,∃ q,a ^ p = a + p * q
 |0=>⟨0,by rw [Nat.zero_pow (by omega)];omega⟩
 |a + 1=>by
  obtain ⟨q,hq⟩:=aWZ hp hc a
  obtain ⟨n,rfl⟩:∃ n,p = n + 1:=⟨p - 1,by omega⟩
  have h1:n + 1 ∣ l8 (fun i=>uT (n + 1) (i + 1) * a ^ (i + 1)) n:=aMF n fun i hi=>by
   have h2:=tX n i
   have h3:n + 1 ∣ (i + 1) * uT (n + 1) (i + 1):=⟨_,h2⟩
   exact Nat.dvd_trans ((hc (i + 1) (by omega) (by omega)).dvd_of_dvd_mul_left h3) ⟨_,rfl⟩
  obtain ⟨r,hr⟩:=h1
  refine ⟨q + r,?_⟩
  rw [a21,l8,wO,hr,aMC,hq]
  simp only [uT]
  grind
def aRS:Nat→Bool
 |0=>true
 |k + 1=>(decide (k < 2) || decide (¬ 1000003 % k = 0)) && aRS k
theorem aMG:∀ n,aRS n = true→∀ k,2≤k→k < n→¬ 1000003 % k = 0
 |0,_,k,_,h=>by omega
 |n + 1,t,k,h2,h=>by
  rw [aRS,Bool.and_eq_true] at t
  rcases Nat.lt_or_ge k n with h3 | h3
  ·exact aMG n t.2 k h2 h3
  ·obtain rfl:k = n:=by omega
   have:=t.1
   rw [decide_eq_false (show ¬ k < 2 by omega),Bool.false_or] at this
   exact of_decide_eq_true this
set_option maxRecDepth 20000 in
theorem aTG:aRS 1001 = true:=by decide +kernel
theorem aMH (k:Nat) (h0:0 < k) (h1:k < 1000003):Nat.Coprime 1000003 k:=by
 have d1:=Nat.gcd_dvd_left 1000003 k
 have d2:=Nat.le_of_dvd h0 (Nat.gcd_dvd_right 1000003 k)
 have d0:=Nat.gcd_pos_of_pos_right 1000003 h0
 show Nat.gcd 1000003 k = 1
 generalize Nat.gcd 1000003 k = d at *
 obtain ⟨e,he⟩:=d1
 have hd:∀ x y,1000003 = x * y→2≤x→x < 1001→False:=fun x y h a b=>aMG 1001 aTG x a b (by rw [h,Nat.mul_mod_right])
 rcases Nat.lt_or_ge d 2 with h | h
 ·omega
 exfalso
 rcases Nat.lt_or_ge d 1001 with h2 | h2
 ·exact hd d e he h h2
 rcases Nat.lt_or_ge e 1001 with h3 | h3
 ·rcases Nat.lt_or_ge e 2 with h4 | h4
  ·rcases (show e = 0∨e = 1 by omega) with rfl | rfl <;> omega
  ·exact hd e d (by rw [Nat.mul_comm];exact he) h4 h3
 ·have:=Nat.mul_le_mul h2 h3
  omega
theorem inv_mul {x:Int} (hx:fP x) (h0:¬ x = 0):Cg (x * gG x) 1:=by
 obtain ⟨n,rfl⟩:∃ n:Nat,x = n:=⟨x.toNat,by unfold fP at hx;omega⟩
 unfold fP at hx
 have hc:=aMH n (by omega) (by omega)
 obtain ⟨q,hq⟩:=aWZ (p:=1000003) (by omega) aMH n
 have e:((n:Int) % 1000003) = (n:Int):=by omega
 rw [gG,pwN,e]
 have h1:Cg ((n:Int) * ((n:Int) ^ 1000001 % 1000003)) ((n:Int) * (n:Int) ^ 1000001):=(Cg.refl _).mul (Cg.mod _)
 refine h1.trans ?_
 generalize hm:1000001 = m
 have hm2:1000003 = m + 1 + 1:=by omega
 have h2:n * (n * (n ^ m) - 1) = 1000003 * q:=by
  have h3:n ^ 1000003 = n * (n * n ^ m):=by
   rw [hm2,Nat.pow_succ,Nat.pow_succ];grind
  have h4:1≤n * n ^ m:=Nat.mul_pos (by omega) (Nat.pow_pos (by omega))
  rw [Nat.mul_sub,← h3,hq,Nat.mul_one]
  omega
 have h5:1000003 ∣ n * (n * (n ^ m) - 1):=⟨q,h2⟩
 obtain ⟨r,hr⟩:=hc.dvd_of_dvd_mul_left h5
 have h6:1≤n * n ^ m:=Nat.mul_pos (by omega) (Nat.pow_pos (by omega))
 have h7:n * n ^ m = 1 + 1000003 * r:=by omega
 refine ⟨(r:Int),?_⟩
 have h8:((n * n ^ m:Nat):Int) = ((1 + 1000003 * r:Nat):Int):=by rw [h7]
 rw [Int.natCast_mul,Int.natCast_pow,Int.natCast_add,Int.natCast_mul] at h8
 exact h8
def eG (R:List Int→List Int→Prop):List (List Int)→List (List Int)→Prop
 | [],[]=>True
 |s :: l,s' :: l'=>R s s'∧eG R l l'
 | _,_=>False
theorem eG.get {R:List Int→List Int→Prop} (hn:R [] []):∀ {l l':List (List Int)},eG R l l'→∀ i,R (l.getD i []) (l'.getD i [])
 | [],[],_,i=>by simp [hn]
 |s :: l,s' :: l',h,0=>h.1
 |s :: l,s' :: l',h,i + 1=>by simpa using eG.get hn h.2 i
 | [],_ :: _,h,_=>h.elim
 | _ :: _,[],h,_=>h.elim
theorem eG.len {R:List Int→List Int→Prop}:∀ {l l':List (List Int)},eG R l l'→l.length = l'.length
 | [],[],_=>rfl
 |s :: l,s' :: l',h=>by simp [eG.len h.2]
 | [],_ :: _,h=>h.elim
 | _ :: _,[],h=>h.elim
def pR (m:Nat) (s s':List Int):Prop:=(s = []∧s' = [])∨(m≤s.length∧m≤s'.length∧∀ i,i < m→sF s i = sF s' i)
theorem pR.get {m:Nat} {s s':List Int} (h:pR m s s') {i:Nat} (hi:i < m):sF s i = sF s' i:=by
 rcases h with ⟨rfl,rfl⟩ | ⟨_,_,h⟩
 ·rfl
 ·exact h i hi
theorem bBM {s:List Int} {i:Nat} {x:Int} (h:s[i]? = some x):sF s i = x:=by rw [sF,List.getD_eq_getElem?_getD,h];rfl
def qN (sz:Nat) (dirs:List (List Int)) (D rg:Nat→List Int) (k:Nat) (c:aY):List Int :=
 if c.fX = 1 then dirs.getD c.aW.toNat []
 else if c.fX = 2 then bJ 0 sz
 else if c.fX = 3 then j8 (D c.fA.toNat) (D c.fB.toNat)
 else if c.fX = 4 then jQ (D c.fA.toNat) (D c.fB.toNat)
 else if c.fX = 5 then j8 (mulL (D c.fA.toNat) (rg c.fB.toNat)) (mulL (rg c.fA.toNat) (D c.fB.toNat))
 else if c.fX = 7 then gS (D c.fA.toNat) 1000002
 else gH (jQ (D c.fA.toNat) (mulL (rg k) (D c.fB.toNat))) (rg c.fB.toNat)
def zZ (sz:Nat) (dirs:List (List Int)) (rg:Nat→List Int) (code:List aY):Nat→List (List Int)
 |0=>[]
 |k + 1=>zZ sz dirs rg code k ++ [qN sz dirs (fun i=>(zZ sz dirs rg code k).getD i []) rg k (code.getD k ⟨0,0,0,0⟩)]
theorem wP (sz:Nat) (dirs:List (List Int)) (rg:Nat→List Int) (code:List aY):∀ k,(zZ sz dirs rg code k).length = k
 |0=>rfl
 |k + 1=>by rw [zZ,List.length_append,wP sz dirs rg code k];rfl
theorem zH (sz:Nat) (dirs:List (List Int)) (rg:Nat→List Int) (code:List aY) {r k:Nat} (hr:r < k):∀ n,k≤n→(zZ sz dirs rg code n).getD r [] = (zZ sz dirs rg code k).getD r []
 |0,h=>by omega
 |n + 1,h=>by
  rcases Nat.lt_or_ge n k with h1 | h1
  ·have:k = n + 1:=by omega
   rw [this]
  ·rw [← zH sz dirs rg code hr n h1,zZ,List.getD_eq_getElem?_getD,List.getElem?_append_left (by rw [wP];omega),List.getD_eq_getElem?_getD]
def z3 (sz:Nat) (dirs:List (List Int)) (rg:Nat→List Int) (code:List aY) (k:Nat):List Int:=(zZ sz dirs rg code code.length).getD k []
theorem aE6 {sz:Nat} {dirs:List (List Int)} {rg:Nat→List Int} {code:List aY} {inp:Int} {k:Nat} {c:aY} (e:code[k]? = some c) (hi:bK inp k c):z3 sz dirs rg code k = qN sz dirs (z3 sz dirs rg code) rg k c:=by
 have h:=(List.getElem?_eq_some_iff.1 e).1
 have h1:z3 sz dirs rg code k = qN sz dirs (fun i=>(zZ sz dirs rg code k).getD i []) rg k c:=by
  rw [z3,zH sz dirs rg code (Nat.lt_succ_self k) code.length h,zZ,List.getD_eq_getElem?_getD,List.getElem?_append_right (by rw [wP];exact Nat.le_refl _),wP,Nat.sub_self,wM e];rfl
 have h2:∀ i,i < k→(zZ sz dirs rg code k).getD i [] = z3 sz dirs rg code i:=fun i hi=>(zH sz dirs rg code hi code.length (by omega)).symm
 rw [h1]
 unfold bK at hi
 unfold qN
 split
 ·rfl
 split
 ·rfl
 dsimp only
 rw [h2 c.fA.toNat (by omega)]
 by_cases h7:c.fX = 7
 ·rw [if_neg (by omega),if_neg (by omega),if_neg (by omega),if_pos h7,if_neg (by omega),if_neg (by omega),if_neg (by omega),if_pos h7]
 ·rw [h2 c.fB.toNat (by omega)]
theorem aJF {sz:Nat} (hsz:1≤sz) {dirs:List (List Int)} {rg:Nat→List Int} {code:List aY} {inp:Int} (hins:∀ i c,code[i]? = some c→bK inp i c) (hd:∀ s∈dirs,bD sz s) (hl:(dirs.length:Int) = inp) (hrg:∀ k,k < code.length→bD sz (rg k)):∀ n k,k < n→k < code.length→bD sz (z3 sz dirs rg code k)
 |0,k,h,_=>by omega
 |n + 1,k,hn,hk=>by
  have ih:=fun i hi=>aJF hsz hins hd hl hrg n i hi
  have e:code[k]? = some code[k]:=List.getElem?_eq_getElem hk
  have hc:=hins k _ e
  rw [aE6 e hc]
  generalize code[k] = c at *
  unfold bK at hc
  unfold qN
  by_cases h1:c.fX = 1
  ·rw [if_pos h1];exact wG hd (by omega)
  rw [if_neg h1]
  by_cases h2:c.fX = 2
  ·rw [if_pos h2];exact gN (by unfold fP;omega)
  rw [if_neg h2]
  have da:=ih c.fA.toNat (by omega) (by omega)
  by_cases h3:c.fX = 3
  ·rw [if_pos h3];exact m4 da (ih _ (by omega) (by omega))
  rw [if_neg h3]
  by_cases h4:c.fX = 4
  ·rw [if_pos h4];exact lB da (ih _ (by omega) (by omega))
  rw [if_neg h4]
  by_cases h5:c.fX = 5
  ·rw [if_pos h5];exact m4 (cE _ da) (cE _ (hrg _ (by omega)))
  rw [if_neg h5]
  by_cases h7:c.fX = 7
  ·rw [if_pos h7];exact fO _ da
  ·rw [if_neg h7];exact lC _ (lB da (cE _ (hrg _ (by omega))))
def fA (A:List (List Int)) (i:Nat):Nat→Int:=sF (A.getD i [])
theorem aTH {a a':Nat→Nat→Int} (d:Nat→Nat→Int) (j:Nat) (m:Nat) (h:∀ k,k < m→a' k = a k):dA (fun i=>dO (a' i) (d i) j) m = dA (fun i=>dO (a i) (d i) j) m:=jZ m fun i hi=>by rw [h i hi]
theorem aJG {a a':Nat→Nat→Int} {d:Nat→Nat→Int} {r j:Nat} {s:Nat→Int} (h:∀ k,¬ k = r→a' k = a k) (hr:∀ q,q≤j→Cg (a' r q) (a r q + s q)):∀ m,r < m→Cg (dA (fun i=>dO (a' i) (d i) j) m) (dA (fun i=>dO (a i) (d i) j) m + dO s (d r) j)
 |0,q=>by omega
 |m + 1,q=>by
  rw [dA,dA]
  by_cases e:m = r
  ·subst e
   rw [aTH d j m fun k hk=>h k (by omega)]
   exact ((Cg.refl _).add ((lI j _ _ _ _ hr fun i _=>Cg.refl _).trans (Cg.of_eq (tU j _ _ _)))).trans (Cg.of_eq (by omega))
  ·rw [h m e]
   exact ((aJG h hr m (by omega)).add (Cg.refl _)).trans (Cg.of_eq (by omega))
theorem aW0 {sz n:Nat} {A:List (List Int)} (hA:c5 sz n A) {r:Int} (hr:r.toNat < n) {s:List Int} (hs:bD sz s):(∀ k,¬ k = r.toNat→fA (rQ r s A) k = fA A k)∧∀ q,q < sz→Cg (fA (rQ r s A) r.toNat q) (fA A r.toNat q + sF s q):=by
 refine ⟨fun k hk=>?_,fun q hq=>?_⟩
 ·rw [fA,fA,rQ,List.getD_eq_getElem?_getD (l:=A.set _ _),List.getElem?_set_ne (Ne.symm hk),← List.getD_eq_getElem?_getD]
 ·rw [fA,rQ,List.getD_eq_getElem?_getD (l:=A.set _ _),List.getElem?_set_self (by rw [hA.1];exact hr)]
  exact aE1 (hA.get hr).2 hs hq
theorem aJH {sz n:Nat} {A:List (List Int)} (hA:c5 sz n A) {r:Int} {s:List Int} (hs:bD sz s) {d:Nat→Nat→Int} {j m:Nat} (hj:j < sz) (hr:r.toNat < m) (hm:m≤n):Cg (dA (fun i=>dO (fA (rQ r s A) i) (d i) j) m) (dA (fun i=>dO (fA A i) (d i) j) m + dO (sF s) (d r.toNat) j) :=
 aJG (aW0 hA (by omega) hs).1 (fun q hq=>(aW0 hA (by omega) hs).2 q (by omega)) m hr
theorem gZ (f g:Nat→Int):dO f g = dO g f:=funext fun k=>mI k f g
theorem xU (f g h:Nat→Int):dO (dO f g) h = dO f (dO g h):=funext fun k=>m8 k f g h
theorem a5T {sz n y j:Nat} (hj:j < sz) (hy:y < n) {c:aY} {inp:Int} (hc:bK inp y c) {rg:List (List Int)} (hrg:c5 sz n rg) {A:List (List Int)} (hA:c5 sz n A) {D:Nat→List Int} (hD:∀ k,k < n→bD sz (D k)) {dirs:List (List Int)} (hop:D y = qN sz dirs D (fun i=>rg.getD i []) y c) :
  Cg (dA (fun i=>dO (fA A i) (sF (D i)) j) y + dO (fA A y) (sF (D y)) j) (dA (fun i=>dO (fA (l5 c rg y A) i) (sF (D i)) j) y + if c.fX = 1 then dO (fA A y) (sF (D y)) j else 0):=by
 have h0:=(hA.get hy).2
 have hc':=hc
 unfold bK at hc
 have dy:=hD y hy
 unfold qN at hop
 dsimp only at hop
 by_cases e1:c.fX = 1
 ·rw [if_pos e1,l5,if_neg (by omega),if_neg (by omega),if_neg (by omega),if_neg (by omega),if_neg (by omega)];exact Cg.refl _
 rw [if_neg e1] at hop ⊢
 by_cases e2:c.fX = 2
 ·rw [if_pos e2] at hop
  rw [l5,if_neg (by omega),if_neg (by omega),if_neg (by omega),if_neg (by omega),if_neg (by omega)]
  refine (Cg.refl _).add ((lI j _ _ _ (fun _=>0) (fun i _=>Cg.refl _) fun i hi=>Cg.of_eq ?_).trans (Cg.of_eq ?_))
  ·rw [hop,aE3 _ _ (by omega)];split <;> rfl
  ·have:=aMA 0 j (fun _=>0) (fA A y)
   simp only [Int.zero_mul] at this
   exact this
 rw [if_neg e2] at hop
 have ia:0≤c.fA∧c.fA < y:=by omega
 have da:=hD c.fA.toNat (by omega)
 have fin:∀ {T e:Int},Cg T (dA (fun i=>dO (fA A i) (sF (D i)) j) y + e)→Cg (dO (fA A y) (sF (D y)) j) e→Cg (dA (fun i=>dO (fA A i) (sF (D i)) j) y + dO (fA A y) (sF (D y)) j) (T + 0):=fun hB h =>
  ((Cg.refl _).add h).trans (hB.symm.trans (Cg.of_eq (by omega)))
 have one:∀ s1,bD sz s1→Cg (dA (fun i=>dO (fA (rQ c.fA s1 A) i) (sF (D i)) j) y) (dA (fun i=>dO (fA A i) (sF (D i)) j) y + dO (sF s1) (sF (D c.fA.toNat)) j):=fun s1 z1=>aJH hA z1 (d:=fun i=>sF (D i)) hj (by omega) (by omega)
 by_cases e7:c.fX = 7
 ·rw [if_neg (by omega),if_neg (by omega),if_neg (by omega),if_pos e7] at hop
  rw [l5,if_neg (by omega),if_neg (by omega),if_neg (by omega),if_neg (by omega),if_pos e7]
  refine fin (one _ (fO 1000002 h0)) ?_
  refine (lI j _ _ _ (fun i=>-(sF (D c.fA.toNat) i)) (fun i _=>Cg.refl _) fun i hi=>by rw [hop];exact aE2 da (by omega)).trans ?_
  refine Cg.trans (Cg.of_eq ?_) (lI j _ (fun i=>-(fA A y i)) _ _ (fun i hi=>aE2 h0 (by omega)) fun i _=>Cg.refl _).symm
  rw [zF j (sF (D c.fA.toNat)),wN j (fA A y)]
 have ib:0≤c.fB∧c.fB < y:=by omega
 have db:=hD c.fB.toNat (by omega)
 have two:∀ s1 s2,bD sz s1→bD sz s2→Cg (dA (fun i=>dO (fA (rQ c.fB s2 (rQ c.fA s1 A)) i) (sF (D i)) j) y) (dA (fun i=>dO (fA A i) (sF (D i)) j) y + (dO (sF s1) (sF (D c.fA.toNat)) j + dO (sF s2) (sF (D c.fB.toNat)) j)):=fun s1 s2 z1 z2 =>
  (aJH (hA.put (by omega) z1) z2 (d:=fun i=>sF (D i)) hj (by omega) (by omega)).trans (((one s1 z1).add (Cg.refl _)).trans (Cg.of_eq (by omega)))
 by_cases e3:c.fX = 3
 ·rw [if_pos e3] at hop
  rw [l5,if_pos e3]
  refine fin (two _ _ h0 h0) ?_
  refine (lI j _ _ _ (fun i=>sF (D c.fA.toNat) i + sF (D c.fB.toNat) i) (fun i _=>Cg.refl _) fun i hi=>by rw [hop];exact aE1 da db (by omega)).trans (Cg.of_eq ?_)
  rw [vT j (sF (D c.fA.toNat))];rfl
 rw [if_neg e3] at hop
 by_cases e4:c.fX = 4
 ·rw [if_pos e4] at hop
  rw [l5,if_neg e3,if_pos e4]
  refine fin (two _ _ h0 (fO 1000002 h0)) ?_
  refine (lI j _ _ _ (fun i=>sF (D c.fA.toNat) i + -(sF (D c.fB.toNat) i)) (fun i _=>Cg.refl _) fun i hi=>by rw [hop];exact aJE da db (by omega)).trans ?_
  refine Cg.trans (Cg.of_eq ?_) ((Cg.refl (dO (sF (A.getD y [])) (sF (D c.fA.toNat)) j)).add (lI j _ (fun i=>-(fA A y i)) _ _ (fun i hi=>aE2 h0 (by omega)) fun i _=>Cg.refl _).symm)
  rw [vT j (sF (D c.fA.toNat)) (fun i=>-(sF (D c.fB.toNat) i)),zF j (sF (D c.fB.toNat)),wN j (fA A y)];rfl
 rw [if_neg e4] at hop
 have ra:=(hrg.get (i:=c.fA.toNat) (by omega)).2
 have rb:=(hrg.get (i:=c.fB.toNat) (by omega)).2
 have ry:=(hrg.get (i:=y) hy).2
 by_cases e5:c.fX = 5
 ·rw [if_pos e5] at hop
  rw [l5,if_neg e3,if_neg e4,if_pos e5]
  refine fin (two _ _ (cE _ h0) (cE _ h0)) ?_
  generalize rg.getD c.fA.toNat [] = ra' at *
  generalize rg.getD c.fB.toNat [] = rb' at *
  refine (lI j _ _ _ (fun i=>dO (sF (D c.fA.toNat)) (sF rb') i + dO (sF ra') (sF (D c.fB.toNat)) i) (fun i _=>Cg.refl _) fun i hi=>by
   rw [hop]
   exact (aE1 (cE _ da) (cE _ ra) (by omega)).trans ((tW _ da (by omega)).add (tW _ ra (by omega)))).trans ?_
  refine Cg.trans (Cg.of_eq ?_) ((lI j _ (dO (fA A y) (sF rb')) _ _ (fun i hi=>tW _ h0 (by omega)) fun i _=>Cg.refl _).symm.add (lI j _ (dO (fA A y) (sF ra')) _ _ (fun i hi=>tW _ h0 (by omega)) fun i _=>Cg.refl _).symm)
  rw [vT j (dO (sF (D c.fA.toNat)) (sF rb')) (dO (sF ra') (sF (D c.fB.toNat))),m8,m8,gZ (sF rb')]
 ·have e6:c.fX = 6:=by omega
  rw [if_neg e5,if_neg e7] at hop
  rw [l5,if_neg e3,if_neg e4,if_neg e5,if_pos e6]
  have hp:=lC (rg.getD c.fB.toNat []) h0
  refine fin (two _ _ hp (fO 1000002 (cE _ hp))) ?_
  generalize rg.getD c.fB.toNat [] = rb' at *
  generalize rg.getD y [] = ry' at *
  have hm:=cE (D c.fB.toNat) ry
  refine (lI j _ _ _ (dO (fun i=>sF (D c.fA.toNat) i + -(dO (sF ry') (sF (D c.fB.toNat)) i)) (sF (ivL rb' sz))) (fun i _=>Cg.refl _) fun i hi=>by
   rw [hop]
   exact (aE5 (lB da hm) (i + 1) i (by omega) (by omega)).trans (lI i _ _ _ _ (fun k hk=>(aJE da hm (by omega)).trans ((Cg.refl _).add (aAY (tW _ ry (by omega))))) fun k _=>Cg.refl _)).trans ?_
  refine Cg.trans (Cg.of_eq ?_) ((lI j _ (dO (fA A y) (sF (ivL rb' sz))) _ _ (fun i hi=>aE5 h0 (i + 1) i (by omega) (by omega)) fun i _=>Cg.refl _).symm.add (lI j _ (fun i=>-(dO (dO (fA A y) (sF (ivL rb' sz))) (sF ry') i)) _ _ (fun i hi =>
   (aE2 (cE _ hp) (by omega)).trans (aAY ((tW _ hp (by omega)).trans (lI i _ _ _ _ (fun k hk=>aE5 h0 (k + 1) k (by omega) (by omega)) fun k _=>Cg.refl _)))) fun i _=>Cg.refl _).symm)
  have e:dO (fun i=>sF (D c.fA.toNat) i + -(dO (sF ry') (sF (D c.fB.toNat)) i)) (sF (ivL rb' sz)) = fun i=>dO (sF (D c.fA.toNat)) (sF (ivL rb' sz)) i + -(dO (dO (sF ry') (sF (D c.fB.toNat))) (sF (ivL rb' sz)) i):=funext fun i=>by
   rw [tU i (sF (D c.fA.toNat)) (fun i=>-(dO (sF ry') (sF (D c.fB.toNat)) i)),wN i (dO (sF ry') (sF (D c.fB.toNat)))]
  rw [e,vT j (dO (sF (D c.fA.toNat)) (sF (ivL rb' sz))) (fun i=>-(dO (dO (sF ry') (sF (D c.fB.toNat))) (sF (ivL rb' sz)) i)),zF j (dO (dO (sF ry') (sF (D c.fB.toNat))) (sF (ivL rb' sz))),wN j (dO (dO (fA A y) (sF (ivL rb' sz))) (sF ry')),m8 j (dO (fA A y) (sF (ivL rb' sz))),m8 j (fA A y),m8 j (fA A y),gZ (sF (ivL rb' sz)) (sF (D c.fA.toNat)),gZ (sF (ivL rb' sz)) (dO (sF ry') (sF (D c.fB.toNat)))]
theorem aOY {y k:Nat} {c:aY} {inp:Int} (hc:bK inp y c) (hy:y≤k) (rg A:List (List Int)):fA (l5 c rg y A) k = fA A k:=by
 unfold bK at hc
 have hp:∀ (r:Int) s B,0≤r∧r < y→fA (rQ r s B) k = fA B k:=fun r s B hr=>by
  rw [fA,fA,rQ,List.getD_eq_getElem?_getD (l:=B.set _ _),List.getElem?_set_ne (by omega),← List.getD_eq_getElem?_getD]
 unfold l5
 by_cases h3:c.fX = 3
 ·rw [if_pos h3,hp _ _ _ (by omega),hp _ _ _ (by omega)]
 rw [if_neg h3]
 by_cases h4:c.fX = 4
 ·rw [if_pos h4,hp _ _ _ (by omega),hp _ _ _ (by omega)]
 rw [if_neg h4]
 by_cases h5:c.fX = 5
 ·rw [if_pos h5,hp _ _ _ (by omega),hp _ _ _ (by omega)]
 rw [if_neg h5]
 by_cases h6:c.fX = 6
 ·rw [if_pos h6,hp _ _ _ (by omega),hp _ _ _ (by omega)]
 rw [if_neg h6]
 by_cases h7:c.fX = 7
 ·rw [if_pos h7,hp _ _ _ (by omega)]
 ·rw [if_neg h7]
theorem aHC {code:List aY} {inp:Int} (hins:∀ i c,code[i]? = some c→bK inp i c) (rg A0:List (List Int)):∀ j k,j≤code.length→j≤k + 1→fA (pM code rg A0 (code.length - j) j) k = fA (pM code rg A0 code.length 0) k
 |0,k,_,_=>rfl
 |j + 1,k,hj,hk=>by
  rw [← aHC hins rg A0 j k (by omega) (by omega)]
  have ec:code[j]? = some code[j]:=List.getElem?_eq_getElem (by omega)
  rw [show code.length - j = (code.length - (j + 1)) + 1 by omega,pM,wM ec,aOY (hins j _ ec) (by omega)]
def a0A (code:List aY) (L:List (List Int)) (D:Nat→List Int) (j k:Nat):Int:=if (code.getD k ⟨0,0,0,0⟩).fX = 1 then dO (fA L k) (sF (D k)) j else 0
theorem aE7 {sz:Nat} (hsz:1≤sz∧sz≤1048576) {j:Nat} (hj:j < sz) {code:List aY} {inp:Int} (hins:∀ i c,code[i]? = some c→bK inp i c) {rg A0:List (List Int)} (hrg:c5 sz code.length rg) (hA0:c5 sz code.length A0) {D:Nat→List Int} (hD:∀ k,k < code.length→bD sz (D k)) {dirs:List (List Int)}
  (hop:∀ y c,code[y]? = some c→D y = qN sz dirs D (fun i=>rg.getD i []) y c) :
  ∀ m,m≤code.length→Cg (dA (fun i=>dO (fA (pM code rg A0 (code.length - m) m) i) (sF (D i)) j) m) (dA (a0A code (pM code rg A0 code.length 0) D j) m)
 |0,_=>Cg.refl _
 |y + 1,hy=>by
  have ih:=aE7 hsz hj hins hrg hA0 hD hop y (by omega)
  have ec:code[y]? = some code[y]:=List.getElem?_eq_getElem (by omega)
  have hA:=qM hsz hins hrg hA0 (code.length - (y + 1)) (y + 1) (by omega)
  have hk:=aHC hins rg A0 (y + 1) y hy (Nat.le_refl _)
  have hs:pM code rg A0 (code.length - y) y = l5 code[y] rg y (pM code rg A0 (code.length - (y + 1)) (y + 1)):=by
   rw [show code.length - y = (code.length - (y + 1)) + 1 by omega,pM,wM ec]
  rw [hs] at ih
  generalize pM code rg A0 (code.length - (y + 1)) (y + 1) = A at *
  have hst:=a5T hj (by omega) (hins y _ ec) hrg hA hD (hop y _ ec)
  rw [dA,dA]
  refine hst.trans (ih.add (Cg.of_eq ?_))
  rw [a0A,wM ec,hk]
theorem zI (f:Nat→Int) (j:Nat):dO (fun _=>0) f j = 0:=by
 have:=tV 0 j (fun _=>0) f
 simp only [Int.zero_mul] at this
 exact this
theorem aRT (n sz k:Nat):fA (List.replicate n (vR sz)) k = fun _=>0:=funext fun q=>by
 rw [fA,List.getD_eq_getElem?_getD,List.getElem?_replicate]
 split
 ·rw [sF,Option.getD_some,vR,List.getD_eq_getElem?_getD,List.getElem?_replicate];split <;> rfl
 ·rfl
theorem aE8 {F:Nat→Int} (h:∀ i,F i = 0):∀ m,dA F m = 0
 |0=>rfl
 |m + 1=>by rw [dA,aE8 h m,h m];rfl
theorem aRU {sz j:Nat} (hj:j < sz) {code:List aY} {inp:Nat} (hins:∀ i c,code[i]? = some c→bK inp i c) {L:List (List Int)} (hL:c5 sz code.length L) {D:Nat→List Int} {Z:List (List Int)} (hd:∀ k c,code[k]? = some c→c.fX = 1→D k = Z.getD c.aW.toNat []):∀ k,k≤code.length→Cg (dA (fun i=>dO (fA (byK code L sz inp k) i) (fA Z i) j) inp) (dA (a0A code L D j) k)
 |0,_=>Cg.of_eq (by rw [aE8 fun i=>by rw [byK,aRT,zI]];rfl)
 |k + 1,hk=>by
  have ih:=aRU hj hins hL hd k (by omega)
  have ec:code[k]? = some code[k]:=List.getElem?_eq_getElem (by omega)
  have hB:=zE hins hL k (by omega)
  have hc:=hins k _ ec
  have hd:=hd k _ ec
  rw [dA,a0A,byK,wM ec]
  generalize code[k] = c at *
  by_cases h1:c.fX = 1
  ·rw [if_pos h1,if_pos h1,hd h1]
   have hn:0≤c.aW∧c.aW < inp:=by unfold bK at hc;omega
   have h2:=aJH hB (hL.get (i:=k) (by omega)).2 (d:=fun i=>fA Z i) (r:=c.aW) (m:=inp) hj (by omega) (Nat.le_refl _)
   exact h2.trans (ih.add (Cg.refl _))
  ·rw [if_neg h1,if_neg h1]
   exact ih.trans (Cg.of_eq (by omega))
theorem aMI {sz j n:Nat} (hj:j < sz) {outs ws:List Int} (ho:∀ r∈outs,0≤r∧r < n) (hwn:hH ws) {d:Nat→Nat→Int}:∀ k,k≤outs.length→Cg (dA (fun i=>dO (fA (qL outs ws (List.replicate n (vR sz)) k) i) (d i) j) n) (dA (fun k=>ws.getD k 0 * d (outs.getD k 0).toNat j) k)
 |0,_=>Cg.of_eq (by rw [aE8 fun i=>by rw [qL,aRT,zI]];rfl)
 |k + 1,hk=>by
  have ih:=aMI hj ho hwn (d:=d) k (by omega)
  have hr:=ho (outs.getD k 0) (by rw [List.getD_eq_getElem?_getD,List.getElem?_eq_getElem (by omega)];exact List.getElem_mem _)
  have hs:=vS (sz:=sz) (by omega) ho hwn k (by omega)
  rw [qL,dA]
  generalize qL outs ws (List.replicate n (vR sz)) k = A at *
  generalize outs.getD k 0 = r at *
  have hq:=hs.get (i:=r.toNat) (by omega)
  have h1:∀ q,¬ q = r.toNat→fA (A.set r.toNat ((A.getD r.toNat []).set 0 (((A.getD r.toNat []).getD 0 0 + ws.getD k 0) % 1000003))) q = fA A q:=fun q hq=>by
   rw [fA,fA,List.getD_eq_getElem?_getD (l:=List.set A _ _),List.getElem?_set_ne (Ne.symm hq),← List.getD_eq_getElem?_getD]
  have h2:∀ q,q≤j→Cg (fA (A.set r.toNat ((A.getD r.toNat []).set 0 (((A.getD r.toNat []).getD 0 0 + ws.getD k 0) % 1000003))) r.toNat q) (fA A r.toNat q + ws.getD k 0 * (if q = 0 then 1 else 0)):=fun q hqj=>by
   rw [fA,List.getD_eq_getElem?_getD (l:=List.set A _ _),List.getElem?_set_self (by rw [hs.1];omega),Option.getD_some,sF,List.getD_eq_getElem?_getD (l:=List.set _ 0 _)]
   by_cases e:q = 0
   ·subst e
    rw [List.getElem?_set_self (by rw [hq.2.1];omega),if_pos rfl,Int.mul_one]
    exact Cg.mod _
   ·rw [List.getElem?_set_ne (Ne.symm e),if_neg e,← List.getD_eq_getElem?_getD]
    exact Cg.of_eq (by rw [fA,sF];omega)
  refine (aJG h1 h2 n (by omega)).trans (ih.add (Cg.of_eq ?_))
  rw [tV (ws.getD k 0) j (fun q=>if q = 0 then 1 else 0),gZ,aCS]
def aOZ (sz:Nat) (row Z:List (List Int)):Nat→List Int
 |0=>vR sz
 |k + 1=>j8 (aOZ sz row Z k) (mulL (row.getD k []) (Z.getD k []))
theorem zJ {sz n:Nat} {row Z:List (List Int)} (hr:c5 sz n row):∀ k,k≤n→bD sz (aOZ sz row Z k)
 |0,_=>aAX sz
 |k + 1,h=>m4 (zJ hr k (by omega)) (cE _ (hr.get (i:=k) (by omega)).2)
theorem aE9 {sz n j:Nat} (hj:j < sz) {row Z:List (List Int)} (hr:c5 sz n row):∀ k,k≤n→Cg (sF (aOZ sz row Z k) j) (dA (fun i=>dO (fA row i) (fA Z i) j) k)
 |0,_=>Cg.of_eq (by rw [aOZ,sF,vR,List.getD_eq_getElem?_getD,List.getElem?_replicate,if_pos hj];rfl)
 |k + 1,h=>(aE1 (zJ hr k (by omega)) (cE _ (hr.get (i:=k) (by omega)).2) hj).trans ((aE9 hj hr k (by omega)).add (tW _ (hr.get (i:=k) (by omega)).2 hj))
theorem aMJ {n o:Nat} (ho:o < n) (d:Nat→Int):∀ m,m≤n→dA (fun k=>(vO n o).getD k 0 * d k) m = if o < m then d o else 0
 |0,_=>rfl
 |m + 1,h=>by
  rw [dA,aMJ ho d m (by omega)]
  by_cases e:o = m
  ·subst e
   rw [if_neg (Nat.lt_irrefl _),if_pos (Nat.lt_succ_self _),vO,List.getD_eq_getElem?_getD,List.getElem?_set_self (by rw [List.length_replicate];exact ho)];simp
  ·rw [aTC e]
   by_cases h2:o < m
   ·rw [if_pos h2,if_pos (by omega)];omega
   ·rw [if_neg h2,if_neg (by omega)];omega
theorem aJI {sz:Nat} {a b:List Int} (ha:bD sz a) (hb:bD sz b) (h:∀ j,j < sz→Cg (sF a j) (sF b j)):a = b:=by
 apply List.ext_getElem
 ·rw [ha.1,hb.1]
 ·intro i h1 h2
  have:=(h i (by rw [← ha.1];exact h1)).num (ha.2.get i) (hb.2.get i)
  rw [sF,sF,List.getD_eq_getElem?_getD,List.getElem?_eq_getElem h1,List.getD_eq_getElem?_getD,List.getElem?_eq_getElem h2] at this
  exact this
theorem a0B {sz:Nat} (hsz:1≤sz∧sz≤1048576) {code:List aY} {inp:Nat} (hins:∀ i c,code[i]? = some c→bK inp i c) {outs:List Int} (ho:∀ r∈outs,0≤r∧r < code.length) {rg:List (List Int)} (hrg:c5 sz code.length rg) {Z:List (List Int)} (hZ:c5 sz inp Z) {o:Nat} (hol:o < outs.length) :
  aOZ sz (byK code (pM code rg (qL outs (vO outs.length o) (List.replicate code.length (vR sz)) outs.length) code.length 0) sz inp code.length) Z inp = z3 sz Z (fun i=>rg.getD i []) code (outs.getD o 0).toNat:=by
 have hwn:=tR outs.length o
 have hA0:=vS (sz:=sz) hsz.1 ho hwn outs.length (Nat.le_refl _)
 have hD:∀ k,k < code.length→bD sz (z3 sz Z (fun i=>rg.getD i []) code k):=fun k hk=>aJF hsz.1 hins hZ.2 (by rw [hZ.1]) (fun k hk=>(hrg.get hk).2) (k + 1) k (by omega) hk
 have hr0:=ho (outs.getD o 0) (by rw [List.getD_eq_getElem?_getD,List.getElem?_eq_getElem hol];exact List.getElem_mem _)
 have hA:=qM hsz hins hrg hA0 code.length 0 rfl
 have hB:=zE hins hA code.length (Nat.le_refl _)
 refine aJI (zJ hB inp (Nat.le_refl _)) (hD _ (by omega)) fun j hj=>?_
 have hps:=aMI hj ho hwn (d:=fun i=>sF (z3 sz Z (fun i=>rg.getD i []) code i)) outs.length (Nat.le_refl _)
 have h1:=aE7 hsz hj hins hrg hA0 hD (fun y c ec=>aE6 ec (hins y c ec)) code.length (Nat.le_refl _)
 rw [Nat.sub_self,pM] at h1
 generalize qL outs (vO outs.length o) (List.replicate code.length (vR sz)) outs.length = A0 at *
 generalize pM code rg A0 code.length 0 = A at *
 have h2:=aRU hj hins hA (D:=z3 sz Z (fun i=>rg.getD i []) code) (Z:=Z) (fun k c ec h1=>by rw [aE6 ec (hins k c ec),qN,if_pos h1]) code.length (Nat.le_refl _)
 rw [aMJ hol (fun k=>sF (z3 sz Z (fun i=>rg.getD i []) code (outs.getD k 0).toNat) j) _ (Nat.le_refl _),if_pos hol] at hps
 exact (aE9 hj hB inp (Nat.le_refl _)).trans (h2.trans (h1.symm.trans hps))
structure Ops (α:Type) where
 z:α→Bool
 dv:α→α→α
 tk:α→α→α→α
def oK {α:Type} (z:α→Bool) (M:Nat→Nat→α) (c n:Nat):Nat→Nat
 |0=>n
 |j + 1=>if z (M (n - (j + 1)) c) = true then oK z M c n j else n - (j + 1)
def lE {α:Type} (M:Nat→Nat→α) (c r:Nat):Nat→Nat→α:=fun i k=>M (if i = c then r else if i = r then c else i) k
def uU {α:Type} (F:Ops α) (M:Nat→Nat→α) (c:Nat):Nat→Nat→α:=fun i k=>if i = c then F.dv (M c k) (M c c) else F.tk (M i k) (M i c) (F.dv (M c k) (M c c))
def pD {α:Type} (F:Ops α) (n:Nat) (M:Nat→Nat→α):Nat→Option (Nat→Nat→α)
 |0=>some M
 |c + 1=>match pD F n M c with
  |none=>none
  |some A=>if oK F.z A c n (n - c) = n then none else some (uU F (lE A c (oK F.z A c n (n - c))) c)
theorem aJJ {α:Type} (z:α→Bool) (M:Nat→Nat→α) (c n:Nat):∀ j,j≤n→n - j≤oK z M c n j∧oK z M c n j≤n
 |0,_=>⟨by rw [oK];omega,by rw [oK];omega⟩
 |j + 1,h=>by
  have:=aJJ z M c n j (by omega)
  rw [oK]
  split <;> omega
theorem aJK {α:Type} (z:α→Bool) (M:Nat→Nat→α) (c n:Nat):∀ j,j≤n→¬ oK z M c n j = n→z (M (oK z M c n j) c) = false
 |0,_,h=>by rw [oK] at h;omega
 |j + 1,h,q=>by
  rw [oK] at q ⊢
  by_cases e:z (M (n - (j + 1)) c) = true
  ·rw [if_pos e] at q ⊢;exact aJK z M c n j (by omega) q
  ·rw [if_neg e] at q ⊢;simpa using e
def nD (sz:Nat) (f g:Nat→Int):Prop:=∀ j,j < sz→Cg (f j) (g j)
theorem nD.refl {sz:Nat} (f:Nat→Int):nD sz f f:=fun j _=>Cg.refl _
theorem nD.symm {sz:Nat} {f g:Nat→Int} (h:nD sz f g):nD sz g f:=fun j hj=>(h j hj).symm
theorem nD.trans {sz:Nat} {f g h:Nat→Int} (a:nD sz f g) (b:nD sz g h):nD sz f h:=fun j hj=>(a j hj).trans (b j hj)
theorem nD.conv {sz:Nat} {f f' g g':Nat→Int} (a:nD sz f f') (b:nD sz g g'):nD sz (dO f g) (dO f' g'):=fun j hj=>lI j _ _ _ _ (fun i hi=>a i (by omega)) fun i hi=>b i (by omega)
theorem nD.sub {sz:Nat} {f f' g g':Nat→Int} (a:nD sz f f') (b:nD sz g g'):nD sz (fun i=>f i + -(g i)) (fun i=>f' i + -(g' i)):=fun j hj=>(a j hj).add (aAY (b j hj))
theorem nD.sum {sz:Nat} {F G:Nat→Nat→Int} {n:Nat} (h:∀ k,k < n→nD sz (F k) (G k)):nD sz (fun j=>dA (fun k=>F k j) n) (fun j=>dA (fun k=>G k j) n):=fun j hj=>aJD n fun k hk=>h k hk j hj
def aGG:Nat→Int:=fun i=>if i = 0 then 1 else 0
theorem aFA (f:Nat→Int):dO f aGG = f:=funext fun k=>aCS k f
theorem aFB (G:Nat→Nat→Int) (u:Nat→Int) (j:Nat):∀ n,dO (fun i=>dA (fun k=>G k i) n) u j = dA (fun k=>dO (G k) u j) n
 |0=>zI u j
 |n + 1=>by
  show dO (fun i=>dA (fun k=>G k i) n + G n i) u j = _
  rw [tU j (fun i=>dA (fun k=>G k i) n) (G n),aFB G u j n];rfl
theorem aRV (f u y:Nat→Int):dO (dO f u) y = dO (dO f y) u:=by rw [xU,gZ u y,← xU]
theorem aMK (F G:Nat→Int):∀ n,dA (fun k=>F k + -(G k)) n = dA F n + -(dA G n)
 |0=>rfl
 |n + 1=>by rw [dA,dA,dA,aMK F G n];omega
structure aO1 {α:Type} (F:Ops α) (sz:Nat) (ok:α→Prop) (den:α→Nat→Int):Prop where
 okd:∀ x d,ok x→ok d→F.z d = false→ok (F.dv x d)
 okt:∀ x f y,ok x→ok f→ok y→ok (F.tk x f y)
 dv:∀ d,ok d→F.z d = false→∃ iv:Nat→Int,(∀ x,ok x→nD sz (den (F.dv x d)) (dO (den x) iv))∧nD sz (dO (den d) iv) aGG
 tk:∀ x f y,ok x→ok f→ok y→nD sz (den (F.tk x f y)) (fun i=>den x i + -(dO (den f) (den y) i))
def rvF {α:Type} (den:α→Nat→Int) (M:Nat→Nat→α) (n:Nat) (y:Nat→Nat→Int) (i:Nat):Nat→Int:=fun j=>dA (fun k=>dO (den (M i k)) (y k) j) n
def aML {α:Type} (den:α→Nat→Int) (sz:Nat) (M:Nat→Nat→α) (n:Nat) (y:Nat→Nat→Int):Prop:=∀ i,i < n→nD sz (rvF den M n y i) (den (M i n))
def okM {α:Type} (ok:α→Prop) (n:Nat) (M:Nat→Nat→α):Prop:=∀ i,i < n→∀ k,k≤n→ok (M i k)
theorem a0C {α:Type} {den:α→Nat→Int} {sz n c r:Nat} (hc:c < n) (hr:r < n) (M:Nat→Nat→α) (y:Nat→Nat→Int):aML den sz M n y ↔ aML den sz (lE M c r) n y:=by
 constructor
 ·intro h i hi
  exact h (if i = c then r else if i = r then c else i) (by split;exact hr;split;exact hc;exact hi)
 ·intro h i hi
  by_cases e1:i = c
  ·have h2:=h r hr
   by_cases e2:r = c
   ·have h3:=h c hc
    have e3:∀ k,lE M c r c k = M c k:=fun k=>by rw [lE,if_pos rfl,e2]
    unfold rvF at h3 ⊢
    simp only [e3] at h3
    rw [e1];exact h3
   ·have e3:∀ k,lE M c r r k = M c k:=fun k=>by rw [lE,if_neg e2,if_pos rfl]
    unfold rvF at h2 ⊢
    simp only [e3] at h2
    rw [e1];exact h2
  ·by_cases e2:i = r
   ·have h2:=h c hc
    have e3:∀ k,lE M c r c k = M r k:=fun k=>by rw [lE,if_pos rfl]
    unfold rvF at h2 ⊢
    simp only [e3] at h2
    rw [e2];exact h2
   ·have h2:=h i hi
    have e3:∀ k,lE M c r i k = M i k:=fun k=>by rw [lE,if_neg e1,if_neg e2]
    unfold rvF at h2 ⊢
    simp only [e3] at h2
    exact h2
theorem aO2 {α:Type} {ok:α→Prop} {n c r:Nat} (hc:c < n) (hr:r < n) {M:Nat→Nat→α} (h:okM ok n M):okM ok n (lE M c r):=fun i hi k hk =>
 h (if i = c then r else if i = r then c else i) (by split;exact hr;split;exact hc;exact hi) k hk
theorem aO3 {α:Type} {F:Ops α} {sz:Nat} {ok:α→Prop} {den:α→Nat→Int} (D:aO1 F sz ok den) {n c:Nat} (hc:c < n) {M:Nat→Nat→α} (h:okM ok n M) (hz:F.z (M c c) = false):okM ok n (uU F M c):=fun i hi k hk=>by
 have hd:=D.okd _ _ (h c hc k hk) (h c hc c (by omega)) hz
 unfold uU
 split
 ·exact hd
 ·exact D.okt _ _ _ (h i hi k hk) (h i hi c (by omega)) hd
theorem a0D {α:Type} {F:Ops α} {sz:Nat} {ok:α→Prop} {den:α→Nat→Int} (D:aO1 F sz ok den) {n c:Nat} (hc:c < n) {M:Nat→Nat→α} (h:okM ok n M) (hz:F.z (M c c) = false) (y:Nat→Nat→Int):aML den sz M n y ↔ aML den sz (uU F M c) n y:=by
 obtain ⟨iv,h1,h2⟩:=D.dv _ (h c hc c (by omega)) hz
 have hdk:∀ k,k≤n→ok (F.dv (M c k) (M c c)):=fun k hk=>D.okd _ _ (h c hc k hk) (h c hc c (by omega)) hz
 have ec:∀ k,uU F M c c k = F.dv (M c k) (M c c):=fun k=>by rw [uU,if_pos rfl]
 have ei:∀ i,¬ i = c→∀ k,uU F M c i k = F.tk (M i k) (M i c) (F.dv (M c k) (M c c)):=fun i hi k=>by rw [uU,if_neg hi]

 have hrc:nD sz (rvF den (uU F M c) n y c) (dO (rvF den M n y c) iv):=by
  refine nD.trans (g:=fun j=>dA (fun k=>dO (dO (den (M c k)) (y k)) iv j) n) ?_ ?_
  ·refine nD.sum (F:=fun k=>dO (den (uU F M c c k)) (y k)) (G:=fun k=>dO (dO (den (M c k)) (y k)) iv) fun k hk=>?_
   rw [ec,← aRV]
   exact (h1 _ (h c hc k (by omega))).conv (nD.refl _)
  ·intro j hj
   exact Cg.of_eq (aFB (fun k=>dO (den (M c k)) (y k)) iv j n).symm
 have hrb:nD sz (den (uU F M c c n)) (dO (den (M c n)) iv):=by rw [ec];exact h1 _ (h c hc n (Nat.le_refl _))
 have hback:∀ f:Nat→Int,nD sz (dO (dO f iv) (den (M c c))) f:=fun f=>by
  have h3:nD sz (dO f (dO (den (M c c)) iv)) f:=by
   have:=(nD.refl (sz:=sz) f).conv h2
   rwa [aFA] at this
  rw [xU,gZ iv]
  exact h3
 have hci:nD sz (rvF den M n y c) (den (M c n)) ↔ nD sz (rvF den (uU F M c) n y c) (den (uU F M c c n)):=by
  constructor
  ·intro q
   exact hrc.trans ((q.conv (nD.refl _)).trans hrb.symm)
  ·intro q
   have q2:=(hrc.symm.trans (q.trans hrb)).conv (nD.refl (den (M c c)))
   exact (hback _).symm.trans (q2.trans (hback _))

 have hri:∀ i,i < n→¬ i = c→nD sz (rvF den (uU F M c) n y i) (fun j=>rvF den M n y i j + -(dO (den (M i c)) (rvF den (uU F M c) n y c) j)):=fun i hi hic=>by
  refine nD.trans (g:=fun j=>dA (fun k=>dO (fun q=>den (M i k) q + -(dO (den (M i c)) (den (uU F M c c k)) q)) (y k) j) n) ?_ ?_
  ·refine nD.sum (F:=fun k=>dO (den (uU F M c i k)) (y k)) (G:=fun k=>dO (fun q=>den (M i k) q + -(dO (den (M i c)) (den (uU F M c c k)) q)) (y k)) fun k hk=>?_
   rw [ei i hic,ec]
   exact (D.tk _ _ _ (h i hi k (by omega)) (h i hi c (by omega)) (hdk k (by omega))).conv (nD.refl _)
  ·intro j hj
   refine Cg.of_eq ?_
   have e1:∀ k,dO (fun q=>den (M i k) q + -(dO (den (M i c)) (den (uU F M c c k)) q)) (y k) j = dO (den (M i k)) (y k) j + -(dO (dO (den (uU F M c c k)) (y k)) (den (M i c)) j):=fun k=>by
    rw [tU j (den (M i k)) (fun q=>-(dO (den (M i c)) (den (uU F M c c k)) q)),wN j (dO (den (M i c)) (den (uU F M c c k))),gZ (den (M i c)),aRV]
   simp only [e1]
   rw [aMK,← aFB (fun k=>dO (den (uU F M c c k)) (y k)) (den (M i c)) j n,gZ (den (M i c))]
   rfl
 have hrd:∀ i,i < n→¬ i = c→nD sz (den (uU F M c i n)) (fun j=>den (M i n) j + -(dO (den (M i c)) (den (uU F M c c n)) j)):=fun i hi hic=>by
  rw [ei i hic,ec]
  exact D.tk _ _ _ (h i hi n (Nat.le_refl _)) (h i hi c (by omega)) (hdk n (Nat.le_refl _))
 constructor
 ·intro q i hi
  by_cases e:i = c
  ·subst e;exact hci.1 (q i hi)
  ·exact (hri i hi e).trans (((q i hi).sub ((nD.refl _).conv (hci.1 (q c hc)))).trans (hrd i hi e).symm)
 ·intro q i hi
  by_cases e:i = c
  ·subst e;exact hci.2 (q i hi)
  ·have h3:=(hri i hi e).symm.trans ((q i hi).trans (hrd i hi e))
   intro j hj
   have h4:=h3 j hj
   have h5:=(nD.refl (sz:=sz) (den (M i c))).conv (q c hc) j hj
   obtain ⟨a,ha⟩:=h4
   obtain ⟨b,hb⟩:=h5
   dsimp only at ha hb
   exact ⟨a + b,by omega⟩
def aMM {α:Type} (den:α→Nat→Int) (sz:Nat) (M:Nat→Nat→α) (n c:Nat):Prop:=∀ i,i < n→∀ k,k < c→nD sz (den (M i k)) (fun j=>if i = k then aGG j else 0)
theorem aFC (f:Nat→Int):dO (fun _=>0) f = fun _=>0:=funext fun j=>zI f j
theorem aW1 {α:Type} {den:α→Nat→Int} {sz n c r:Nat} (hc:c < n) (hr:r < n) (hcr:c≤r) {M:Nat→Nat→α} (h:aMM den sz M n c):aMM den sz (lE M c r) n c:=fun i hi k hk=>by
 unfold lE
 by_cases e1:i = c
 ·rw [if_pos e1]
  have:=h r hr k hk
  simp only [if_neg (show ¬ r = k by omega)] at this
  simp only [if_neg (show ¬ i = k by omega)]
  exact this
 ·rw [if_neg e1]
  by_cases e2:i = r
  ·rw [if_pos e2]
   have:=h c hc k hk
   simp only [if_neg (show ¬ c = k by omega)] at this
   simp only [if_neg (show ¬ i = k by omega)]
   exact this
  ·rw [if_neg e2];exact h i hi k hk
theorem aW2 {α:Type} {F:Ops α} {sz:Nat} {ok:α→Prop} {den:α→Nat→Int} (D:aO1 F sz ok den) {n c:Nat} (hc:c < n) {M:Nat→Nat→α} (h:okM ok n M) (hz:F.z (M c c) = false) (hu:aMM den sz M n c):aMM den sz (uU F M c) n (c + 1):=fun i hi k hk=>by
 obtain ⟨iv,h1,h2⟩:=D.dv _ (h c hc c (by omega)) hz
 have hdk:ok (F.dv (M c k) (M c c)):=D.okd _ _ (h c hc k (by omega)) (h c hc c (by omega)) hz
 have hrow:nD sz (den (F.dv (M c k) (M c c))) (fun j=>if c = k then aGG j else 0):=by
  refine (h1 _ (h c hc k (by omega))).trans ?_
  by_cases e:c = k
  ·subst e
   simp only [if_true]
   exact h2
  ·simp only [if_neg e]
   have h3:=hu c hc k (by omega)
   simp only [if_neg e] at h3
   have:=h3.conv (nD.refl (sz:=sz) iv)
   rwa [aFC] at this
 unfold uU
 by_cases e1:i = c
 ·rw [if_pos e1,e1];exact hrow
 ·rw [if_neg e1]
  refine (D.tk _ _ _ (h i hi k (by omega)) (h i hi c (by omega)) hdk).trans ?_
  have h3:=(nD.refl (sz:=sz) (den (M i c))).conv hrow
  by_cases e:c = k
  ·subst e
   simp only [if_true,if_neg e1] at h3 ⊢
   have h4:nD sz (dO (den (M i c)) fun j=>aGG j) (den (M i c)):=by
    have:dO (den (M i c)) (fun j=>aGG j) = den (M i c):=aFA _
    rw [this];exact nD.refl _
   intro j hj
   obtain ⟨a,ha⟩:=h3.trans h4 j hj
   exact ⟨-a,by dsimp only;omega⟩
  ·simp only [if_neg e] at h3
   have h4:nD sz (dO (den (M i c)) fun _=>0) (fun _=>0):=by rw [gZ,aFC];exact nD.refl _
   have h5:=hu i hi k (by omega)
   intro j hj
   obtain ⟨a,ha⟩:=h3.trans h4 j hj
   obtain ⟨b,hb⟩:=h5 j hj
   simp only [if_neg e] at hb
   exact ⟨b - a,by dsimp only at ha ⊢;omega⟩
theorem zK {α:Type} {F:Ops α} {sz:Nat} {ok:α→Prop} {den:α→Nat→Int} (D:aO1 F sz ok den) {n:Nat} {M:Nat→Nat→α} (h:okM ok n M):∀ c,c≤n→∀ A,pD F n M c = some A→okM ok n A∧(∀ y,aML den sz M n y ↔ aML den sz A n y)∧aMM den sz A n c
 |0,_,A,e=>by
  rw [pD] at e
  cases e
  exact ⟨h,fun _=>Iff.rfl,fun i _ k hk=>by omega⟩
 |c + 1,hc,A,e=>by
  rw [pD] at e
  cases hB:pD F n M c with
  |none=>rw [hB] at e;cases e
  |some B =>
   rw [hB] at e
   simp only at e
   obtain ⟨i1,i2,i3⟩:=zK D h c (by omega) B hB
   split at e
   ·cases e
   ·rename_i hne
    cases e
    have hge:=aJJ F.z B c n (n - c) (by omega)
    have hnz:=aJK F.z B c n (n - c) (by omega) hne
    generalize oK F.z B c n (n - c) = r at *
    have hr:r < n:=by omega
    have hz:F.z (lE B c r c c) = false:=by rw [lE,if_pos rfl];exact hnz
    have h1:=aO2 (ok:=ok) (by omega:c < n) hr i1
    exact ⟨aO3 D (by omega) h1 hz,fun y=>((i2 y).trans (a0C (by omega) hr B y)).trans (a0D D (by omega) h1 hz y),aW2 D (by omega) h1 hz (aW1 (by omega) hr (by omega) i3)⟩
theorem aHD (G:Nat→Int) {i:Nat}:∀ n,dA (fun k=>if i = k then G k else 0) n = if i < n then G i else 0
 |0=>rfl
 |n + 1=>by
  rw [dA,aHD G n]
  by_cases e:i = n
  ·subst e
   rw [if_neg (Nat.lt_irrefl _),if_pos rfl,if_pos (Nat.lt_succ_self _)];omega
  ·rw [if_neg e]
   by_cases h:i < n
   ·rw [if_pos h,if_pos (by omega)];omega
   ·rw [if_neg h,if_neg (by omega)];rfl
theorem aRX {α:Type} {F:Ops α} {sz:Nat} {ok:α→Prop} {den:α→Nat→Int} (D:aO1 F sz ok den) {n:Nat} {M A:Nat→Nat→α} (h:okM ok n M) (e:pD F n M n = some A) (y:Nat→Nat→Int):aML den sz M n y ↔ ∀ i,i < n→nD sz (y i) (den (A i n)):=by
 obtain ⟨_,h2,h3⟩:=zK D h n (Nat.le_refl _) A e
 rw [h2 y]
 have hrv:∀ i,i < n→nD sz (rvF den A n y i) (y i):=fun i hi=>by
  refine nD.trans (g:=fun j=>dA (fun k=>if i = k then y k j else 0) n) ?_ ?_
  ·refine nD.sum (F:=fun k=>dO (den (A i k)) (y k)) (G:=fun k j=>if i = k then y k j else 0) fun k hk=>?_
   refine ((h3 i hi k hk).conv (nD.refl _)).trans ?_
   by_cases e:i = k
   ·simp only [if_pos e]
    have:dO (fun j=>aGG j) (y k) = y k:=by rw [gZ];exact aFA _
    rw [this];exact nD.refl _
   ·simp only [if_neg e]
    rw [aFC];exact nD.refl _
  ·intro j hj
   show Cg (dA (fun k=>if i = k then y k j else 0) n) (y i j)
   rw [aHD (fun k=>y k j),if_pos hi];exact Cg.refl _
 constructor
 ·intro q i hi;exact (hrv i hi).symm.trans (q i hi)
 ·intro q i hi;exact (hrv i hi).trans (q i hi)
theorem zM {α β:Type} {F:Ops α} {G:Ops β} {R:α→β→Prop} (hz:∀ x y,R x y→F.z x = G.z y) (hd:∀ x y d e,R x y→R d e→F.z d = false→R (F.dv x d) (G.dv y e)) (ht:∀ x y f g u v,R x y→R f g→R u v→R (F.tk x f u) (G.tk y g v))
  {n w:Nat} (hw:n≤w) {M:Nat→Nat→α} {N:Nat→Nat→β} (h:∀ i,i < n→∀ k,k < w→R (M i k) (N i k)):∀ c,c≤n→(pD F n M c = none∧pD G n N c = none)∨∃ A B,pD F n M c = some A∧pD G n N c = some B∧∀ i,i < n→∀ k,k < w→R (A i k) (B i k)
 |0,_=>.inr ⟨M,N,rfl,rfl,h⟩
 |c + 1,hc=>by
  rcases zM hz hd ht hw h c (by omega) with ⟨h1,h2⟩ | ⟨A,B,h1,h2,h3⟩
  ·left
   rw [pD,pD,h1,h2];exact ⟨rfl,rfl⟩
  have hp:∀ j,j≤n - c→oK F.z A c n j = oK G.z B c n j:=fun j=>by
   induction j with
   |zero=>intro _;rfl
   |succ j ih =>
    intro hj
    rw [oK,oK,ih (by omega),hz _ _ (h3 (n - (j + 1)) (by omega) c (by omega))]
  have hge:=aJJ F.z A c n (n - c) (by omega)
  have hnz:=aJK F.z A c n (n - c) (by omega)
  have hp':=hp (n - c) (Nat.le_refl _)
  rw [pD,pD,h1,h2]
  simp only [← hp']
  generalize oK F.z A c n (n - c) = r at *
  by_cases e:r = n
  ·left;rw [if_pos e,if_pos e];exact ⟨rfl,rfl⟩
  ·right
   rw [if_neg e,if_neg e]
   refine ⟨_,_,rfl,rfl,fun i hi k hk=>?_⟩
   have hs:∀ i,i < n→∀ k,k < w→R (lE A c r i k) (lE B c r i k):=fun i hi k hk=>h3 (if i = c then r else if i = r then c else i) (by split;omega;split;omega;exact hi) k hk
   have hdd:=hd _ _ _ _ (hs c (by omega) k hk) (hs c (by omega) c (by omega)) (by rw [lE,if_pos rfl];exact hnz e)
   unfold uU
   split
   ·exact hdd
   ·exact ht _ _ _ _ _ _ (hs i hi k hk) (hs i hi c (by omega)) hdd
def dW:Ops Int:=⟨fun x=>decide (x = 0),fun x d=>x * gG d % 1000003,fun x f y=>(x - f * y % 1000003) % 1000003⟩
def rR:Ops (List Int):=⟨fun s=>decide (s.getD 0 0 = 0),gH,fun x f y=>jQ x (mulL f y)⟩
def a5U (n:Int):Nat→Int:=fun i=>if i = 0 then n else 0
theorem aJM:aO1 dW 1 fP a5U where
 okd _ _ _ _ _:=c7 _
 okt _ _ _ _ _ _:=c7 _
 dv d hd hz:=⟨a5U (gG d),fun x _ j hj=>by
  obtain rfl:j = 0:=by omega
  exact Cg.mod _,fun j hj=>by
  obtain rfl:j = 0:=by omega
  exact inv_mul hd (of_decide_eq_false hz)⟩
 tk x f y _ _ _:=fun j hj=>by
  obtain rfl:j = 0:=by omega
  refine (Cg.mod _).trans ?_
  obtain ⟨q,hq⟩:=Cg.mod (f * y)
  exact ⟨-q,by show x - f * y % 1000003 = x + -(f * y) + 1000003 * -q;omega⟩
theorem a5V {sz:Nat} {d:List Int} (hd:bD sz d) (h0:¬ d.getD 0 0 = 0):nD sz (dO (sF d) (sF (ivL d sz))) aGG:=fun k hk=>by
 have hc:bD sz (bJ 1 sz):=gN (by unfold fP;omega)
 have h1:=aE4 d hc hk
 rw [aE3 _ _ hk] at h1
 have h2:=inv_mul (hd.2.get 0) h0
 rw [gZ,pN,dA,Nat.sub_self]
 have e:gH (bJ 1 sz) d = ivL d sz:=rfl
 rw [e] at h1
 generalize dA (fun i=>sF (ivL d sz) i * sF d (k - i)) k = S at *
 have h3:=h1.mul (Cg.refl (sF d 0))
 have e2:sF d 0 = d.getD 0 0:=rfl
 rw [e2] at h3 ⊢
 have h4:Cg (((if k = 0 then 1 else 0) - S) * gG (d.getD 0 0) * d.getD 0 0) ((if k = 0 then 1 else 0) - S):=by
  have:=(Cg.refl ((if k = 0 then 1 else 0) - S)).mul h2
  rw [Int.mul_one] at this
  refine Cg.trans (Cg.of_eq ?_) this
  rw [Int.mul_assoc,Int.mul_comm (gG _)]
 have h5:=(Cg.refl S).add (h3.trans h4)
 refine h5.trans (Cg.of_eq ?_)
 show _ = aGG k
 unfold aGG
 omega
theorem aCV (sz:Nat):aO1 rR sz (bD sz) sF where
 okd x d hx _ _:=lC d hx
 okt x f y hx hf _:=lB hx (cE _ hf)
 dv d hd hz:=⟨sF (ivL d sz),fun x hx j hj=>aE5 hx (j + 1) j (by omega) hj,a5V hd (of_decide_eq_false hz)⟩
 tk x f y hx hf hy:=fun j hj=>(aJE hx (cE _ hf) hj).trans ((Cg.refl _).add (aAY (tW _ hf hj)))
def hdR (sz:Nat) (s:List Int) (x:Int):Prop:=bD sz s∧s.getD 0 0 = x
theorem a0E {sz:Nat} (hsz:1≤sz) {a:List Int} (b:List Int) (ha:bD sz a):(gH a b).getD 0 0 = a.getD 0 0 * gG (b.getD 0 0) % 1000003:=by
 have hl:0 < a.length:=by rw [ha.1];exact hsz
 rw [List.getD_eq_getElem?_getD,List.getElem?_eq_getElem (by rw [oW];exact hl)]
 have:=y5 (a:=a) (b:=b) hl
 rw [Option.getD_some,this,dvS]
theorem a0F {sz:Nat} (hsz:1≤sz) {x f y:List Int} (hx:bD sz x) (hf:bD sz f):(jQ x (mulL f y)).getD 0 0 = (x.getD 0 0 - f.getD 0 0 * y.getD 0 0 % 1000003) % 1000003:=by
 have h1:=(aJE hx (cE y hf) (k:=0) hsz).trans ((Cg.refl _).add (aAY (tW y hf (k:=0) hsz)))
 have h2:Cg ((x.getD 0 0 - f.getD 0 0 * y.getD 0 0 % 1000003) % 1000003) (sF x 0 + -(dO (sF f) (sF y) 0)):=by
  refine (Cg.mod _).trans ?_
  obtain ⟨q,hq⟩:=Cg.mod (f.getD 0 0 * y.getD 0 0)
  exact ⟨-q,by show x.getD 0 0 - f.getD 0 0 * y.getD 0 0 % 1000003 = x.getD 0 0 + -(f.getD 0 0 * y.getD 0 0) + 1000003 * -q;omega⟩
 exact (h1.trans h2.symm).num ((lB hx (cE y hf)).2.get 0) (c7 _)
theorem aMN {sz n w:Nat} (hsz:1≤sz) (hw:n≤w) {M:Nat→Nat→List Int} (h:∀ i,i < n→∀ k,k < w→bD sz (M i k)) {N:Nat→Nat→Int} (hN:∀ i,i < n→∀ k,k < n→(M i k).getD 0 0 = N i k):pD rR n M n = none ↔ pD dW n N n = none:=by
 have h1:=zM (F:=rR) (G:=dW) (R:=hdR sz) (fun x y q=>by show decide (x.getD 0 0 = 0) = decide (y = 0);rw [q.2]) (fun x y d e q1 q2 _=>⟨lC d q1.1,by rw [show rR.dv x d = gH x d from rfl,a0E hsz d q1.1,q1.2,q2.2];rfl⟩)
  (fun x y f g u v q1 q2 q3=>⟨lB q1.1 (cE _ q2.1),by rw [show rR.tk x f u = jQ x (mulL f u) from rfl,a0F hsz q1.1 q2.1,q1.2,q2.2,q3.2];rfl⟩) (n:=n) (w:=n) (Nat.le_refl _) (M:=M) (N:=N) (fun i hi k hk=>⟨h i hi k (by omega),hN i hi k hk⟩) n (Nat.le_refl _)
 rcases h1 with ⟨a,b⟩ | ⟨A,B,a,b,_⟩
 ·rw [a,b];exact ⟨fun _=>rfl,fun _=>rfl⟩
 ·rw [a,b];exact ⟨fun q=>(by cases q),fun q=>(by cases q)⟩
def dtF (n:Nat) (M:Nat→Nat→Int):Nat→Option ((Nat→Nat→Int) × Int)
 |0=>some (M,1)
 |c + 1=>match dtF n M c with
  |none=>none
  |some (A,d)=>if oK dW.z A c n (n - c) = n then none else some (fun i k=>if c < i then dW.tk (lE A c (oK dW.z A c n (n - c)) i k) (lE A c (oK dW.z A c n (n - c)) i c * gG (lE A c (oK dW.z A c n (n - c)) c c) % 1000003) (lE A c (oK dW.z A c n (n - c)) c k) else lE A c (oK dW.z A c n (n - c)) i k,(if c < oK dW.z A c n (n - c) then (0 - d) % 1000003 else d) * lE A c (oK dW.z A c n (n - c)) c c % 1000003)
theorem a5W {x y:Int} (hx:fP x) (hy:fP y) (h1:¬ x = 0) (h2:¬ y = 0):¬ x * y % 1000003 = 0:=fun h=>by
 obtain ⟨q,hq⟩:=inv_mul hx h1
 have h3:x * y = 1000003 * (x * y / 1000003):=by omega
 generalize x * y / 1000003 = r at h3
 have h4:Cg y 0:=⟨gG x * r - q * y,by grind⟩
 exact h2 (h4.num hy nN)
theorem aO4 (x f iv y:Int):dW.tk x (f * iv % 1000003) y = dW.tk x f (y * iv % 1000003):=by
 have h:f * iv % 1000003 * y % 1000003 = f * (y * iv % 1000003) % 1000003:=by
  refine ((Cg.mod _).trans (((Cg.mod (f * iv)).mul (Cg.refl y)).trans ?_)).num (c7 _) (c7 _)
  refine Cg.symm ((Cg.mod _).trans (((Cg.refl f).mul (Cg.mod (y * iv))).trans (Cg.of_eq ?_)))
  grind
 show (x - f * iv % 1000003 * y % 1000003) % 1000003 = (x - f * (y * iv % 1000003) % 1000003) % 1000003
 rw [h]
theorem a22 {n:Nat} {M N:Nat→Nat→Int} (hM:∀ i,i < n→∀ k,k < n→fP (M i k)) (h:∀ i,i < n→∀ k,k < n→M i k = N i k):∀ c,c≤n→(dtF n M c = none∧pD dW n N c = none)∨∃ A d B,dtF n M c = some (A,d)∧pD dW n N c = some B∧(fP d∧¬ d = 0)∧(∀ i,i < n→∀ k,k < n→fP (A i k))∧∀ i,c≤i→i < n→∀ k,k < n→A i k = B i k
 |0,_=>.inr ⟨M,1,N,rfl,rfl,⟨by unfold fP;omega,by omega⟩,hM,fun i _ hi k hk=>h i hi k hk⟩
 |c + 1,hc=>by
  rcases a22 hM h c (by omega) with ⟨h1,h2⟩ | ⟨A,d,B,h1,h2,hd,hA,h3⟩
  ·left
   rw [dtF,pD,h1,h2];exact ⟨rfl,rfl⟩
  have hp:∀ j,j≤n - c→oK dW.z A c n j = oK dW.z B c n j:=fun j=>by
   induction j with
   |zero=>intro _;rfl
   |succ j ih =>
    intro hj
    rw [oK,oK,ih (by omega),h3 (n - (j + 1)) (by omega) (by omega) c (by omega)]
  have hge:=aJJ dW.z A c n (n - c) (by omega)
  have hnz:=aJK dW.z A c n (n - c) (by omega)
  have hp':=hp (n - c) (Nat.le_refl _)
  rw [dtF,pD,h1,h2]
  simp only [← hp']
  generalize oK dW.z A c n (n - c) = r at *
  by_cases e:r = n
  ·left;rw [if_pos e,if_pos e];exact ⟨rfl,rfl⟩
  right
  rw [if_neg e,if_neg e]
  have hs:∀ i,c≤i→i < n→∀ k,k < n→lE A c r i k = lE B c r i k:=fun i hci hi k hk=>h3 (if i = c then r else if i = r then c else i) (by split;omega;split;omega;exact hci) (by split;omega;split;omega;exact hi) k hk
  have hsn:∀ i,i < n→∀ k,k < n→fP (lE A c r i k):=fun i hi k hk=>hA (if i = c then r else if i = r then c else i) (by split;omega;split;omega;exact hi) k hk
  have hzc:¬ lE A c r c c = 0:=by
   have:=hnz e
   rw [lE,if_pos rfl]
   exact of_decide_eq_false this
  refine ⟨_,_,_,rfl,rfl,⟨c7 _,a5W ?_ (hsn c (by omega) c (by omega)) ?_ hzc⟩,fun i hi k hk=>?_,fun i hci hi k hk=>?_⟩
  ·split
   ·exact c7 _
   ·exact hd.1
  ·have:=hd
   unfold fP at this
   split <;> omega
  ·split
   ·exact c7 _
   ·exact hsn i hi k hk
  ·rw [if_pos (by omega),aO4,hs i (by omega) hi k hk,hs i (by omega) hi c (by omega),hs c (Nat.le_refl _) (by omega) k hk,hs c (Nat.le_refl _) (by omega) c (by omega),uU,if_neg (by omega)]
   rfl
def St (start:List Int) (sz:Nat) (X:List (List Int)):Prop:=c5 sz start.length X∧∀ i,i < start.length→(X.getD i []).getD 0 0 = start.getD i 0
theorem aA0 {n i:Nat} (hi:i < n) (f:Nat→List Int):((List.range n).map f).getD i [] = f i:=by
 rw [List.getD_eq_getElem?_getD,List.getElem?_map,List.getElem?_range hi];rfl
theorem St.len {start:List Int} {sz:Nat} {X:List (List Int)} (h:St start sz X) {i:Nat} (hi:i < start.length):(X.getD i []).length = sz:=(h.1.get hi).2.1
def gV {α:Type} (n:Nat) (N:Nat→Nat→α) (r:Nat→α):Nat→Nat→α:=fun i k=>if k < n then N i k else r i
def wS (n:Nat) (N:Nat→Nat→Int) (r:Nat→Int) (i:Nat):Int:=match pD dW n (gV n N r) n with
 |some A=>A i n
 |none=>0
def xV (r x:List Int) (k:Nat) (s:Int):Nat→Int
 |0=>s
 |i + 1=>(xV r x k s i + r.getD i 0 * x.getD (k - i) 0 % 1000003) % 1000003
def j6 (r:Nat→List Int) (X:List (List Int)) (k:Nat):Nat→Int
 |0=>0
 |j + 1=>xV (r j) (X.getD j []) k (j6 r X k j) (k + 1)
def rS (n:Nat) (S:Nat→Nat→List Int) (b:Nat→List Int):Nat→List (List Int)
 |0=>List.replicate n []
 |k + 1=>(List.range n).map fun i=>(rS n S b k).getD i [] ++ [wS n (fun i j=>(S i j).getD 0 0) (fun i=>((b i).getD k 0 - j6 (S i) (rS n S b k) k n) % 1000003) i]
theorem aW3 {r x:List Int} {k:Nat} {s:Int} (hs:fP s):∀ i,fP (xV r x k s i)
 |0=>hs
 |i + 1=>c7 _
theorem aHE (r:Nat→List Int) (X:List (List Int)) (k:Nat):∀ j,fP (j6 r X k j)
 |0=>nN
 |j + 1=>aW3 (aHE r X k j) _
theorem aMO (r x:List Int) (k:Nat) (s:Int):∀ i,Cg (xV r x k s i) (s + dA (fun i=>sF r i * sF x (k - i)) i)
 |0=>Cg.of_eq (by rw [xV,dA];omega)
 |i + 1=>(Cg.mod _).trans (((aMO r x k s i).add (Cg.mod _)).trans (Cg.of_eq (by rw [dA];simp only [sF];omega)))
theorem aHF (r:Nat→List Int) (X:List (List Int)) (k:Nat):∀ j,Cg (j6 r X k j) (dA (fun j=>dO (sF (r j)) (sF (X.getD j [])) k) j)
 |0=>Cg.refl _
 |j + 1=>(aMO _ _ k _ _).trans (((aHF r X k j).add (Cg.refl _)).trans (Cg.of_eq (by rw [← pN];rfl)))
theorem aRY (n:Nat) (S:Nat→Nat→List Int) (b:Nat→List Int):∀ k,(rS n S b k).length = n
 |0=>by simp [rS]
 |k + 1=>by simp [rS]
theorem vU {n:Nat} (S:Nat→Nat→List Int) (b:Nat→List Int) (k:Nat) {i:Nat} (hi:i < n):(rS n S b (k + 1)).getD i [] = (rS n S b k).getD i [] ++ [wS n (fun i j=>(S i j).getD 0 0) (fun i=>((b i).getD k 0 - j6 (S i) (rS n S b k) k n) % 1000003) i]:=by
 rw [rS,aA0 hi]
theorem tY {n:Nat} (S:Nat→Nat→List Int) (b:Nat→List Int) {i:Nat} (hi:i < n):∀ k,((rS n S b k).getD i []).length = k
 |0=>by rw [rS,List.getD_eq_getElem?_getD,List.getElem?_replicate,if_pos hi];rfl
 |k + 1=>by rw [vU S b k hi,List.length_append,tY S b hi k];rfl
theorem a5X {a:List Int} {q:Nat} (h:q < a.length) (b:List Int):sF (a ++ b) q = sF a q:=by rw [sF,sF,List.getD_eq_getElem?_getD,List.getElem?_append_left h,← List.getD_eq_getElem?_getD]
theorem aRZ {n:Nat} (S:Nat→Nat→List Int) (b:Nat→List Int) {i:Nat} (hi:i < n) {q k:Nat} (hq:q < k):∀ m,k≤m→sF ((rS n S b m).getD i []) q = sF ((rS n S b k).getD i []) q
 |0,h=>by omega
 |m + 1,h=>by
  rcases Nat.lt_or_ge m k with h1 | h1
  ·obtain rfl:k = m + 1:=by omega
   rfl
  ·rw [vU S b m hi,← aRZ S b hi hq m h1,a5X (by rw [tY S b hi];omega)]
theorem a5Y {n:Nat} {N:Nat→Nat→Int} {r:Nat→Int} (hN:∀ i,i < n→∀ k,k < n→fP (N i k)) (hr:∀ i,i < n→fP (r i)):okM fP n (gV n N r):=fun i hi k _=>by
 unfold gV
 split
 ·exact hN i hi k (by assumption)
 ·exact hr i hi
theorem aMP {n:Nat} {N:Nat→Nat→Int} {r:Nat→Int} (hN:∀ i,i < n→∀ k,k < n→fP (N i k)) (hr:∀ i,i < n→fP (r i)) (hs:¬ pD dW n (gV n N r) n = none):(∀ i,i < n→fP (wS n N r i))∧∀ i,i < n→Cg (dA (fun k=>N i k * wS n N r k) n) (r i):=by
 cases hA:pD dW n (gV n N r) n with
 |none=>exact absurd hA hs
 |some A =>
  have hok:=a5Y hN hr
  have h1:=(zK aJM hok n (Nat.le_refl _) A hA).1
  have h2:=(aRX aJM hok hA (fun k=>a5U (A k n))).2 fun i _=>nD.refl _
  have e:∀ i,wS n N r i = A i n:=fun i=>by rw [wS,hA]
  refine ⟨fun i hi=>by rw [e];exact h1 i hi n (Nat.le_refl _),fun i hi=>?_⟩
  have h3:=h2 i hi 0 (by omega)
  rw [gV,if_neg (Nat.lt_irrefl n)] at h3
  refine Cg.trans (Cg.of_eq ?_) h3
  refine jZ n fun k hk=>?_
  rw [e,gV,if_pos hk];rfl
theorem aO5 {n:Nat} {N N':Nat→Nat→Int} {r r':Nat→Int} (h:∀ i,i < n→∀ k,k < n→N i k = N' i k):pD dW n (gV n N r) n = none ↔ pD dW n (gV n N' r') n = none:=by
 have h1:=zM (F:=dW) (G:=dW) (R:=fun a b=>a = b) (fun x y q=>by rw [q]) (fun x y d e q1 q2 _=>by rw [q1,q2]) (fun x y f g u v q1 q2 q3=>by rw [q1,q2,q3]) (n:=n) (w:=n) (Nat.le_refl _) (M:=gV n N r) (N:=gV n N' r') (fun i hi k hk=>by rw [gV,gV,if_pos hk,if_pos hk];exact h i hi k hk) n (Nat.le_refl _)
 rcases h1 with ⟨a,b⟩ | ⟨A,B,a,b,_⟩
 ·rw [a,b]
 ·rw [a,b];exact ⟨fun q=>(by cases q),fun q=>(by cases q)⟩
theorem aCW {n sz:Nat} {S:Nat→Nat→List Int} {b:Nat→List Int} (hsz:1≤sz) (hS:∀ i,i < n→∀ k,k < n→bD sz (S i k)) (hs:¬ pD dW n (gV n (fun i j=>(S i j).getD 0 0) fun _=>0) n = none):∀ k i,i < n→bD k ((rS n S b k).getD i [])
 |0,i,hi=>⟨tY S b hi 0,by rw [rS,List.getD_eq_getElem?_getD,List.getElem?_replicate,if_pos hi];exact fun x hx=>(by simp at hx)⟩
 |k + 1,i,hi=>by
  have h1:=aMP (n:=n) (N:=fun i j=>(S i j).getD 0 0) (r:=fun i=>((b i).getD k 0 - j6 (S i) (rS n S b k) k n) % 1000003) (fun i hi j hj=>(hS i hi j hj).2.get 0) (fun i _=>c7 _) (fun q=>hs ((aO5 fun _ _ _ _=>rfl).1 q))
  have h2:=aCW (b:=b) hsz hS hs k i hi
  refine ⟨tY S b hi _,?_⟩
  rw [vU S b k hi]
  intro x hx
  rcases List.mem_append.1 hx with hx | hx
  ·exact h2.2 x hx
  ·rw [List.mem_singleton.1 hx];exact h1.1 i hi
theorem aW4 (f:Nat→Int) {s:List Int} {k:Nat} {x:Int} (hl:s.length = k):dO f (sF (s ++ [x])) k = dO f (sF s) k + f 0 * x:=by
 rw [gZ,gZ f,pN,pN,dA,dA,Nat.sub_self]
 have e1:dA (fun i=>sF (s ++ [x]) i * f (k - i)) k = dA (fun i=>sF s i * f (k - i)) k:=jZ k fun i hi=>by
  rw [sF,sF,List.getD_eq_getElem?_getD,List.getElem?_append_left (by omega),List.getD_eq_getElem?_getD]
 have e2:sF (s ++ [x]) k = x:=bBM (by rw [List.getElem?_append_right (by omega),hl,Nat.sub_self];rfl)
 have e3:sF s k = 0:=by rw [sF,List.getD_eq_getElem?_getD,List.getElem?_eq_none (by omega)];rfl
 rw [e1,e2,e3];grind
theorem a0G (f:Nat→Int) {g h:Nat→Int} {k:Nat} (e:∀ i,i≤k→g i = h i):dO f g k = dO f h k:=by
 rw [gZ,gZ f,pN,pN]
 exact jZ _ fun i hi=>by rw [e i (by omega)]
theorem aHG (F G:Nat→Int):∀ n,dA (fun k=>F k + G k) n = dA F n + dA G n
 |0=>rfl
 |n + 1=>by rw [dA,dA,dA,aHG F G n];omega
theorem a0H {n sz:Nat} {S:Nat→Nat→List Int} {b:Nat→List Int} (hsz:1≤sz) (hS:∀ i,i < n→∀ k,k < n→bD sz (S i k)) (hb:∀ i,i < n→bD sz (b i)) {A:Nat→Nat→List Int} (hA:pD rR n (gV n S b) n = some A):∀ i,i < n→A i n = (rS n S b sz).getD i []:=by
 have hok:okM (bD sz) n (gV n S b):=fun i hi k hk=>by
  unfold gV
  split
  ·exact hS i hi k (by assumption)
  ·exact hb i hi
 have hno:¬ pD dW n (gV n (fun i j=>(S i j).getD 0 0) fun _=>0) n = none:=fun q=>by
  have h1:=(aMN (n:=n) (w:=n + 1) (M:=gV n S b) (N:=gV n (fun i j=>(S i j).getD 0 0) fun _=>0) hsz (by omega) (fun i hi k hk=>hok i hi k (by omega)) fun i hi k hk=>by rw [gV,gV,if_pos hk,if_pos hk]).2 q
  rw [hA] at h1;cases h1
 have hser:=aCW (b:=b) hsz hS hno
 have hsol:aML sF sz (gV n S b) n fun i=>sF ((rS n S b sz).getD i []):=fun i hi k hk=>by
  have h1:=(aMP (n:=n) (N:=fun i j=>(S i j).getD 0 0) (r:=fun i=>((b i).getD k 0 - j6 (S i) (rS n S b k) k n) % 1000003) (fun i hi j hj=>(hS i hi j hj).2.get 0) (fun i _=>c7 _) (fun q=>hno ((aO5 fun _ _ _ _=>rfl).1 q))).2 i hi
  have h2:=aHF (S i) (rS n S b k) k n
  have e1:rvF sF (gV n S b) n (fun i=>sF ((rS n S b sz).getD i [])) i k = dA (fun j=>dO (sF (S i j)) (sF ((rS n S b k).getD j [])) k + (S i j).getD 0 0 * wS n (fun i j=>(S i j).getD 0 0) (fun i=>((b i).getD k 0 - j6 (S i) (rS n S b k) k n) % 1000003) j) n:=by
   refine jZ n fun j hj=>?_
   rw [gV,if_pos hj,a0G (sF (S i j)) (h:=sF ((rS n S b (k + 1)).getD j [])) fun q hq=>aRZ S b hj (by omega) sz (by omega),vU S b k hj,aW4 _ (tY S b hj k)]
   rfl
  rw [e1,aHG,gV,if_neg (Nat.lt_irrefl n)]
  have h3:=h1.trans (Cg.mod _)
  obtain ⟨u,hu⟩:=h2
  obtain ⟨v,hv⟩:=h3
  have e2:sF (b i) k = (b i).getD k 0:=rfl
  rw [e2]
  exact ⟨v - u,by omega⟩
 intro i hi
 have h1:=(aRX (aCV sz) hok hA _).1 hsol i hi
 have h2:=(zK (aCV sz) hok n (Nat.le_refl _) A hA).1 i hi n (Nat.le_refl _)
 exact aJI h2 (hser sz i hi) fun j hj=>(h1 j hj).symm
theorem jB (l:List Int) (hl:l.length≤1048576):dI Tryz.prog 128 [ints l] (ints l):=vN (aIM l hl)
@[go_sem] def aW5:List Nat:=[0,1,2,3,8,9,10,11,12,13,31,41]
@[go_sem] def bBO:List Nat:=[32,37,50]
@[go_sem] def bBP:Marks:=fun id=>match id with | 4=>([4],(.op 0 (.op 1 (.op 2 (.op 3 (.op 4 (.op 5 (.op 6 .nil))))))),[]) | _=>([],.nil,[])
theorem aR0 {p:aE} (hp:p.ok) {sz:Nat} (hsz:1≤sz∧sz≤1048576) (f:Int) (hf:0≤f∧f < p.aJ.length) (args:List (List Int)) (ha:∀ s∈args,bD sz s) (hl:∀ F,p.aJ[f.toNat]? = some F→(args.length:Int) = F.a9) :
  dI Tryz.prog 69 [.ip 1 [p.c] 0 0,I f,bB args,I sz] (.gW [bB (aLY (evF p sz f args)).1,I (aLY (evF p sz f args)).2.2]):=by
 obtain ⟨F,ef,hF1,hF2,hF3,hF4⟩:=wH hp hf
 have hlF:=hl F ef
 rw [aE.aQ]
 refine j7 53 aW5 bBO bBP mix Tryz.func69 rfl (by kernel_rfl) (by simp) fun h=>?_
 simp -dsimp -implicitDefEqProofs only [go_sem,↓reduceIte,Tryz.f69,ef]
 intro nb zb
 refine ⟨hf.1,by omega,?_⟩
 refine aG.gQ (fE.sub (.cons (.refl _) (.cons (Sub.ip (by rw [List.getElem?_map,ef];rfl) (by simp [aS.aQ])) (.cons (.refl _) .nil))) (aRD (run hp hsz 3001) (a7 h nb (dK p sz 0 0)) nb 0 0 F args f (aH _ _ _) (by omega) (by omega) (by omega) (by rw [hlF];exact hF4) hf.1 (by omega) ha (by omega))) ?_
 rintro r h' ⟨vs,t,c,rfl,rfl,hvl,hvs,a1,a2,a3⟩
 rw [eK,← hF3] at a3
 have hev:=aV4 (show j9 (evF p sz f args) vs t c from a3)
 rw [aO]
 have hBn:(a7 h nb (dK p sz t c)) nb = some (.row 4 [[.v (.ip 1 [p.c] 0 0),.v (I sz),.v (I t),.v (I c)]]):=aH _ _ _
 have hBl:h.le (a7 h nb (dK p sz t c)):=aA.bI zb (aA.le_refl _)
 generalize a7 h nb (dK p sz t c) = hB at hBn hBl ⊢
 simp -dsimp -implicitDefEqProofs only [go_sem,↓reduceIte,Tryz.f69,hBn]
 refine ⟨fun hc=>⟨Nat.zero_lt_one,?_⟩,fun hc=>⟨Nat.zero_lt_one,?_⟩⟩
 ·rw [hev,if_neg hc]
  exact Shift.of (Sub.gW (.cons (Sub.loose _ _ _) (.cons (.refl _) .nil))) hBl
 subst hc
 rw [if_pos rfl] at hev
 refine bQ (keep:=aW5) (ib:=bBO) (mk:=bBP) mix (by kernel_rfl) (fun x:Nat × Option Nat=>[(10,.op nb 4 0 0),(11,bB vs),(12,eU 1 (vs.take x.1).length x.2),(13,I x.1)]) (fun x=>gB hB (.row 1 (((vs.take x.1).map fun s=>[ints s]).map (List.map .v))) x.2) (fun x=>x.1≤vs.length∧eF hB (vs.take x.1) x.2) (fun x=>vs.length - x.1) (0,none) ⟨by simp [bU,bF,eU],by simp only [aP];exact aA.le_refl _,Nat.zero_le _,by simp [eF]⟩ ?_
 rintro ⟨k,o⟩ ⟨hk,hos⟩
 simp only at hk hos ⊢
 rcases Nat.lt_or_ge k vs.length with hlt | hge
 ·have ea:vs[k]? = some vs[k]:=List.getElem?_eq_getElem hlt
  have hy:vs.take (k + 1) = vs.take k ++ [vs[k]]:=List.take_succ_eq_append_getElem hlt
  have hlk:(vs.take k).length = k:=by rw [List.length_take];omega
  have hsk:=hvs _ (List.getElem_mem hlt)
  cases o with
  |none =>
   rw [a6] at hos
   rw [hos] at hy ⊢
   simp -dsimp -implicitDefEqProofs only [go_sem,↓reduceIte,Tryz.f69,a8,aP,hlt,ea]
   intro _
   first | refine aG.mk (jB vs[k] (by rw [hsk.1];omega)) ?_ | refine aD.mk (jB vs[k] (by rw [hsk.1];omega)) ?_ | refine aG.a5 (jB vs[k] (by rw [hsk.1];omega)) ?_ | refine aD.mk (aX.cD (jB vs[k] (by rw [hsk.1];omega))) ?_
   simp -dsimp -implicitDefEqProofs only [go_sem,↓reduceIte,Tryz.f69]
   repeat' (with_reducible first | intro _ | refine And.intro ?_ ?_)
   all_goals try (first | omega | decide)
   rename_i b hb
   refine ⟨(k + 1,some b),?_⟩
   simp only [hy]
   refine ⟨⟨rfl,?_⟩,aA.le_refl _,⟨by omega,hb⟩,by omega⟩
   rw [IntWalk.i64_in _ (by omega)];rfl
  |some n =>
   rw [aU] at hos
   simp -dsimp -implicitDefEqProofs only [go_sem,↓reduceIte,Tryz.f69,aT,aK,hlt,ea]
   intro _
   first | refine aG.mk (jB vs[k] (by rw [hsk.1];omega)) ?_ | refine aD.mk (jB vs[k] (by rw [hsk.1];omega)) ?_ | refine aG.a5 (jB vs[k] (by rw [hsk.1];omega)) ?_ | refine aD.mk (aX.cD (jB vs[k] (by rw [hsk.1];omega))) ?_
   simp -dsimp -implicitDefEqProofs only [go_sem,↓reduceIte,Tryz.f69]
   repeat' (with_reducible first | intro _ | refine And.intro ?_ ?_)
   all_goals try (first | omega | decide | exact Nat.le_refl _)
   rename_i b hb
   refine ⟨(k + 1,some b),?_⟩
   simp only [hy,aK,aT,aU]
   refine ⟨⟨by rw [List.length_append];rfl,?_⟩,?_,⟨by omega,hb.2⟩,by omega⟩
   ·rw [IntWalk.i64_in _ (by omega)];rfl
   ·rw [← dQ];exact iX hos
 ·have hk':k = vs.length:=by omega
  subst hk'
  rw [List.take_length] at hos ⊢
  cases o with
  |none =>
   rw [a6] at hos
   simp -dsimp -implicitDefEqProofs only [go_sem,↓reduceIte,Tryz.f69,a8,aP,Nat.lt_irrefl,Int.lt_irrefl]
   intro _
   rw [hev,hos]
   exact Shift.of (Sub.gW (.cons (Sub.loose _ _ _) (.cons (.refl _) .nil))) hBl
  |some n =>
   rw [aU] at hos
   simp -dsimp -implicitDefEqProofs only [go_sem,↓reduceIte,Tryz.f69,aT,aK,Nat.lt_irrefl,Int.lt_irrefl]
   intro _
   rw [hev]
   refine Shift.trans (fH (vs.map fun s=>[ints s]) hos (aA.le_refl _) (by simp [dF,dG]) ?_) (cG hBl)
   simp [aC.cR,iF,List.take_of_length_le]
theorem g8.pE {h g:aA} {n:Nat} {o:bH} (w:g8 h [(n,o)] g):h n = none∧g = a7 h n o:=by
 refine ⟨w.fresh n (by simp [a4]),?_⟩
 funext q
 rw [dX]
 split
 ·rename_i e;rw [e];exact w.iD (n,o) List.mem_cons_self
 ·rename_i e;exact w.upto q (by simp [a4,e])
@[go_sem] def a0I:List Nat:=[0,1,4,7,16]
structure aR1 (p:aE) (f:Int) (start L:List Int) (F:bY) (u:Nat):Prop where
 ok:(⟨start.length,F.code,F.guards,L⟩:jS).ok
 ins:∀ i c,F.code[i]? = some c→bK start.length i c
 one:1≤F.code.length
 cap:F.code.length≤3200
 outs:∀ r∈L,0≤r∧r < F.code.length
 lo:1≤L.length
 ll:L.length = (p.outs f).length
 ev:∀ sz X,1≤sz→St start sz X→evF p sz f X = .ok (L.map fun r=>lR sz X F.code r.toNat,u)
 nz:∀ sz X,1≤sz→St start sz X→∀ (i:Nat) (c:aY),F.code[i]? = some c→c.fX = 6→¬ (lR sz X F.code c.fB.toNat).getD 0 0 = 0
theorem bBQ {p:aE} (hp:p.ok) {f:Int} (hf:0≤f∧f < p.aJ.length) {args:List Int} (na:hH args) (h12:args.length≤12) (hl:∀ G,p.aJ[f.toNat]? = some G→(args.length:Int) = G.a9) {L:List Int} {F:bY} {u:Nat} (hX:rP p f args = .ok ((L,F),u)):aR1 p f args L F u:=by
 obtain ⟨G,eG,hO1,hO2,hO3,hO4⟩:=wH hp hf
 obtain ⟨q1,q2,q3,q4⟩:=(aIS hp f hf args na hl).1 _ _ hX
 simp only at q1 q2 q3 q4
 have hcl:=q1.len
 have hcap:=q1.cap
 have hgc:=q1.nC
 have hu:=q4.2.2.2
 have hL1:1≤L.length:=by rw [q3.1,hO3];omega
 have h1:∀ x∈L,0≤x∧x < (F.code.length:Int):=fun x hx=>by
  have:=q3.2 x hx
  unfold kB at this
  omega
 have hone:1≤F.code.length:=by
  have:=h1 (L.getD 0 0) (by rw [List.getD_eq_getElem?_getD,List.getElem?_eq_getElem hL1];exact List.getElem_mem _)
  omega
 have hsim:aZY args.length F fun _=>True:=⟨q1.ins,fun _ _ _ _=>⟨fun _=>⟨trivial,trivial⟩,fun _=>trivial⟩,fun _ _=>trivial,fun _ _ _ _=>trivial⟩
 have hb:∀ sz X,1≤sz→St args sz X→_:=fun sz X hsz hX'=>aTB hp hsz hf na hl hX hsim (args:=X) hX'.1.2 hX'.1.1 (fun i hi _=>hX'.2 i hi)
 refine ⟨⟨by simp only;omega,⟨by simp only;omega,by simp only;omega,hL1,by simp only;rw [q3.1,hO3];omega⟩,fun k hk=>?_,fun g hg=>?_,fun r hr=>by have:=h1 r hr;simp only;omega⟩,q1.ins,hone,by omega,h1,hL1,q3.1,fun sz X hsz hX'=>(hb sz X hsz hX').1,fun sz X hsz hX' i c ec h6=>?_⟩
 ·have hk':k < F.code.length:=hk
  have hc:=q1.ins k _ (List.getElem?_eq_getElem hk')
  show aL8 F.code[k] k args.length
  unfold bK fP at hc
  unfold aL8 fP
  omega
 ·have:=q1.gds g hg
  simp only
  omega
 ·have hc:=q1.ins i c ec
  have hi:=(List.getElem?_eq_some_iff.1 ec).1
  have hd:=(hb sz X hsz hX').2
  unfold bK at hc
  rw [hd.1 c.fB.toNat (by omega) trivial]
  exact hd.2 i c ec h6
end Go.Hl

/-
  Contracts of functions and laws of the layer over the walk.
-/
import Derived.Test.YtoomflalicffnaaGreatVvD
import Derived.Test.YtoomflalicffnaaGreatVvC
namespace Go.Hl
set_option maxRecDepth 100000
open Go.Proofs
set_option linter.unusedVariables false
set_option linter.unusedSimpArgs false
def x8 (sz:Nat):List Int:=List.replicate sz 0
def qC (r:Int) (s:List Int) (A:List (List Int)):List (List Int):=A.set r.toNat (iA (A.getD r.toNat []) s)
def j0 (c:bG) (rg:List (List Int)) (k:Nat) (A:List (List Int)):List (List Int) :=
 if c.gB=3 then qC c.fB (A.getD k []) (qC c.fA (A.getD k []) A)
 else if c.gB=4 then qC c.fB (eJ (A.getD k []) 1000002) (qC c.fA (A.getD k []) A)
 else if c.gB=5 then qC c.fB (mulL (A.getD k []) (rg.getD c.fA.toNat [])) (qC c.fA (mulL (A.getD k []) (rg.getD c.fB.toNat [])) A)
 else if c.gB=6 then qC c.fB (eJ (mulL (gG (A.getD k []) (rg.getD c.fB.toNat [])) (rg.getD k [])) 1000002) (qC c.fA (gG (A.getD k []) (rg.getD c.fB.toNat [])) A)
 else if c.gB=7 then qC c.fA (eJ (A.getD k []) 1000002) A
 else A
def nW (code:List bG) (rg A:List (List Int)):Nat->Nat->List (List Int)
 |0,_=>A
 |n+1,j=>j0 (code.getD j ⟨0,0,0,0⟩) rg j (nW code rg A n (j+1))
def rV (outs ws:List Int) (A:List (List Int)):Nat->List (List Int)
 |0=>A
 |k+1=>(rV outs ws A k).set (outs.getD k 0).toNat (((rV outs ws A k).getD (outs.getD k 0).toNat []).set 0 ((((rV outs ws A k).getD (outs.getD k 0).toNat []).getD 0 0+ws.getD k 0)%1000003))
def c7 (sz n:Nat) (A:List (List Int)):Prop:=A.length=n/\∀ s∈A,aW sz s
theorem c7.get {sz n:Nat} {A:List (List Int)} (h:c7 sz n A) {i:Nat} (hi:i<n):A[i]?=some (A.getD i [])/\aW sz (A.getD i []):=by
 have h1:=jZ (env:=A) (i:=i) (by rw[h.1];exact hi)
 exact⟨h1,h.2 _ (s5 h1)⟩
theorem c7.set {sz n:Nat} {A:List (List Int)} (h:c7 sz n A) {s:List Int} (hs:aW sz s) (i:Nat):c7 sz n (A.set i s):=⟨by rw[p7];exact h.1,λx hx=>by
 rcases s6 hx with hx|rfl
 ·exact h.2 x hx
 ·exact hs⟩
theorem c7.put {sz n:Nat} {A:List (List Int)} (h:c7 sz n A) {r:Int} (hr:r.toNat<n) {s:List Int} (hs:aW sz s):c7 sz n (qC r s A):=h.set (lL (h.get hr).2 hs) _
theorem aGK (A:List (List Int)) (k:Nat) (s:List Int):bU.row 1 (((A.map λs=>[ints s]).map (List.map Cell.v)).set k [.v (ints s)])=gH (A.set k s):=by
 rw[gH,aJF,aJF];rfl
@[go_sem] def bCE:List Nat:=[0,1,2]
@[go_sem] def bPS:Marks:=λid=>match id with|0=>([0,2,5,9],(.op 1 (.op 3 (.op 6 (.op 0 (.op 2 (.op 4 (.op 5 (.op 7 (.op 8 (.op 9 .nil)))))))))),[])|_=>([],.nil,[])
theorem aPW {sz n:Nat} (hsz:1<=sz/\sz<=1048576) {A:List (List Int)} (hA:c7 sz n A) {r:Int} (hr:0<=r/\r<n) {s:List Int} (hs:aW sz s) {g:aB} {nb b:Nat} (hb:g nb=some (.row 1 [[.v (.os b 1 0 n)]])) (hg:g b=some (gH A)) :
  iD Tryz.prog 188 [I r,ints s,.op nb 1 0 0] g λr_ h'=>h'=aT g b (gH (qC r s A)):=by
 have hq:=hA.get (i:=r.toNat) aA
 have hcall:=aCP (added (A.getD r.toNat []) s (by rw[hs.1,hq.2.1]) (by rw[hq.2.1];omega) (sM hq.2.2) (sM hs.2))
 unfold gH at hg
 refine aHV 14 bCE cU bPS Tryz.func188 ?_
 simp -dsimp -implicitDefEqProofs only[go_sem,↓reduceIte,Tryz.f188,hb,hg,hq.1]
 refine⟨hr.1,hr.2,aG.mk hcall ?_⟩
 simp -dsimp -implicitDefEqProofs only[go_sem,↓reduceIte,Tryz.f188,hb,hg,hq.1]
 exact⟨hr.1,hr.2,_,by have h1:=aGK A r.toNat (iA (A.getD r.toNat []) s);rw[h1];exact aB.le_refl _,rfl⟩
theorem a7A {b sz:Nat}:∀ (N:List Nat) (A pre:List (List Int)) (g:aB),N.length=A.length->N.Nodup->(∀ k n,N[k]?=some n->g n=some (mH (A.getD k []))/\¬n=b)->(∀ s∈A,s.length=sz)->g b=some (.row 1 ((pre.map λs=>[ints s]).map (List.map .v)++(N.map λn=>[aE.os n 1 0 sz]).map (List.map .v))) ->
  ∃ g':aB,g'.wk g/\g' b=some (gH (pre++A))/\∀ q,¬q=b->q∉N->g' q=g q
 | [],[],pre,g,_,_,_,_,hb=>⟨g,aB.kH (aB.le_refl _),by rw[hb,dR,w9,w9,dR];rfl,λ_ _ _=>rfl⟩
 | [],_::_,_,_,h,_,_,_,_=>by simp at h
 | _::_,[],_,_,h,_,_,_,_=>by simp at h
 |n::N,s::A,pre,g,hl,hnd,hN,hs,hb=>by
  obtain⟨hn,hnb⟩:=hN 0 n rfl
  rw[show(s::A).getD 0 []=s from rfl]at hn
  have hsl:=hs s (.head _)
  have hnn:n∉N:=(aD0.1 hnd).1
  have hat:∀ (es:List (List Cell)) i j x,iU es i j=some x->∃ e∈es,x∈e:=λes i j x hx=>by
   obtain⟨e,h1,h2⟩:=lC hx
   exact⟨e,s5 h1,s5 h2⟩
  have hw:=aB.aZV (m:=n) (b:=b) hn hb (iK hnb) (λi j x hx=>by
   obtain⟨e,he,hxe⟩:=hat _ i j _ hx
   rcases nY.1 he with he|he
   ·obtain⟨e1,h1,rfl⟩:=lZ.1 he
    obtain⟨r,_,rfl⟩:=lZ.1 h1
    simp only[qR,w9,iO,Cell.v.injEq]at hxe
    subst hxe;rfl
   ·obtain⟨e1,h1,rfl⟩:=lZ.1 he
    obtain⟨r,_,rfl⟩:=lZ.1 h1
    simp only[qR,w9,iO,Cell.v.injEq]at hxe
    subst hxe
    simp[jK,hsl])
  have hrow:(((pre.map λs=>[ints s]).map (List.map Cell.v)++((n::N).map λn=>[aE.os n 1 0 sz]).map (List.map Cell.v))).map (List.map (Cell.aAC n (fD ((s.map λn=>[I n]).map (List.map Cell.v)))))=((pre++[s]).map λs=>[ints s]).map (List.map .v)++(N.map λn=>[aE.os n 1 0 sz]).map (List.map .v):=by
   rw[aTK,mY,mY,mY,aOJ]
   congr 1
   ·simp only[zZ]
    exact aCA λr _=>rfl
   ·rw[qR,qR,qR]
    show _::_=[_]++_
    rw[List.singleton_append]
    congr 1
    ·simp only[qR,w9,Cell.aAC,aE.fS,if_true,aRI]
     rw[hJ (by rw[gX,hsl];exact bY _)]
    ·simp only[zZ]
     refine aCA λr hr=>?_
     have h1:¬r=n:=λe=>hnn (e▸hr)
     simp[Cell.aAC,aE.fS,h1]
  rw[hrow]at hw
  obtain⟨g',w1,w2,w3⟩:=a7A N A (pre++[s]) (aT (aT g n .gone) b (.row 1 (((pre++[s]).map λs=>[ints s]).map (List.map Cell.v)++(N.map λn=>[aE.os n 1 0 sz]).map (List.map Cell.v)))) aRV (aD0.1 hnd).2 (λk m hm=>by
   have h1:=hN (k+1) m (by simpa using hm)
   have h2:¬m=n:=λe=>hnn (e▸s5 hm)
   refine⟨?_,h1.2⟩
   rw[aD _ _ _ _ h1.2,aD _ _ _ _ h2]
   simpa using h1.1) (λx hx=>hs x (.tail _ hx)) (aI _ _ _)
  refine⟨g',w1.trans hw,by rw[w2,aOJ];rfl,λq h1 h2=>?_⟩
  have h3:¬q=n:=λe=>h2 (e▸.head _)
  rw[w3 q h1 λh=>h2 (.tail _ h),aD _ _ _ _ h1,aD _ _ _ _ h3]
theorem a25 {sz n:Nat} (hsz:1<=sz) {inp:Int} {k:Nat} (hk:k<n) {c:bG} (hc:bN inp k c) {rg:List (List Int)} (hrg:c7 sz n rg) {A:List (List Int)} (hA:c7 sz n A):c7 sz n (j0 c rg k A):=by
 have h0:=(hA.get hk).2
 unfold bN at hc
 unfold j0
 have hr:∀ x:Int,0<=x/\x<k->aW sz (rg.getD x.toNat []):=λx hx=>(hrg.get aA).2
 by_cases h3:c.gB=3
 ·rw[if_pos h3];exact(hA.put aA h0).put aA h0
 rw[if_neg h3]
 by_cases h4:c.gB=4
 ·rw[if_pos h4];exact(hA.put aA h0).put aA (dM _ h0)
 rw[if_neg h4]
 by_cases h5:c.gB=5
 ·rw[if_pos h5];exact(hA.put aA (cF _ h0)).put aA (cF _ h0)
 rw[if_neg h5]
 by_cases h6:c.gB=6
 ·rw[if_pos h6];exact(hA.put aA (k8 _ h0)).put aA (dM _ (cF _ (k8 _ h0)))
 rw[if_neg h6]
 by_cases h7:c.gB=7
 ·rw[if_pos h7];exact hA.put aA (dM _ h0)
 ·rw[if_neg h7];exact hA
theorem rK {sz:Nat} (hsz:1<=sz/\sz<=1048576) {inp:Int} {code:List bG} (hins:∀ i c,code[i]?=some c->bN inp i c) {rg:List (List Int)} (hrg:c7 sz code.length rg) {A:List (List Int)} (hA:c7 sz code.length A):∀ n j,n+j=code.length->c7 sz code.length (nW code rg A n j)
 |0,_,_=>hA
 |n+1,j,h=>by
  have ec:code[j]?=some code[j]:=fC aA
  rw[nW,show code.getD j ⟨0,0,0,0⟩=code[j]by rw[e8,ec];rfl]
  exact a25 hsz.1 aA (hins j _ ec) hrg (rK hsz hins hrg hA n (j+1) aA)
structure aDG (h:aB) (nb b sz:Nat) (N:List Nat) (A:List (List Int)) (g:aB):Prop where
 ser:c7 sz N.length A
 nodup:N.Nodup
 out:∀ n∈N,¬n=nb/\¬n=b/\h n=none
 get:∀ k n,N[k]?=some n->g n=some (mH (A.getD k []))
 bk:g b=some (.row 1 ((N.map λn=>[aE.os n 1 0 sz]).map (List.map .v)))
 nbk:g nb=some (.row 1 [[.v (.os b 1 0 N.length)]])
 keep:∀ q o,h q=some o->g q=some o
 bn:h b=none/\h nb=none/\¬b=nb
theorem aDH (sz:Nat):aW sz (x8 sz):=⟨by simp[x8],λx hx=>by rw[(aGW.1 hx).2];unfold iE;omega⟩
theorem aPX (sz:Nat):bU.row 1 ((List.replicate sz [aE.int IntKind.i64 0]).map (List.map .v))=mH (x8 sz):=by rw[mH,x8];simp[aXJ]
theorem aDG.first {h:aB} {nb n b sz:Nat} (hn:h nb=none) (n1:¬n=nb) (n2:h n=none) (b1:¬b=n) (b2:¬b=nb) (b3:h b=none) {X:bU} :
  aDG h nb b sz [n] [x8 sz] (aT (aT (aT (aT h nb X) n (mH (x8 sz))) b (.row 1 [[.v (.os n 1 0 sz)]])) nb (.row 1 [[.v (.os b 1 0 1)]])):=by
 refine⟨⟨rfl,λs hs=>by rw[iO.1 hs];exact aDH sz⟩,by simp,λm hm=>by rw[iO.1 hm];exact⟨n1,iK b1,n2⟩,λk m hk=>?_,?_,aI _ _ _,λq o hq=>?_,b3,hn,b2⟩
 ·match k with
  |0 =>
   cases hk
   rw[aD _ _ _ _ n1,aD _ _ _ _ (iK b1),aI];rfl
  |k+1=>cases hk
 ·rw[aD _ _ _ _ b2,aI];rfl
 ·rw[aD _ _ _ _ (λe=>by rw[e,hn]at hq;cases hq),aD _ _ _ _ (λe=>by rw[e,b3]at hq;cases hq),aD _ _ _ _ (λe=>by rw[e,n2]at hq;cases hq),aD _ _ _ _ (λe=>by rw[e,hn]at hq;cases hq)];exact hq
theorem aDG.free {h g:aB} {nb b sz:Nat} {N:List Nat} {A:List (List Int)} (H:aDG h nb b sz N A g) {n:Nat} (hn:g n=none):¬n=nb/\¬n=b/\n∉N/\h n=none:=by
 refine⟨(λe=>by rw[e,H.nbk]at hn;cases hn),(λe=>by rw[e,H.bk]at hn;cases hn),λe=>?_,?_⟩
 ·obtain⟨k,hk,ek⟩:=aCE.1 e
  have:=H.get k n (by rw[fC hk,ek])
  rw[this]at hn;cases hn
 ·cases hq:h n with
  |none=>rfl
  |some o=>rw[H.keep n o hq]at hn;cases hn
theorem aDG.more {h g:aB} {nb b sz:Nat} {N:List Nat} {A:List (List Int)} (H:aDG h nb b sz N A g) {n b':Nat} (hn:g n=none) (b1:¬b'=n) (hb:g b'=none) :
  aDG h nb b' sz (N++[n]) (A++[x8 sz]) (aT (aT (aT (aT g n (mH (x8 sz))) b .gone) b' (.row 1 ((N.map λn=>[aE.os n 1 0 sz]).map (List.map .v)++[[.v (.os n 1 0 sz)]]))) nb (.row 1 [[.v (.os b' 1 0 (N.length+1))]])):=by
 obtain⟨f1,f2,f3,f4⟩:=H.free hn
 obtain⟨e1,e2,e3,e4⟩:=H.free hb
 obtain⟨g1,g2,g3⟩:=H.bn
 have hl:=H.ser.1
 refine⟨⟨by simp[hl],λs hs=>?_⟩,?_,λm hm=>?_,λk m hk=>?_,?_,?_,λq o hq=>?_,e4,g2,e1⟩
 ·rcases nY.1 hs with hs|hs
  ·exact H.ser.2 s hs
  ·rw[iO.1 hs];exact aDH sz
 ·rw[xB]
  exact⟨H.nodup,by simp,λx hx y hy e=>by rw[iO.1 hy]at e;exact f3 (e▸hx)⟩
 ·rcases nY.1 hm with hm|hm
  ·have:=H.out m hm
   exact⟨this.1,λe=>e3 (e▸hm),this.2.2⟩
  ·rw[iO.1 hm]
   exact⟨f1,iK b1,f4⟩
 ·rcases bT k N.length with h1|h1
  ·rw[uP h1]at hk
   have hmem:=s5 hk
   have ho:=H.out m hmem
   rw[aD _ _ _ _ ho.1,aD _ _ _ _ (λe=>e3 (by rw[←e];exact hmem)),aD _ _ _ _ ho.2.1,aD _ _ _ _ (λe=>f3 (by rw[←e];exact hmem)),H.get k m hk,e8,e8,uP aA]
  ·rw[yD h1]at hk
   have h2:k-N.length=0:=by
    rcases a16 (k-N.length)with q|q
    ·exact q
    ·rw[aJE (by rw[nN];exact q)]at hk;cases hk
   rw[h2]at hk
   cases hk
   rw[aD _ _ _ _ f1,aD _ _ _ _ (iK b1),aD _ _ _ _ f2,aI,e8,yD aA,show k-A.length=0 by omega];rfl
 ·rw[aD _ _ _ _ e1,aI,mY,mY];rfl
 ·rw[aI,nT];rfl
 ·have hgq:=H.keep q o hq
  rw[aD _ _ _ _ (λe=>by rw[e,g2]at hq;cases hq),aD _ _ _ _ (λe=>by rw[e,e4]at hq;cases hq),aD _ _ _ _ (λe=>by rw[e,g1]at hq;cases hq),aD _ _ _ _ (λe=>by rw[e,f4]at hq;cases hq)];exact hgq
theorem aDG.set {h g:aB} {nb b sz:Nat} {N:List Nat} {A:List (List Int)} (H:aDG h nb b sz N A g) {r n:Nat} (hr:N[r]?=some n) {s:List Int} (hs:aW sz s):aDG h nb b sz N (A.set r s) (aT g n (mH s)):=by
 have hrl:r<N.length:=(iY.1 hr).1
 have hl:=H.ser.1
 have ho:=H.out n (s5 hr)
 refine⟨H.ser.set hs r,H.nodup,H.out,λk m hk=>?_,?_,?_,λq o hq=>?_,H.bn⟩
 ·by_cases e:k=r
  ·subst e
   rw[hr]at hk
   cases hk
   rw[aI,e8,nH aA];rfl
  ·have hne:¬m=n:=λq=>by
    subst q
    have hkl:k<N.length:=(iY.1 hk).1
    exact e ((aXK hkl H.nodup).1 (hk.trans hr.symm))
   rw[aD _ _ _ _ hne,H.get k m hk,e8,e8,mG (iK e)]
 ·rw[aD _ _ _ _ (iK ho.2.1)];exact H.bk
 ·rw[aD _ _ _ _ (iK ho.1)];exact H.nbk
 ·rw[aD _ _ _ _ (λe=>by rw[e,ho.2.2]at hq;cases hq)];exact H.keep q o hq
theorem aDG.seal {h g:aB} {nb b sz:Nat} {N:List Nat} {A:List (List Int)} (H:aDG h nb b sz N A g):(aT (aT h nb (.row 1 [[.v (.os b 1 0 N.length)]])) b (gH A)).wk g:=by
 obtain⟨g',w1,w2,w3⟩:=a7A (b:=b) (sz:=sz) N A [] g H.ser.1.symm H.nodup (λk n hk=>⟨H.get k n hk,(H.out n (s5 hk)).2.1⟩) (λs hs=>(H.ser.2 s hs).1) H.bk
 refine aB.wk.trans (aB.kH λq=>?_) w1
 by_cases e:q=b
 ·subst e;rw[aI];exact .inr w2.symm
 rw[aD _ _ _ _ e]
 by_cases e2:q=nb
 ·subst e2
  rw[aI,w3 q e λhq=>(H.out q hq).1 rfl];exact .inr H.nbk.symm
 rw[aD _ _ _ _ e2]
 cases hq:h q with
 |none=>exact .inl rfl
 |some o =>
  right
  rw[w3 q e λhn=>by rw[(H.out q hn).2.2]at hq;cases hq]
  exact(H.keep q o hq).symm
@[go_sem] def aIV:List Nat:=[0,1,2,3,6,7,9,10,11,12,13,14,15,16,18,19,20,21,32,33,34,35,61,75,76,88,101,125,150]
@[go_sem] def aZ7:List Nat:=[3,17,28]
@[go_sem] def aZ8:Marks:=λid=>match id with|5=>([0,2,3,5,6],(.op 1 (.op 0 (.op 2 (.op 3 (.op 4 (.op 5 (.op 6 .nil))))))),[(0,2),(0,3)])|10=>([0,3,4,7,9,13,14,16],(.op 1 (.op 5 (.op 10 (.op 11 (.op 12 (.op 0 (.op 2 (.op 3 (.op 4 (.op 6 (.op 7 (.op 8 (.op 9 (.op 13 (.op 14 (.op 15 (.op 16 .nil))))))))))))))))),[(0,14),(3,14)])|15=>([1,4,5,8,9,10],(.op 0 (.op 2 (.op 6 (.op 1 (.op 3 (.op 4 (.op 5 (.op 7 (.op 8 (.op 9 (.op 10 (.op 11 .nil)))))))))))),[(1,9),(4,9),(5,9),(5,10),(8,9),(8,10)])|23=>([2,4,5],(.op 0 (.op 1 (.op 3 (.op 2 (.op 4 (.op 5 .nil)))))),[(2,4)])|25=>([2,6,8,9,10],(.op 0 (.op 1 (.op 3 (.op 4 (.op 5 (.op 2 (.op 6 (.op 7 (.op 8 (.op 9 (.op 10 .nil))))))))))),[(2,9)])|26=>([2,6,8,9,10],(.op 0 (.op 1 (.op 3 (.op 4 (.op 5 (.op 2 (.op 6 (.op 7 (.op 8 (.op 9 (.op 10 .nil))))))))))),[(2,9)])|30=>([2,7,8,9,10],(.op 0 (.op 1 (.op 3 (.op 4 (.op 5 (.op 6 (.op 2 (.op 7 (.op 8 (.op 9 (.op 10 .nil))))))))))),[(2,8),(2,9)])|32=>([2,4,5],(.op 0 (.op 1 (.op 3 (.op 2 (.op 4 (.op 5 .nil)))))),[(2,4)])|_=>([],.nil,[])
set_option maxHeartbeats 4000000 in
theorem a7B (t:rI) {sz:Nat} (hsz:1<=sz/\sz<=1048576) (hins:∀ i c,t.bR[i]?=some c->bN t.p6 i c) (hcl:1<=t.bR.length/\t.bR.length<=3200) (rg:List (List Int)) (hrg:c7 sz t.bR.length rg) (ws:List Int) (hws:ws.length=t.aU.length) (hwn:eI ws) (hol:t.aU.length<=100) (ho:∀ r∈t.aU,0<=r/\r<t.bR.length) :
  fR Tryz.prog 138 [.agg t.c,bL rg,ints ws] (bL (nW t.bR rg (rV t.aU ws (List.replicate t.bR.length (x8 sz)) t.aU.length) t.bR.length 0)):=by
 rw[rI.aY]
 refine mP 159 aIV aZ7 aZ8 Tryz.func138 λh=>?_
 simp -dsimp -implicitDefEqProofs only[go_sem,↓reduceIte,Tryz.f138]
 refine⟨by decide,λnb hnb hlc=>?_⟩
 rw[aL]
 have hrl:rg.length=t.bR.length:=hrg.1
 refine cM aIV aZ7 aZ8 (λx:Nat×aB=>[(1,bL rg),(2,ints ws),(3,.ip 4 [[I t.p6,gT 4 bG.c t.bR,gT 2 jA.c t.v9,ints t.aU]] 0 0),(7,.op nb 1 0 0),(18,bL rg),(19,I rg.length),(20,I x.1)]) (λx=>x.2) (λx=>x.1<=t.bR.length/\((x.1=0/\x.2=aT h nb (.row 1 [[.v (.sl 1 [] true)]]))∨∃ b N,N.length=x.1/\aDG h nb b sz N (List.replicate x.1 (x8 sz)) x.2)) (λx=>t.bR.length-x.1) (0,aT h nb (.row 1 [[.v (.sl 1 [] true)]])) ⟨by simp[cR,bZ],aB.le_refl _,eM _,.inl ⟨rfl,rfl⟩⟩ ?_
 rintro⟨k,g⟩ ⟨hk,hg⟩
 simp only at hk hg ⊢
 rcases bT k t.bR.length with hlt|hge
 ·have er:=hrg.get hlt
  have lr:=er.2.1
  rcases hg with⟨rfl,rfl⟩|⟨b,N,hN,H⟩
  ·simp -dsimp -implicitDefEqProofs only[go_sem,↓reduceIte,Tryz.f138,er.1,hrl,hlt,lr]
   refine λ_=>⟨by decide,bY _,by omega,by omega,λn ⟨n1,n2⟩=>?_⟩
   obtain⟨aBF,iL,iM,rF⟩:=cW (show ¬n=nb from n1)
   refine⟨by rw[aD _ _ _ _ rF,aI],by decide,by decide,by decide,λb ⟨b1,b2,b3⟩=>?_⟩
   obtain⟨mS,fW,fV,mT⟩:=cW (show ¬b=nb from b2)
   obtain⟨aHJ,m8,nA,aHK⟩:=cW (show ¬b=n from b1)
   simp -dsimp -implicitDefEqProofs only[go_sem,↓reduceIte,Tryz.f138,iL,nA,iM,fV,m8,fW,aD,aO,aPX]
   exact⟨(1,_),⟨hrl.symm,IntWalk.i64_in _ aA⟩,aB.le_refl _,⟨hlt,.inr ⟨b,[n],rfl,aDG.first hnb n1 n2 b1 b2 b3⟩⟩,by simp only;omega⟩
  ·have hb:=H.bk
   have hnb:=H.nbk
   simp -dsimp -implicitDefEqProofs only[go_sem,↓reduceIte,Tryz.f138,er.1,hrl,hlt,lr,hnb,hb]
   refine λ_=>⟨by decide,bY _,by omega,by omega,λn n2=>?_⟩
   obtain⟨f1,f2,f3,f4⟩:=H.free n2
   obtain⟨aBF,iL,iM,rF⟩:=cW (show ¬n=nb from f1)
   obtain⟨aHK,nA,m8,aHJ⟩:=cW (show ¬n=b from f2)
   refine⟨by rw[aD _ _ _ _ rF];exact hnb,by decide,by decide,by decide,?_⟩
   obtain⟨mS,fW,fV,mT⟩:=cW (show ¬b=nb from H.bn.2.2)
   simp -dsimp -implicitDefEqProofs only[go_sem,↓reduceIte,Tryz.f138,iL,nA,iM,fV,m8,fW,aD,hnb,hb]
   refine⟨bY _,by omega,by omega,λc ⟨c1,c2⟩=>?_⟩
   obtain⟨x1,x2,x3,x4⟩:=H.free c2
   obtain⟨bWF,bI9,bJA,bWG⟩:=cW (show ¬c=nb from x1)
   obtain⟨bPU,bF8,bF9,bPV⟩:=cW (show ¬c=b from x2)
   obtain⟨bZL,bPW,bPX,bZM⟩:=cW (show ¬c=n from c1)
   simp -dsimp -implicitDefEqProofs only[go_sem,↓reduceIte,Tryz.f138,iL,nA,bPX,iM,fV,bJA,m8,fW,bF9,bPW,bI9,bF8,aD,hnb,hb,aPX]
   rw[hJ eC]
   exact⟨(k+1,_),⟨hrl.symm,IntWalk.i64_in _ aA⟩,aB.le_refl _,⟨hlt,.inr ⟨c,N++[n],by rw[nT,hN];rfl,by rw[a4J];exact H.more n2 c1 c2⟩⟩,by simp only;omega⟩
 ·have hk':k=t.bR.length:=by omega
  subst hk'
  rcases hg with⟨h0,_⟩|⟨b,N,hN,H⟩
  ·omega
  simp -dsimp -implicitDefEqProofs only[go_sem,↓reduceIte,Tryz.f138,hrl,bV,cY]
  refine λ_=>?_
  clear hk hge
  have hsw:∀ k,k<=t.aU.length->c7 sz t.bR.length (rV t.aU ws (List.replicate t.bR.length (x8 sz)) k):=λk=>by
   induction k with
   |zero=>exact λ_=>hN▸H.ser
   |succ k ih =>
    intro hk
    have h1:=ih aA
    have hr:=ho (t.aU.getD k 0) a91
    have h2:=(h1.get (i:=(t.aU.getD k 0).toNat) aA).2
    refine h1.set ⟨by rw[p7];exact h2.1,λx hx=>?_⟩ _
    rcases s6 hx with hx|rfl
    ·exact h2.2 x hx
    ·exact dY _
  refine cM aIV aZ7 aZ8 (λx:Nat×aB=>[(1,bL rg),(2,ints ws),(3,.ip 4 [[I t.p6,gT 4 bG.c t.bR,gT 2 jA.c t.v9,ints t.aU]] 0 0),(7,.op nb 1 0 0),(32,ints t.aU),(33,I t.aU.length),(34,I x.1)]) (λx=>x.2) (λx=>x.1<=t.aU.length/\aDG h nb b sz N (rV t.aU ws (List.replicate t.bR.length (x8 sz)) x.1) x.2) (λx=>t.aU.length-x.1) (0,g) ⟨by simp[cR,bZ],aB.le_refl _,eM _,H⟩ ?_
  clear H g
  rintro⟨k,g⟩ ⟨hk,H⟩
  simp only at hk H ⊢
  have hb:=H.bk
  have aWD:=H.nbk
  rcases bT k t.aU.length with hlt|hge
  ·have eo:t.aU[k]?=some (t.aU.getD k 0):=bW hlt
   have ew:ws[k]?=some (ws.getD k 0):=bW aA
   have hr:=ho _ (s5 eo)
   have hsn:=hsw (k+1) hlt
   have hs0:=hsw k aA
   have hst:rV t.aU ws (List.replicate t.bR.length (x8 sz)) (k+1)=(rV t.aU ws (List.replicate t.bR.length (x8 sz)) k).set (t.aU.getD k 0).toNat (((rV t.aU ws (List.replicate t.bR.length (x8 sz)) k).getD (t.aU.getD k 0).toNat []).set 0 ((((rV t.aU ws (List.replicate t.bR.length (x8 sz)) k).getD (t.aU.getD k 0).toNat []).getD 0 0+ws.getD k 0)%1000003)):=rfl
   generalize hA1:rV t.aU ws (List.replicate t.bR.length (x8 sz)) (k+1)=A1 at *
   generalize rV t.aU ws (List.replicate t.bR.length (x8 sz)) k=A at *
   generalize t.aU.getD k 0=r at *
   have er:N[r.toNat]?=some (N[r.toNat]'aA):=fC aA
   generalize N[r.toNat]'aA=n at er
   have hgn:=H.get _ _ er
   have hq:=hs0.get (i:=r.toNat) aA
   have e0:(A.getD r.toNat [])[Int.toNat 0]?=some ((A.getD r.toNat []).getD 0 0):=bW (by rw[hq.2.1];exact hsz.1)
   have hout:=H.out n (s5 er)
   obtain⟨aBF,iL,iM,rF⟩:=cW (show ¬n=nb from hout.1)
   obtain⟨aHK,nA,m8,aHJ⟩:=cW (show ¬n=b from hout.2.1)
   obtain⟨mS,fW,fV,mT⟩:=cW (show ¬b=nb from H.bn.2.2)
   unfold mH at hgn
   simp -dsimp -implicitDefEqProofs only[go_sem,↓reduceIte,Tryz.f138,eo,ew,hlt,aWD,hb,er,hgn,e0,iL,nA,iM,fV,m8,fW,aD]
   have n1:=hq.2.2.get 0
   have n2:=hwn.get k
   refine⟨by omega,hr.1,by omega,hr.1,by omega,by omega,aH.mk (aPG _ _) ?_⟩
   simp -dsimp -implicitDefEqProofs only[go_sem,↓reduceIte,Tryz.f138,eo,ew,hlt,aWD,hb,er,hgn,e0,iL,nA,iM,fV,m8,fW,aD]
   have hrow:bU.row 1 ((((A.getD r.toNat []).map λn=>[I n]).map (List.map Cell.v)).set (Int.toNat 0) [Cell.v (I (((A.getD r.toNat []).getD 0 0+ws.getD k 0)%1000003))])=mH ((A.getD r.toNat []).set 0 (((A.getD r.toNat []).getD 0 0+ws.getD k 0)%1000003)):=by
    rw[show Int.toNat 0=0 from rfl,nL I];rfl
   have hset:=H.set er (s:=(A.getD r.toNat []).set 0 (((A.getD r.toNat []).getD 0 0+ws.getD k 0)%1000003)) ⟨by rw[p7];exact hq.2.1,λx hx=>by
    rcases s6 hx with hx|rfl
    ·exact hq.2.2 x hx
    ·exact dY _⟩
   rw[←hst]at hset
   refine⟨by omega,(k+1,_),IntWalk.i64_in _ aA,by rw[hrow];exact aB.le_refl _,⟨hlt,?_⟩,by simp only;omega⟩
   simp only[hA1]
   exact hset
  ·have hk':k=t.aU.length:=by omega
   subst hk'
   simp -dsimp -implicitDefEqProofs only[go_sem,↓reduceIte,Tryz.f138,bV,cY]
   refine λ_=>?_
   have hs0:=hsw _ (bY _)
   have hsl:=H.seal
   generalize rV t.aU ws (List.replicate t.bR.length (x8 sz)) t.aU.length=A0 at *
   clear hb aWD
   rw[hN]at hsl
   refine aGA aIV aZ7 aZ8 (λx:Nat=>[(1,bL rg),(3,.ip 4 [[I t.p6,gT 4 bG.c t.bR,gT 2 jA.c t.v9,ints t.aU]] 0 0),(7,.op nb 1 0 0),(12,I ((x:Int)-1))]) (λx=>aT (aT h nb (.row 1 [[.v (.os b 1 0 t.bR.length)]])) b (gH (nW t.bR rg A0 (t.bR.length-x) x))) (λx=>x<=t.bR.length) (λx=>x) t.bR.length ⟨?_,?_,bY _⟩ ?_
   ·have wl:IntKind.i64.wrap ((t.bR.length:Int)-1)=t.bR.length-1:=IntWalk.i64_in _ aA
    simp[cR,bZ,wl]
   ·rw[sP];exact hsl
   obtain⟨bn1,bn2,bn3⟩:=H.bn
   obtain⟨mS,fW,fV,mT⟩:=cW (show ¬b=nb from bn3)
   intro x hx
   cases x with
   |zero =>
    simp -dsimp -implicitDefEqProofs only[go_sem,↓reduceIte,Tryz.f138,fW,fV,aD]
    refine⟨λq=>absurd q aA,λ_=>?_⟩
    exact mI _ bn1 (by
     intro q_
     simp only[aO,a4B]
     by_cases e1:q_=b
     ·rw[if_pos e1,if_pos e1];exact .inr rfl
     ·rw[if_neg e1,if_neg e1]
      by_cases e2:q_=nb
      ·subst e2;exact .inl hnb
      ·rw[if_neg e2];exact .inr rfl) (rK hsz hins hrg hs0 t.bR.length 0 rfl).1.symm
   |succ y =>
    have hst:nW t.bR rg A0 (t.bR.length-y) y=j0 (t.bR.getD y ⟨0,0,0,0⟩) rg y (nW t.bR rg A0 (t.bR.length-(y+1)) (y+1)):=by
     rw[show t.bR.length-y=(t.bR.length-(y+1))+1 by omega,nW]
    have hA:=rK hsz hins hrg hs0 (t.bR.length-(y+1)) (y+1) aA
    generalize nW t.bR rg A0 (t.bR.length-(y+1)) (y+1)=A at *
    have ec:t.bR[y]?=some t.bR[y]:=fC aA
    have hin:=hins y _ ec
    rw[show t.bR.getD y ⟨0,0,0,0⟩=t.bR[y]by rw[e8,ec];rfl]at hst
    generalize t.bR[y]=c at *
    have eA:=hA.get (i:=y) aA
    have wy:((y+1:Nat):Int)-1=(y:Int):=by omega
    have wy2:IntKind.i64.wrap ((y:Int)-1)=(y:Int)-1:=IntWalk.i64_in _ aA
    rw[wy]
    simp -dsimp -implicitDefEqProofs only[go_sem,↓reduceIte,Tryz.f138,ec,gH,eA.1,fW,fV,aD,wy2,bG.aY]
    refine⟨by omega,by omega,λn ⟨n1,n2,n3⟩=>?_⟩
    obtain⟨aHK,nA,m8,aHJ⟩:=cW (show ¬n=b from n1)
    obtain⟨aBF,iL,iM,rF⟩:=cW (show ¬n=nb from n2)
    refine⟨⟨by rw[aD _ _ _ _ aHJ,aI],by rw[aD _ _ _ _ rF,aD _ _ _ _ mT,aI]⟩,⟨by rw[aD _ _ _ _ aHJ],by rw[aD _ _ _ _ rF]⟩,?_⟩
    simp only[aL]
    have hnext:∀ g:aB,(aT (aT h nb (.row 1 [[.v (.os b 1 0 t.bR.length)]])) b (gH (j0 c rg y A))).le g->∃ x':Nat,(y:Int)-1=(x':Int)-1/\(aT (aT h nb (.row 1 [[.v (.os b 1 0 t.bR.length)]])) b (gH (nW t.bR rg A0 (t.bR.length-x') x'))).wk g/\x'<=t.bR.length/\x'<y+1:=λg l=>⟨y,rfl,by rw[hst];exact aB.kH l,by omega,sR _⟩
    have a7C:∀ (X Y R Z:bU),(aT (aT h nb X) b Y).le (aT (aT (aT (aT h nb X) b Z) n R) b Y):=λX Y R Z q_=>by
     by_cases e1:q_=b
     ·rw[e1,aI,aI];exact .inr rfl
     rw[aD _ _ _ _ e1,aD _ _ _ _ e1]
     by_cases e2:q_=n
     ·rw[e2,aD _ _ _ _ n2];exact .inl n3
     ·rw[aD _ _ _ _ e2,aD _ _ _ _ e1];exact .inr rfl
    have bPY:∀ (X Y R:bU),(aT (aT h nb X) b Y).le (aT (aT (aT h nb X) b Y) n R):=λX Y R=>aB.bM (by rw[aD _ _ _ _ n1,aD _ _ _ _ n2];exact n3) (aB.le_refl _)
    have hown:=eA.2
    have gnb:∀ (X Y R:bU),(aT (aT (aT h nb X) b Y) n R) nb=some X:=λX Y R=>by rw[aD _ _ _ _ rF,aD _ _ _ _ mT,aI]
    have bCF:∀ (X Y R W:bU),(aT (aT (aT (aT h nb X) b Y) n R) b W) nb=some X:=λX Y R W=>by rw[aD _ _ _ _ mT,aD _ _ _ _ rF,aD _ _ _ _ mT,aI]
    have gb1:∀ (X Y R:bU),(aT (aT (aT h nb X) b Y) n R) b=some Y:=λX Y R=>by rw[aD _ _ _ _ aHJ,aI]
    rcases(show c.gB=1∨c.gB=2∨c.gB=3∨c.gB=4∨c.gB=5∨c.gB=6∨c.gB=7 by unfold bN at hin;omega)with h1|h1|h1|h1|h1|h1|h1
    ·simp -dsimp -implicitDefEqProofs only[go_sem,↓reduceIte,Tryz.f138,h1]
     refine hnext _ ?_
     rw[j0,if_neg aA,if_neg aA,if_neg aA,if_neg aA,if_neg aA]
     exact bPY _ _ _
    ·simp -dsimp -implicitDefEqProofs only[go_sem,↓reduceIte,Tryz.f138,h1]
     refine hnext _ ?_
     rw[j0,if_neg aA,if_neg aA,if_neg aA,if_neg aA,if_neg aA]
     exact bPY _ _ _
    ·have i0:(0<=c.fA/\c.fA<y)/\0<=c.fB/\c.fB<y:=by unfold bN at hin;omega
     have era:=hrg.get (i:=c.fA.toNat) aA
     have erb:=hrg.get (i:=c.fB.toNat) aA
     have ery:=hrg.get (i:=y) aA
     simp -dsimp -implicitDefEqProofs only[go_sem,↓reduceIte,Tryz.f138,h1]
     refine aH.fX (aPW hsz hA (r:=c.fA) ⟨i0.1.1,by omega⟩ hown (gnb _ _ _) (gb1 _ _ _)) ?_
     rintro r_ h' rfl
     simp -dsimp -implicitDefEqProofs only[go_sem,↓reduceIte,Tryz.f138,h1,nA,iL,m8,fW,iM,fV,aD]
     refine aH.fX (aPW hsz (hA.put (r:=c.fA) aA hown) (r:=c.fB) ⟨i0.2.1,by omega⟩ hown (bCF _ _ _ _) (aI _ _ _)) ?_
     rintro r_ h' rfl
     rw[aL]
     simp -dsimp -implicitDefEqProofs only[go_sem,↓reduceIte,Tryz.f138,wy2]
     refine hnext _ ?_
     rw[j0,if_pos h1]
     exact a7C _ _ _ _
    ·have i0:(0<=c.fA/\c.fA<y)/\0<=c.fB/\c.fB<y:=by unfold bN at hin;omega
     have era:=hrg.get (i:=c.fA.toNat) aA
     have erb:=hrg.get (i:=c.fB.toNat) aA
     have ery:=hrg.get (i:=y) aA
     simp -dsimp -implicitDefEqProofs only[go_sem,↓reduceIte,Tryz.f138,h1]
     refine aH.fX (aPW hsz hA (r:=c.fA) ⟨i0.1.1,by omega⟩ hown (gnb _ _ _) (gb1 _ _ _)) ?_
     rintro r_ h' rfl
     simp -dsimp -implicitDefEqProofs only[go_sem,↓reduceIte,Tryz.f138,h1,nA,iL,m8,fW,iM,fV,aD]
     refine aH.mk (scaled _ 1000002 nO aM3 hown.2) ?_
     simp -dsimp -implicitDefEqProofs only[go_sem,↓reduceIte,Tryz.f138,h1,nA,iL,m8,fW,iM,fV,aD]
     refine aH.fX (aPW hsz (hA.put (r:=c.fA) aA hown) (r:=c.fB) ⟨i0.2.1,by omega⟩ (dM _ hown) (bCF _ _ _ _) (aI _ _ _)) ?_
     rintro r_ h' rfl
     rw[aL]
     simp -dsimp -implicitDefEqProofs only[go_sem,↓reduceIte,Tryz.f138,wy2]
     refine hnext _ ?_
     rw[j0,if_neg aA,if_pos h1]
     exact a7C _ _ _ _
    ·have i0:(0<=c.fA/\c.fA<y)/\0<=c.fB/\c.fB<y:=by unfold bN at hin;omega
     have era:=hrg.get (i:=c.fA.toNat) aA
     have erb:=hrg.get (i:=c.fB.toNat) aA
     have ery:=hrg.get (i:=y) aA
     simp -dsimp -implicitDefEqProofs only[go_sem,↓reduceIte,Tryz.f138,h1,era.1,erb.1,hrl]
     simp only[aL]
     refine⟨i0.2.1,by omega,aH.mk (product _ _ (by rw[erb.2.1,hown.1]) aM3 hown.2 erb.2.2) ?_⟩
     simp -dsimp -implicitDefEqProofs only[go_sem,↓reduceIte,Tryz.f138,h1]
     refine aH.fX (aPW hsz hA (r:=c.fA) ⟨i0.1.1,by omega⟩ (cF _ hown) (gnb _ _ _) (gb1 _ _ _)) ?_
     rintro r_ h' rfl
     simp -dsimp -implicitDefEqProofs only[go_sem,↓reduceIte,Tryz.f138,h1,nA,iL,m8,fW,iM,fV,aD,era.1,hrl]
     refine⟨i0.1.1,by omega,aH.mk (product _ _ (by rw[era.2.1,hown.1]) aM3 hown.2 era.2.2) ?_⟩
     simp -dsimp -implicitDefEqProofs only[go_sem,↓reduceIte,Tryz.f138,h1,nA,iL,m8,fW,iM,fV,aD]
     refine aH.fX (aPW hsz (hA.put (r:=c.fA) aA (cF _ hown)) (r:=c.fB) ⟨i0.2.1,by omega⟩ (cF _ hown) (bCF _ _ _ _) (aI _ _ _)) ?_
     rintro r_ h' rfl
     rw[aL]
     simp -dsimp -implicitDefEqProofs only[go_sem,↓reduceIte,Tryz.f138,wy2]
     refine hnext _ ?_
     rw[j0,if_neg aA,if_neg aA,if_pos h1]
     exact a7C _ _ _ _
    ·have i0:(0<=c.fA/\c.fA<y)/\0<=c.fB/\c.fB<y:=by unfold bN at hin;omega
     have era:=hrg.get (i:=c.fA.toNat) aA
     have erb:=hrg.get (i:=c.fB.toNat) aA
     have ery:=hrg.get (i:=y) aA
     simp -dsimp -implicitDefEqProofs only[go_sem,↓reduceIte,Tryz.f138,h1,era.1,erb.1,hrl]
     simp only[aL]
     have hpart:=k8 (rg.getD c.fB.toNat []) hown
     refine⟨i0.2.1,by omega,aH.mk (quotient _ _ (by rw[erb.2.1,hown.1]) aM3 aM3 hown.2 erb.2.2) ?_⟩
     simp -dsimp -implicitDefEqProofs only[go_sem,↓reduceIte,Tryz.f138,h1]
     refine aH.fX (aPW hsz hA (r:=c.fA) ⟨i0.1.1,by omega⟩ hpart (gnb _ _ _) (gb1 _ _ _)) ?_
     rintro r_ h' rfl
     simp -dsimp -implicitDefEqProofs only[go_sem,↓reduceIte,Tryz.f138,h1,nA,iL,m8,fW,iM,fV,aD,ery.1,hrl]
     refine⟨by omega,aH.mk (product _ _ (by rw[ery.2.1,hpart.1]) (by rw[hpart.1];omega) hpart.2 ery.2.2) ?_⟩
     simp -dsimp -implicitDefEqProofs only[go_sem,↓reduceIte,Tryz.f138,h1,nA,iL,m8,fW,iM,fV,aD]
     refine aH.mk (scaled _ 1000002 nO (by rw[(cF _ hpart).1];omega) (cF _ hpart).2) ?_
     simp -dsimp -implicitDefEqProofs only[go_sem,↓reduceIte,Tryz.f138,h1,nA,iL,m8,fW,iM,fV,aD]
     refine aH.fX (aPW hsz (hA.put (r:=c.fA) aA hpart) (r:=c.fB) ⟨i0.2.1,by omega⟩ (dM _ (cF _ hpart)) (bCF _ _ _ _) (aI _ _ _)) ?_
     rintro r_ h' rfl
     rw[aL]
     simp -dsimp -implicitDefEqProofs only[go_sem,↓reduceIte,Tryz.f138,wy2]
     refine hnext _ ?_
     rw[j0,if_neg aA,if_neg aA,if_neg aA,if_pos h1]
     exact a7C _ _ _ _
    ·have i0:0<=c.fA/\c.fA<y:=by unfold bN at hin;omega
     simp -dsimp -implicitDefEqProofs only[go_sem,↓reduceIte,Tryz.f138,h1]
     refine aH.mk (scaled _ 1000002 nO aM3 hown.2) ?_
     simp -dsimp -implicitDefEqProofs only[go_sem,↓reduceIte,Tryz.f138,h1,nA,iL,m8,fW,iM,fV,aD]
     refine aH.fX (aPW hsz hA (r:=c.fA) ⟨i0.1,by omega⟩ (dM _ hown) (gnb _ _ _) (gb1 _ _ _)) ?_
     rintro r_ h' rfl
     simp -dsimp -implicitDefEqProofs only[go_sem,↓reduceIte,Tryz.f138,wy2]
     refine hnext _ ?_
     rw[j0,if_neg aA,if_neg aA,if_neg aA,if_neg aA,if_pos h1]
     exact a7C _ _ _ _
def byK (code:List bG) (L:List (List Int)) (sz inp:Nat):Nat->List (List Int)
 |0=>List.replicate inp (x8 sz)
 |k+1=>if (code.getD k ⟨0,0,0,0⟩).gB=1 then(byK code L sz inp k).set (code.getD k ⟨0,0,0,0⟩).bA.toNat (iA ((byK code L sz inp k).getD (code.getD k ⟨0,0,0,0⟩).bA.toNat []) (L.getD k []))else byK code L sz inp k
theorem zE {sz:Nat} {code:List bG} {inp:Nat} (hins:∀ i c,code[i]?=some c->bN inp i c) {L:List (List Int)} (hL:c7 sz code.length L):∀ k,k<=code.length->c7 sz inp (byK code L sz inp k)
 |0,_=>⟨by simp[byK],λs hs=>by rw[(aGW.1 hs).2];exact aDH sz⟩
 |k+1,h=>by
  have ih:=zE hins hL k aA
  have ec:code[k]?=some code[k]:=fC aA
  have hc:=hins k _ ec
  rw[byK,show code.getD k ⟨0,0,0,0⟩=code[k]by rw[e8,ec];rfl]
  split
  ·rename_i h1
   unfold bN at hc
   exact ih.set (lL (ih.get aA).2 (hL.get aA).2) _
  ·exact ih
@[go_sem] def aPY:List Nat:=[0,1,2,4,5,6,7,8,12,18,19,20,28,29,30,31,37]
@[go_sem] def a7D:List Nat:=[2,24]
@[go_sem] def a7E:Marks:=λid=>match id with|12=>([2,5,7,14],(.op 0 (.op 1 (.op 3 (.op 4 (.op 8 (.op 9 (.op 10 (.op 11 (.op 2 (.op 5 (.op 6 (.op 7 (.op 12 (.op 13 (.op 14 .nil))))))))))))))),[])|_=>([],.nil,[])
set_option maxHeartbeats 4000000 in
theorem a7F (t:rI) {sz inp:Nat} (hsz:1<=sz/\sz<=1048576) (hinp:t.p6=inp) (b1E:inp<=12) (hins:∀ i c,t.bR[i]?=some c->bN inp i c) (hcl:1<=t.bR.length/\t.bR.length<=3200) (L:List (List Int)) (hL:c7 sz t.bR.length L) :
  fR Tryz.prog 104 [.agg t.c,bL L] (bL (byK t.bR L sz inp t.bR.length)):=by
 rw[rI.aY,hinp]
 have e0:=hL.get (i:=0) aA
 have ll:=hL.1
 have e00:L[Int.toNat 0]?=some (L.getD 0 []):=e0.1
 have l0:=e0.2.1
 refine mP 54 aPY a7D a7E Tryz.func104 λh=>?_
 simp -dsimp -implicitDefEqProofs only[go_sem,↓reduceIte,Tryz.f104,e00,ll,l0]
 refine⟨by decide,λb0 hb0 _=>⟨λ_=>⟨by omega,λ_=>?_⟩,λq=>absurd aA q⟩⟩
 refine aGA aPY a7D a7E (λx:Nat×Nat=>[(1,bL L),(2,.ip 4 [[I inp,gT 4 bG.c t.bR,gT 2 jA.c t.v9,ints t.aU]] 0 0),(5,.os x.2 1 0 x.1),(6,I sz),(18,I inp),(19,I x.1)]) (λx=>aT h x.2 (gH (List.replicate x.1 (x8 sz)))) (λx=>x.1<=inp/\h x.2=none) (λx=>inp-x.1) (0,b0) ⟨by simp[cR,bZ],aB.kH (aB.le_refl _),eM _,hb0⟩ ?_
 rintro⟨k,b⟩ ⟨hk,hb⟩
 simp only at hk hb ⊢
 rcases bT k inp with hlt|hge
 ·simp -dsimp -implicitDefEqProofs only[go_sem,↓reduceIte,Tryz.f104,hlt,gH,aFR]
  refine⟨by decide,bY _,by omega,by omega,λm ⟨m1,m2⟩=>?_⟩
  obtain⟨rD,lN,lM,rZ⟩:=cW (show ¬m=b from m1)
  refine⟨by decide,by decide,by decide,?_⟩
  simp -dsimp -implicitDefEqProofs only[go_sem,↓reduceIte,Tryz.f104,lN,lM,aD]
  rw[aFR]
  refine⟨bY _,by omega,by omega,λc ⟨c1,c2,c3⟩=>?_⟩
  obtain⟨bP0,bZN,bZO,bP1⟩:=cW (show ¬c=m from c1)
  obtain⟨bPU,bF8,bF9,bPV⟩:=cW (show ¬c=b from c2)
  have hzl:(x8 sz).length=sz:=(aDH sz).1
  refine⟨(k+1,c),⟨rfl,IntWalk.i64_in _ aA⟩,?_,⟨hlt,c3⟩,by simp only;omega⟩
  refine aIQ (m:=m) (b:=c) (List.replicate k (x8 sz)) (x8 sz) ?_ ?_ bP0 ?_
  ·rw[aD _ _ _ _ bP1,aD _ _ _ _ rD,aI];exact congrArg some (aPX sz)
  ·rw[aI,hJ eC,hzl]
  ·rw[a4J]
   intro q_
   by_cases e1:q_=c
   ·rw[e1,aI,aI];exact .inr rfl
   rw[aD _ _ _ _ e1,aD _ _ _ _ e1]
   by_cases e2:q_=m
   ·rw[e2];exact .inl m2
   by_cases e3:q_=b
   ·rw[e3];exact .inl hb
   rw[aD _ _ _ _ e2,aD _ _ _ _ e1,aD _ _ _ _ e3,aD _ _ _ _ e2,aD _ _ _ _ e3];exact .inr rfl
 ·have hk':k=inp:=by omega
  subst hk'
  simp -dsimp -implicitDefEqProofs only[go_sem,↓reduceIte,Tryz.f104,cY,bV]
  refine λ_=>?_
  refine cM aPY a7D a7E (λx:Nat=>[(1,bL L),(5,.os b 1 0 k),(28,gT 4 bG.c t.bR),(29,I t.bR.length),(30,I x)]) (λx=>aT h b (gH (byK t.bR L sz k x))) (λx=>x<=t.bR.length) (λx=>t.bR.length-x) 0 ⟨by simp[cR,bZ],aB.le_refl _,eM _⟩ ?_
  intro x hx
  have hB:=zE hins hL x hx
  rcases bT x t.bR.length with hlt|aBC
  ·have ec:t.bR[x]?=some t.bR[x]:=fC hlt
   have hc:=hins x _ ec
   have hst:byK t.bR L sz k (x+1)=if t.bR[x].gB=1 then(byK t.bR L sz k x).set t.bR[x].bA.toNat (iA ((byK t.bR L sz k x).getD t.bR[x].bA.toNat []) (L.getD x []))else byK t.bR L sz k x:=by
    rw[byK,show t.bR.getD x ⟨0,0,0,0⟩=t.bR[x]by rw[e8,ec];rfl]
   generalize byK t.bR L sz k x=A at *
   generalize t.bR[x]=c at *
   have eL:=hL.get hlt
   simp -dsimp -implicitDefEqProofs only[go_sem,↓reduceIte,Tryz.f104,hlt,ec,bG.aY]
   refine λn ⟨n1,n2⟩=>?_
   obtain⟨aHK,nA,m8,aHJ⟩:=cW (show ¬n=b from n1)
   simp only[aL]
   refine⟨λh1=>?_,λh1=>⟨x+1,IntWalk.i64_in _ aA,?_,hlt,by omega⟩⟩
   ·have hn:0<=c.bA/\c.bA<k:=by unfold bN at hc;omega
    have eA:=hB.get (i:=c.bA.toNat) aA
    have hcall:=aCP (added (A.getD c.bA.toNat []) (L.getD x []) (by rw[eL.2.1,eA.2.1]) (by rw[eA.2.1];omega) (sM eA.2.2) (sM eL.2.2))
    simp -dsimp -implicitDefEqProofs only[go_sem,↓reduceIte,Tryz.f104,gH,nA,m8,aD,eA.1,eL.1,ll]
    refine⟨hlt,hn.1,hn.2,aG.mk hcall ?_⟩
    simp -dsimp -implicitDefEqProofs only[go_sem,↓reduceIte,Tryz.f104,gH,nA,m8,aD,eA.1,eL.1,ll]
    refine⟨hn.1,hn.2,x+1,IntWalk.i64_in _ aA,?_,hlt,by omega⟩
    rw[hst,if_pos h1]
    have hr:=aGK A c.bA.toNat (iA (A.getD c.bA.toNat []) (L.getD x []))
    intro q_
    by_cases e1:q_=b
    ·rw[e1,aI,aI];exact .inr (congrArg some hr.symm)
    rw[aD _ _ _ _ e1,aD _ _ _ _ e1]
    by_cases e2:q_=n
    ·rw[e2];exact .inl n2
    rw[aD _ _ _ _ e2,aD _ _ _ _ e2,aD _ _ _ _ e1];exact .inr rfl
   ·rw[hst,if_neg h1]
    exact aB.bM (by rw[aD _ _ _ _ n1];exact n2) (aB.le_refl _)
  ·have hx':x=t.bR.length:=by omega
   subst hx'
   simp -dsimp -implicitDefEqProofs only[go_sem,↓reduceIte,Tryz.f104,cY,bV]
   exact mI _ hb (aB.le_refl _) hB.1.symm
theorem vB {sz n:Nat} (hsz:1<=sz) {outs ws:List Int} (ho:∀ r∈outs,0<=r/\r<n) (hwn:eI ws):∀ k,k<=outs.length->c7 sz n (rV outs ws (List.replicate n (x8 sz)) k)
 |0,_=>⟨by simp[rV],λs hs=>by rw[(aGW.1 hs).2];exact aDH sz⟩
 |k+1,hk=>by
  have h1:=vB hsz ho hwn k aA
  have hr:=ho (outs.getD k 0) a91
  have h2:=(h1.get (i:=(outs.getD k 0).toNat) aA).2
  refine h1.set ⟨by rw[p7];exact h2.1,λx hx=>?_⟩ _
  rcases s6 hx with hx|rfl
  ·exact h2.2 x hx
  ·exact dY _
@[go_sem] def bS3:List Nat:=[0,1,2,3,4,8,9,24]
@[go_sem] def bZP:List Nat:=[4,13]
@[go_sem] def bS4:List Nat:=[0,1,2,3,4,8,9,10,11,12,19,30]
@[go_sem] def bZQ:Marks:=λid=>match id with|4=>([3,4],(.op 0 (.op 1 (.op 2 (.op 3 (.op 4 (.op 5 (.op 6 (.op 7 (.op 8 (.op 9 .nil)))))))))),[])|_=>([],.nil,[])
@[go_sem] def bWH:List Nat:=[0,1,2,3,6,7,8,9,19]
def Cg (x y:Int):Prop:=∃ q:Int,x=y+1000003*q
theorem Cg.refl (x:Int):Cg x x:=⟨0,by omega⟩
theorem Cg.symm {x y:Int} (h:Cg x y):Cg y x:=by obtain⟨q,h⟩:=h;exact⟨-q,by omega⟩
theorem Cg.trans {x y z:Int} (h:Cg x y) (k:Cg y z):Cg x z:=by obtain⟨q,h⟩:=h;obtain⟨r,k⟩:=k;exact⟨q+r,by omega⟩
theorem Cg.add {a b c d:Int} (h:Cg a b) (k:Cg c d):Cg (a+c) (b+d):=by obtain⟨q,h⟩:=h;obtain⟨r,k⟩:=k;exact⟨q+r,by omega⟩
theorem Cg.mul {a b c d:Int} (h:Cg a b) (k:Cg c d):Cg (a*c) (b*d):=by
 obtain⟨q,rfl⟩:=h;obtain⟨r,rfl⟩:=k;exact⟨q*d+b*r+1000003*q*r,by grind⟩
theorem Cg.mod (x:Int):Cg (x%1000003) x:=⟨-(x / 1000003),by omega⟩
theorem Cg.of_eq {x y:Int} (h:x=y):Cg x y:=h▸Cg.refl x
theorem Cg.num {x y:Int} (h:Cg x y) (hx:iE x) (hy:iE y):x=y:=by
 obtain⟨q,h⟩:=h
 unfold iE at hx hy
 omega
theorem Cg.neg (x:Int):Cg (x*1000002%1000003) (-x):=(Cg.mod _).trans ⟨x,by omega⟩
def rL (A:List (List Int)) (k:Nat):Int:=(A.getD k []).getD 0 0
def qQ (a d:Nat->Int):Nat->Int
 |0=>0
 |m+1=>qQ a d m+a m*d m
theorem aNT {a a' d:Nat->Int}:∀ m,(∀ k,k<m->a' k=a k)->qQ a' d m=qQ a d m
 |0,_=>rfl
 |m+1,h=>by rw[qQ,qQ,aNT m λk hk=>h k aA,h m aA]
theorem aPZ {a a' d:Nat->Int} {r:Nat} {s:Int} (h:∀ k,¬k=r->a' k=a k) (hr:Cg (a' r) (a r+s)):∀ m,r<m->Cg (qQ a' d m) (qQ a d m+s*d r)
 |0,q=>by omega
 |m+1,q=>by
  rw[qQ,qQ]
  by_cases e:m=r
  ·subst e
   rw[aNT m λk hk=>h k aA]
   exact((Cg.refl _).add (hr.mul (Cg.refl _))).trans (Cg.of_eq xD)
  ·rw[h m e]
   exact((aPZ h hr m aA).add (Cg.refl _)).trans (Cg.of_eq xD)
theorem aH0 {s:List Int} (h:aW 2 s):∃ x y,s=[x,y]:=by
 match s,h.1 with
 | [x,y],_=>exact⟨x,y,rfl⟩
theorem a7G {s t:List Int} (hs:aW 2 s) (ht:aW 2 t):Cg ((iA s t).getD 0 0) (s.getD 0 0+t.getD 0 0):=by
 obtain⟨x,y,rfl⟩:=aH0 hs;obtain⟨z,w,rfl⟩:=aH0 ht;exact Cg.mod _
theorem aWE {s:List Int} (hs:aW 2 s):Cg ((eJ s 1000002).getD 0 0) (-(s.getD 0 0)):=by
 obtain⟨x,y,rfl⟩:=aH0 hs;exact Cg.neg x
theorem aWF {s t:List Int} (hs:aW 2 s):Cg ((mulL s t).getD 0 0) (s.getD 0 0*t.getD 0 0):=by
 obtain⟨x,y,rfl⟩:=aH0 hs
 obtain⟨u,e⟩:=aBT x [y] t
 rw[e];exact Cg.mod _
theorem bJB {s t:List Int} (hs:aW 2 s):Cg ((gG s t).getD 0 0) (s.getD 0 0*gJ (t.getD 0 0)):=by
 obtain⟨x,y,rfl⟩:=aH0 hs
 obtain⟨u,e⟩:=xO x [y] t 1
 rw[gG,show([x,y]:List Int).length=1+1 from rfl,e];exact Cg.mod _
theorem a7H {s t:List Int} (hs:aW 2 s) (ht:aW 2 t):Cg ((iA s t).getD 1 0) (s.getD 1 0+t.getD 1 0):=by
 obtain⟨x,y,rfl⟩:=aH0 hs;obtain⟨z,w,rfl⟩:=aH0 ht;exact Cg.mod _
theorem a7I {s:List Int} (hs:aW 2 s):Cg ((eJ s 1000002).getD 1 0) (-(s.getD 1 0)):=by
 obtain⟨x,y,rfl⟩:=aH0 hs;exact Cg.neg y
theorem bJC {s t:List Int} (hs:aW 2 s) (ht:aW 2 t):Cg ((kD s t).getD 1 0) (s.getD 1 0-t.getD 1 0) :=
 (a7H hs (dM _ ht)).trans (((Cg.refl _).add (a7I ht)).trans (Cg.of_eq aA))
theorem bJD {s t:List Int} (hs:aW 2 s) (ht:aW 2 t):Cg ((mulL s t).getD 1 0) (s.getD 0 0*t.getD 1 0+s.getD 1 0*t.getD 0 0):=by
 obtain⟨x,y,rfl⟩:=aH0 hs;obtain⟨z,w,rfl⟩:=aH0 ht
 show Cg (((0+x*w)%1000003+y*z)%1000003) (x*w+y*z)
 exact(Cg.mod _).trans (((Cg.mod _).add (Cg.refl _)).trans (Cg.of_eq aA))
theorem bJE {s t:List Int} (hs:aW 2 s) (ht:aW 2 t):Cg ((gG s t).getD 1 0) ((s.getD 1 0-(gG s t).getD 0 0*t.getD 1 0)*gJ (t.getD 0 0)):=by
 obtain⟨x,y,rfl⟩:=aH0 hs;obtain⟨z,w,rfl⟩:=aH0 ht
 show Cg ((y-(gG [x,y] [z,w]).getD 0 0*w)%1000003*gJ z%1000003) ((y-(gG [x,y] [z,w]).getD 0 0*w)*gJ z)
 exact(Cg.mod _).trans ((Cg.mod _).mul (Cg.refl _))
theorem aZ9 {n:Nat} {A:List (List Int)} (hA:c7 2 n A) {r:Int} (hr:r.toNat<n) {s:List Int} (hs:aW 2 s):(∀ k,¬k=r.toNat->rL (qC r s A) k=rL A k)/\Cg (rL (qC r s A) r.toNat) (rL A r.toNat+s.getD 0 0):=by
 refine⟨λk hk=>?_,?_⟩
 ·rw[rL,rL,qC,e8 (l:=A.set _ _),mG (iK hk),←e8]
 ·rw[rL,qC,e8 (l:=A.set _ _),nH (by rw[hA.1];exact hr)]
  exact a7G (hA.get hr).2 hs
theorem aP0 {n:Nat} {A:List (List Int)} (hA:c7 2 n A) {r:Int} {s:List Int} (hs:aW 2 s) {d:Nat->Int} {m:Nat} (hr:r.toNat<m) (hm:m<=n):Cg (qQ (rL (qC r s A)) d m) (qQ (rL A) d m+s.getD 0 0*d r.toNat) :=
 aPZ (aZ9 hA aA hs).1 (aZ9 hA aA hs).2 m hr
theorem aLE {S T own D1 e1 xa e2 xb:Int} (hB:Cg T (S+e1*xa+e2*xb)) (h:Cg (own*D1) (e1*xa+e2*xb)):Cg (S+own*D1) (T+0) :=
 ((Cg.refl S).add h).trans ((Cg.of_eq aA).trans (hB.symm.trans (Cg.of_eq aA)))
theorem sw7 {S T own D1 e1 xa:Int} (hB:Cg T (S+e1*xa)) (hd:Cg D1 (-xa)) (he:Cg e1 (-own)):Cg (S+own*D1) (T+0) :=
 aLE (e1:=e1) (xa:=xa) (e2:=0) (xb:=0) (hB.trans (Cg.of_eq aA)) (((Cg.refl own).mul hd).trans ((Cg.of_eq xD).trans ((he.mul (Cg.refl xa)).symm.trans (Cg.of_eq aA))))
theorem sw3 {S T own D1 xa xb:Int} (hB:Cg T (S+own*xa+own*xb)) (hd:Cg D1 (xa+xb)):Cg (S+own*D1) (T+0) :=
 aLE hB (((Cg.refl own).mul hd).trans (Cg.of_eq xD))
theorem sw4 {S T own D1 e2 xa xb:Int} (hB:Cg T (S+own*xa+e2*xb)) (hd:Cg D1 (xa-xb)) (he:Cg e2 (-own)):Cg (S+own*D1) (T+0) :=
 aLE hB (((Cg.refl own).mul hd).trans ((Cg.of_eq xD).trans ((Cg.refl (own*xa)).add (he.mul (Cg.refl xb)).symm)))
theorem sw5 {S T own D1 e1 e2 xa xb va vb:Int} (hB:Cg T (S+e1*xa+e2*xb)) (hd:Cg D1 (va*xb+xa*vb)) (h1:Cg e1 (own*vb)) (h2:Cg e2 (own*va)):Cg (S+own*D1) (T+0) :=
 aLE hB (((Cg.refl own).mul hd).trans ((Cg.of_eq xD).trans ((h1.mul (Cg.refl xa)).add (h2.mul (Cg.refl xb))).symm))
theorem sw6 {S T own D1 e1 e2 xa xb q iv:Int} (hB:Cg T (S+e1*xa+e2*xb)) (hd:Cg D1 ((xa-q*xb)*iv)) (h1:Cg e1 (own*iv)) (h2:Cg e2 (-(own*iv*q))):Cg (S+own*D1) (T+0) :=
 aLE hB (((Cg.refl own).mul hd).trans ((Cg.of_eq xD).trans ((h1.mul (Cg.refl xa)).add (h2.mul (Cg.refl xb))).symm))
theorem sH {x y:Int} (h:Cg x y):Cg (-x) (-y):=by obtain⟨q,h⟩:=h;exact⟨-q,by omega⟩
theorem aWG {n y:Nat} (hy:y<n) {c:bG} {inp:Int} (hc:bN inp y c) {rg:List (List Int)} (hrg:c7 2 n rg) {A:List (List Int)} (hA:c7 2 n A) {D:Nat->List Int} (hD:∀ k,k<n->aW 2 (D k)) (hv:∀ k,k<n->(D k).getD 0 0=rL rg k)
  (h2:c.gB=2->(D y).getD 1 0=0) (hop:3<=c.gB->D y=opW c.gB (D c.fA.toNat) (D c.fB.toNat)) :
  Cg (qQ (rL A) (λk=>(D k).getD 1 0) y+rL A y*(D y).getD 1 0) (qQ (rL (j0 c rg y A)) (λk=>(D k).getD 1 0) y+if c.gB=1 then rL A y*(D y).getD 1 0 else 0):=by
 have h0:=(hA.get hy).2
 have hc':=hc
 unfold bN at hc
 have dy:=hD y hy
 by_cases e1:c.gB=1
 ·rw[if_pos e1,j0,if_neg aA,if_neg aA,if_neg aA,if_neg aA,if_neg aA];exact Cg.refl _
 rw[if_neg e1]
 by_cases e2:c.gB=2
 ·rw[h2 e2,j0,if_neg aA,if_neg aA,if_neg aA,if_neg aA,if_neg aA]
  exact Cg.of_eq aA
 have hop:=hop aA
 have ia:0<=c.fA/\c.fA<y:=by omega
 have da:=hD c.fA.toNat aA
 have va:=hv c.fA.toNat aA
 have two:3<=c.gB->¬c.gB=7->∀ s1 s2,aW 2 s1->aW 2 s2->Cg (qQ (rL (qC c.fB s2 (qC c.fA s1 A))) (λk=>(D k).getD 1 0) y) (qQ (rL A) (λk=>(D k).getD 1 0) y+s1.getD 0 0*(D c.fA.toNat).getD 1 0+s2.getD 0 0*(D c.fB.toNat).getD 1 0):=λq q2 s1 s2 z1 z2 =>
  (aP0 (hA.put aA z1) z2 (d:=λk=>(D k).getD 1 0) (m:=y) aA aA).trans ((aP0 hA z1 (d:=λk=>(D k).getD 1 0) (m:=y) aA aA).add (Cg.refl _))
 have one:∀ s1,aW 2 s1->Cg (qQ (rL (qC c.fA s1 A)) (λk=>(D k).getD 1 0) y) (qQ (rL A) (λk=>(D k).getD 1 0) y+s1.getD 0 0*(D c.fA.toNat).getD 1 0):=λs1 z1=>aP0 hA z1 (d:=λk=>(D k).getD 1 0) (m:=y) aA aA
 by_cases e7:c.gB=7
 ·rw[j0,if_neg aA,if_neg aA,if_neg aA,if_neg aA,if_pos e7]
  rw[e7]at hop
  exact sw7 (one _ (dM 1000002 h0)) (by rw[hop];exact a7I da) (aWE h0)
 have ib:0<=c.fB/\c.fB<y:=by omega
 have db:=hD c.fB.toNat aA
 have vb:=hv c.fB.toNat aA
 have two:=two aA e7
 by_cases e3:c.gB=3
 ·rw[j0,if_pos e3]
  rw[e3]at hop
  exact sw3 (two _ _ h0 h0) (by rw[hop];exact a7H da db)
 by_cases e4:c.gB=4
 ·rw[j0,if_neg e3,if_pos e4]
  rw[e4]at hop
  exact sw4 (two _ _ h0 (dM 1000002 h0)) (by rw[hop];exact bJC da db) (aWE h0)
 by_cases e5:c.gB=5
 ·rw[j0,if_neg e3,if_neg e4,if_pos e5]
  rw[e5]at hop
  exact sw5 (va:=rL rg c.fA.toNat) (vb:=rL rg c.fB.toNat) (two _ _ (cF _ h0) (cF _ h0)) (by rw[hop,←va,←vb];exact bJD da db) (aWF h0) (aWF h0)
 ·have e6:c.gB=6:=by omega
  rw[j0,if_neg e3,if_neg e4,if_neg e5,if_pos e6]
  rw[e6]at hop
  have vy:=hv y hy
  have hp:=k8 (rg.getD c.fB.toNat []) h0
  have hq1:Cg ((gG (A.getD y []) (rg.getD c.fB.toNat [])).getD 0 0) ((A.getD y []).getD 0 0*gJ (rL rg c.fB.toNat)):=bJB h0
  exact sw6 (q:=rL rg y) (iv:=gJ (rL rg c.fB.toNat)) (two _ _ hp (dM 1000002 (cF _ hp))) (by rw[←vy,←vb,hop];exact bJE da db) hq1
   ((aWE (cF _ hp)).trans (sH ((aWF (t:=rg.getD y []) hp).trans (hq1.mul (Cg.refl (rL rg y))))))
theorem a26 {n y k:Nat} {c:bG} {inp:Int} (hc:bN inp y c) (hy:y<=k) (rg A:List (List Int)):rL (j0 c rg y A) k=rL A k:=by
 unfold bN at hc
 have hp:∀ (r:Int) s B,0<=r/\r<y->rL (qC r s B) k=rL B k:=λr s B hr=>by
  rw[rL,rL,qC,e8 (l:=B.set _ _),mG aA,←e8]
 unfold j0
 by_cases h3:c.gB=3
 ·rw[if_pos h3,hp _ _ _ aA,hp _ _ _ aA]
 rw[if_neg h3]
 by_cases h4:c.gB=4
 ·rw[if_pos h4,hp _ _ _ aA,hp _ _ _ aA]
 rw[if_neg h4]
 by_cases h5:c.gB=5
 ·rw[if_pos h5,hp _ _ _ aA,hp _ _ _ aA]
 rw[if_neg h5]
 by_cases h6:c.gB=6
 ·rw[if_pos h6,hp _ _ _ aA,hp _ _ _ aA]
 rw[if_neg h6]
 by_cases h7:c.gB=7
 ·rw[if_pos h7,hp _ _ _ aA]
 ·rw[if_neg h7]
theorem tY {code:List bG} {j:Nat} {c:bG} (e:code[j]?=some c):code.getD j ⟨0,0,0,0⟩=c:=by rw[e8,e];rfl
theorem aTX {code:List bG} {inp:Int} (hins:∀ i c,code[i]?=some c->bN inp i c) (rg A0:List (List Int)):∀ j k,j<=code.length->j<=k+1->rL (nW code rg A0 (code.length-j) j) k=rL (nW code rg A0 code.length 0) k
 |0,k,_,_=>rfl
 |j+1,k,hj,hk=>by
  rw[←aTX hins rg A0 j k aA aA]
  have ec:code[j]?=some code[j]:=fC aA
  rw[show code.length-j=(code.length-(j+1))+1 by omega,nW,tY ec,a26 (n:=0) (hins j _ ec) aA]
def dIn (code:List bG) (d:Nat->Int) (k:Nat):Int:=if (code.getD k ⟨0,0,0,0⟩).gB=1 then d k else 0
theorem aNU {code:List bG} {inp:Int} (hins:∀ i c,code[i]?=some c->bN inp i c) {rg A0:List (List Int)} (hrg:c7 2 code.length rg) (hA0:c7 2 code.length A0) {D:Nat->List Int} (hD:∀ k,k<code.length->aW 2 (D k)) (hv:∀ k,k<code.length->(D k).getD 0 0=rL rg k)
  (h2:∀ y c,code[y]?=some c->c.gB=2->(D y).getD 1 0=0) (hop:∀ y c,code[y]?=some c->3<=c.gB->D y=opW c.gB (D c.fA.toNat) (D c.fB.toNat)) :
  ∀ j,j<=code.length->Cg (qQ (rL (nW code rg A0 (code.length-j) j)) (λk=>(D k).getD 1 0) j) (qQ (rL (nW code rg A0 code.length 0)) (dIn code λk=>(D k).getD 1 0) j)
 |0,_=>Cg.refl _
 |y+1,hy=>by
  have ih:=aNU hins hrg hA0 hD hv h2 hop y aA
  have ec:code[y]?=some code[y]:=fC aA
  have hA:=rK (sz:=2) ⟨by decide,by decide⟩ hins hrg hA0 (code.length-(y+1)) (y+1) aA
  have hk:=aTX hins rg A0 (y+1) y hy (bY _)
  have hs:nW code rg A0 (code.length-y) y=j0 code[y] rg y (nW code rg A0 (code.length-(y+1)) (y+1)):=by
   rw[show code.length-y=(code.length-(y+1))+1 by omega,nW,tY ec]
  rw[hs]at ih
  generalize nW code rg A0 (code.length-(y+1)) (y+1)=A at *
  have hst:=aWG aA (hins y _ ec) hrg hA hD hv (h2 y _ ec) (hop y _ ec)
  rw[qQ,qQ]
  refine hst.trans (ih.add (Cg.of_eq ?_))
  rw[←hk,dIn,tY ec]
  split
  ·rfl
  ·omega
theorem a7J {code:List bG} {inp:Nat} (hins:∀ i c,code[i]?=some c->bN inp i c) {L:List (List Int)} (hL:c7 2 code.length L) {i:Nat} (hi:i<inp) {d:Nat->Int} (hd:∀ k c,code[k]?=some c->c.gB=1->d k=if c.bA.toNat=i then 1 else 0):∀ k,k<=code.length->Cg (rL (byK code L 2 inp k) i) (qQ (rL L) (dIn code d) k)
 |0,_=>Cg.of_eq (by rw[rL,byK,e8 (l:=List.replicate _ _),sQ,if_pos hi];rfl)
 |k+1,hk=>by
  have ih:=a7J hins hL hi hd k aA
  have ec:code[k]?=some code[k]:=fC aA
  have hB:=zE hins hL k aA
  have hc:=hins k _ ec
  have hd:=hd k _ ec
  rw[qQ,dIn,byK,tY ec]
  generalize code[k]=c at *
  by_cases h1:c.gB=1
  ·rw[if_pos h1,if_pos h1,hd h1]
   have hn:0<=c.bA/\c.bA<inp:=by unfold bN at hc;omega
   by_cases e:c.bA.toNat=i
   ·rw[if_pos e]
    have h2:Cg (rL ((byK code L 2 inp k).set c.bA.toNat (iA ((byK code L 2 inp k).getD c.bA.toNat []) (L.getD k []))) i) (rL (byK code L 2 inp k) i+rL L k):=by
     rw[rL,e8 (l:=List.set _ _ _),e,nH (by rw[hB.1];exact hi)]
     have:=a7G (hB.get (i:=i) hi).2 (hL.get (i:=k) aA).2
     exact this
    exact h2.trans (ih.add (Cg.of_eq aA))
   ·rw[if_neg e]
    have h2:rL ((byK code L 2 inp k).set c.bA.toNat (iA ((byK code L 2 inp k).getD c.bA.toNat []) (L.getD k []))) i=rL (byK code L 2 inp k) i:=by
     rw[rL,rL,e8 (l:=List.set _ _ _),mG e,←e8]
    rw[h2]
    exact ih.trans (Cg.of_eq aA)
  ·rw[if_neg h1,if_neg h1]
   exact ih.trans (Cg.of_eq aA)
theorem a0A {outs ws:List Int} {n:Nat} (ho:∀ r∈outs,0<=r/\r<n) (hwn:eI ws) {d:Nat->Int}:∀ k,k<=outs.length->Cg (qQ (rL (rV outs ws (List.replicate n (x8 2)) k)) d n) (qQ (λk=>ws.getD k 0) (λk=>d (outs.getD k 0).toNat) k)
 |0,_=>by
  have hz:∀ m,qQ (rL (List.replicate n (x8 2))) d m=0:=λm=>by
   induction m with
   |zero=>rfl
   |succ m ih =>
    have h0:rL (List.replicate n (x8 2)) m=0:=by
     rw[rL,e8 (l:=List.replicate _ _),sQ]
     split <;> rfl
    rw[qQ,ih,h0];omega
  exact Cg.of_eq (hz n)
 |k+1,hk=>by
  have ih:=a0A ho hwn (d:=d) k aA
  have hr:=ho (outs.getD k 0) a91
  have hs:=vB (sz:=2) b6 ho hwn k aA
  rw[rV,qQ]
  generalize rV outs ws (List.replicate n (x8 2)) k=A at *
  generalize outs.getD k 0=r at *
  have hq:=hs.get (i:=r.toNat) aA
  have h1:∀ q,¬q=r.toNat->rL (A.set r.toNat ((A.getD r.toNat []).set 0 (((A.getD r.toNat []).getD 0 0+ws.getD k 0)%1000003))) q=rL A q:=λq hq=>by
   rw[rL,rL,e8 (l:=List.set A _ _),mG (iK hq),←e8]
  have h2:Cg (rL (A.set r.toNat ((A.getD r.toNat []).set 0 (((A.getD r.toNat []).getD 0 0+ws.getD k 0)%1000003))) r.toNat) (rL A r.toNat+ws.getD k 0):=by
   rw[rL,e8 (l:=List.set A _ _),nH (by rw[hs.1];omega),aDY,e8 (l:=List.set _ 0 _),nH (by rw[hq.2.1];decide)]
   exact Cg.mod _
  exact(aPZ h1 h2 n aA).trans (ih.add (Cg.refl _))
def dG:(Nat->Int)->(Nat->Int)->Nat->Int
 |f,g,0=>f 0*g 0
 |f,g,k+1=>f 0*g (k+1)+dG (λi=>f (i+1)) g k
theorem aGL:∀ (k:Nat) (f g:Nat->Int),dG f g (k+1)=dG f (λi=>g (i+1)) k+f (k+1)*g 0
 |0,f,g=>rfl
 |k+1,f,g=>by
  show f 0*g (k+2)+dG (λi=>f (i+1)) g (k+1)=(f 0*g (k+2)+dG (λi=>f (i+1)) (λi=>g (i+1)) k)+f (k+2)*g 0
  have:=aGL k (λi=>f (i+1)) g
  simp only[aU6,Nat.reduceAdd]at this ⊢
  omega
theorem kJ:∀ (k:Nat) (f g:Nat->Int),dG f g k=dG g f k
 |0,f,g=>aJJ _ _
 |k+1,f,g=>by
  rw[aGL k g f,dG,kJ k (λi=>f (i+1)) g,aJJ (f 0)];omega
theorem rM:∀ (k:Nat) (f g h:Nat->Int),dG (λi=>f i+g i) h k=dG f h k+dG g h k
 |0,f,g,h=>Int.add_mul _ _ _
 |k+1,f,g,h=>by
  rw[dG,dG,dG,rM k (λi=>f (i+1)) (λi=>g (i+1)) h];grind
theorem wA (c:Int):∀ (k:Nat) (f h:Nat->Int),dG (λi=>c*f i) h k=c*dG f h k
 |0,f,h=>aXD _ _ _
 |k+1,f,h=>by
  rw[dG,dG,wA c k (λi=>f (i+1)) h];grind
theorem zF (k:Nat) (f h:Nat->Int):dG (λi=>-(f i)) h k=-(dG f h k):=by
 have:=wA (-1) k f h
 simp only[Int.neg_mul,aCG]at this
 exact this
theorem mD (k:Nat) (f g h:Nat->Int):dG h (λi=>f i+g i) k=dG h f k+dG h g k:=by rw[kJ,rM,kJ k f,kJ k g]
theorem aBK (k:Nat) (f h:Nat->Int):dG h (λi=>-(f i)) k=-(dG h f k):=by rw[kJ,zF,kJ k f]
theorem aBL (c:Int) (k:Nat) (f h:Nat->Int):dG h (λi=>c*f i) k=c*dG h f k:=by rw[kJ,wA,kJ k f]
theorem mE:∀ (k:Nat) (f g h:Nat->Int),dG (dG f g) h k=dG f (dG g h) k
 |0,f,g,h=>aXD _ _ _
 |k+1,f,g,h=>by
  have e:(λi=>dG f g (i+1))=λi=>f 0*g (i+1)+dG (λi=>f (i+1)) g i:=rfl
  rw[dG,e,rM k (λi=>f 0*g (i+1)) (dG (λi=>f (i+1)) g),wA,mE k (λi=>f (i+1)) g h,dG,dG,dG]
  grind
theorem jP:∀ (k:Nat) (f f' g g':Nat->Int),(∀ i,i<=k->Cg (f i) (f' i))->(∀ i,i<=k->Cg (g i) (g' i))->Cg (dG f g k) (dG f' g' k)
 |0,f,f',g,g',a,b=>(a 0 (bY _)).mul (b 0 (bY _))
 |k+1,f,f',g,g',a,b=>((a 0 aA).mul (b (k+1) (bY _))).add (jP k _ _ g g' (λi hi=>a (i+1) aA) λi hi=>b i aA)
theorem tZ:∀ (k:Nat) (f:Nat->Int),dG f (λi=>if i=0 then 1 else 0) k=f k
 |0,f=>by simp[dG]
 |k+1,f=>by rw[aGL];simp only[Nat.add_one_ne_zero,if_false,if_true];rw[kJ];have:=wA 0 k (λ_=>0) f;simp only[tK]at this;rw[this];omega
def eW (F:Nat->Int):Nat->Int
 |0=>0
 |m+1=>eW F m+F m
theorem aNV (F:Nat->Int):∀ m,eW F (m+1)=F 0+eW (λi=>F (i+1)) m
 |0=>by simp[eW]
 |m+1=>by rw[eW,aNV F m,eW];omega
theorem oK {F G:Nat->Int}:∀ m,(∀ i,i<m->F i=G i)->eW F m=eW G m
 |0,_=>rfl
 |m+1,h=>by rw[eW,eW,oK m λi hi=>h i aA,h m aA]
theorem zG {F G:Nat->Int}:∀ m,(∀ i,i<m->Cg (F i) (G i))->Cg (eW F m) (eW G m)
 |0,_=>Cg.refl _
 |m+1,h=>(zG m λi hi=>h i aA).add (h m aA)
theorem rN:∀ (k:Nat) (f g:Nat->Int),dG f g k=eW (λi=>f i*g (k-i)) (k+1)
 |0,f,g=>by simp[dG,eW]
 |k+1,f,g=>by
  have h:eW (λi=>f (i+1)*g (k-i)) (k+1)=eW (λi=>f (i+1)*g (k+1-(i+1))) (k+1):=oK _ λi hi=>by rw[show k+1-(i+1)=k-i by omega]
  rw[dG,rN k,h,aNV (λi=>f i*g (k+1-i)) (k+1)];rfl
def sF (s:List Int):Nat->Int:=λi=>s.getD i 0
theorem a7K (a b:List Int) (k:Nat):∀ m,Cg (yY a b k m) (eW (λi=>sF a i*sF b (k-i)) m)
 |0=>Cg.refl _
 |m+1=>(Cg.mod _).trans ((a7K a b k m).add (Cg.refl _))
theorem a7L (o b:List Int) (k:Nat) (r:Int):∀ m,Cg (dvS o b k r m) (r-eW (λi=>sF o i*sF b (k-i)) m)
 |0=>Cg.of_eq (by simp[dvS,eW])
 |m+1=>(Cg.mod _).trans (((a7L o b k r m).add (Cg.refl (-(o.getD m 0*b.getD (k-m) 0)))).trans (Cg.of_eq (by rw[eW];simp only[sF];omega)))
theorem pN {sz:Nat} {a b:List Int} (ha:aW sz a) (hb:aW sz b) {k:Nat} (hk:k<sz):Cg (sF (iA a b) k) (sF a k+sF b k):=by
 have h:(iA a b)[k]?=some ((a.getD k 0+b.getD k 0)%1000003):=by
  rw[iA,aXI,bW (l:=a) (by rw[ha.1];exact hk),bW (l:=b) (by rw[hb.1];exact hk)]
 rw[sF,e8,h];exact Cg.mod _
theorem aP1 {sz:Nat} {a:List Int} (ha:aW sz a) (n:Int) {k:Nat} (hk:k<sz):Cg (sF (eJ a n) k) (sF a k*n):=by
 have h:(eJ a n)[k]?=some (a.getD k 0*n%1000003):=by
  rw[eJ,sO,bW (l:=a) (by rw[ha.1];exact hk)];rfl
 rw[sF,e8,h];exact Cg.mod _
theorem rO {sz:Nat} {a:List Int} (ha:aW sz a) {k:Nat} (hk:k<sz):Cg (sF (eJ a 1000002) k) (-(sF a k)):=(aP1 ha _ hk).trans ⟨sF a k,by omega⟩
theorem rP {sz:Nat} {a b:List Int} (ha:aW sz a) (hb:aW sz b) {k:Nat} (hk:k<sz):Cg (sF (kD a b) k) (sF a k+-(sF b k)):=(pN ha (dM _ hb) hk).trans ((Cg.refl _).add (rO hb hk))
theorem mV {sz:Nat} {a:List Int} (b:List Int) (ha:aW sz a) {k:Nat} (hk:k<sz):Cg (sF (mulL a b) k) (dG (sF a) (sF b) k):=by
 have h:(mulL a b)[k]?=some (yY a b k (k+1)):=by
  rw[mulL,sO,al8 (by rw[ha.1];exact hk)];rfl
 rw[sF,e8,h,rN];exact a7K a b k _
theorem iI {sz:Nat} (n:Int) (k:Nat) (hk:k<sz):sF (bX n sz) k=if k=0 then n else 0:=by
 rw[sF,bX,e8]
 split
 ·rename_i e;subst e
  rw[nH (by rw[aFR];exact hk)];rfl
 ·rename_i e
  rw[mG (iK e),sQ,if_pos hk];rfl
theorem aLG {sz:Nat} {a:List Int} (b:List Int) (ha:aW sz a) {k:Nat} (hk:k<sz):Cg (sF (gG a b) k) ((sF a k-eW (λi=>sF (gG a b) i*sF b (k-i)) k)*gJ (b.getD 0 0)):=by
 have hl:k<a.length:=by rw[ha.1];exact hk
 have h:sF (gG a b) k=dvS (jV a b k) b k (a.getD k 0) k*gJ (b.getD 0 0)%1000003:=by
  rw[sF,e8,fC (by rw[pT];exact hl)]
  exact aEX hl
 rw[h]
 refine(Cg.mod _).trans (Cg.mul ((a7L _ b k _ k).trans (Cg.of_eq ?_)) (Cg.refl _))
 congr 1
 refine oK k λi hi=>?_
 congr 1
 rw[sF,sF,gG,←uM a b (k:=k) a.length aA,e8,aJA hi,←e8]
def ivL (b:List Int) (sz:Nat):List Int:=gG (bX 1 sz) b
theorem aTY (f g:Nat->Int) (k:Nat):dG f (λi=>if i=0 then 0 else g i) k=eW (λi=>f i*g (k-i)) k:=by
 rw[rN,eW,sP,if_pos rfl,aJL,aGX]
 exact oK k λi hi=>by rw[if_neg aA]
theorem aGM {sz:Nat} {a b:List Int} (ha:aW sz a):∀ (m k:Nat),k<m->k<sz->Cg (sF (gG a b) k) (dG (sF a) (sF (ivL b sz)) k)
 |0,k,h,_=>by omega
 |m+1,k,h,hk=>by
  have ih:=λi hi hi2=>aGM (b:=b) ha m i hi hi2
  have hc:aW sz (bX 1 sz):=cS nO
  have h1:=aLG b ha hk
  refine h1.trans ?_
  have h2:∀ i,i<=k->Cg (sF (ivL b sz) i) (gJ (b.getD 0 0)*((if i=0 then 1 else 0)+-(dG (sF (ivL b sz)) (λi=>if i=0 then 0 else sF b i) i))):=λi hi=>by
   have:=aLG b hc (k:=i) aA
   rw[iI _ _ aA]at this
   rw[aTY,aJJ]
   exact this
  have h3:Cg (dG (sF a) (sF (ivL b sz)) k) (gJ (b.getD 0 0)*(sF a k+-(dG (dG (sF a) (sF (ivL b sz))) (λi=>if i=0 then 0 else sF b i) k))):=by
   refine(jP k _ _ _ _ (λi _=>Cg.refl _) h2).trans (Cg.of_eq ?_)
   rw[aBL (gJ (b.getD 0 0)) k (λi=>(if i=0 then 1 else 0)+-(dG (sF (ivL b sz)) (λi=>if i=0 then 0 else sF b i) i)) (sF a),mD k (λi=>if i=0 then 1 else 0),tZ,aBK k (dG (sF (ivL b sz)) λi=>if i=0 then 0 else sF b i),mE]
  refine Cg.trans ?_ h3.symm
  rw[aTY,aJJ]
  exact(Cg.refl _).mul ((Cg.refl _).add (sH (zG k λi hi=>(ih i aA aA).mul (Cg.refl _))))
def chB:Nat->Nat->Nat
 | _,0=>1
 |0,_+1=>0
 |n+1,k+1=>chB n k+chB n (k+1)
theorem zH:∀ n k,(k+1)*chB (n+1) (k+1)=(n+1)*chB n k
 |0,0=>rfl
 |0,k+1=>by simp[chB]
 |n+1,0=>by
  have h:=zH n 0
  simp only[chB,aHQ,Nat.one_mul,aRK]at h ⊢
  omega
 |n+1,k+1=>by
  have h1:=zH n k
  have h2:=zH n (k+1)
  have e:chB (n+1+1) (k+1+1)=chB (n+1) (k+1)+chB (n+1) (k+1+1):=rfl
  have e2:chB (n+1) (k+1)=chB n k+chB n (k+1):=rfl
  rw[e]
  generalize chB (n+1) (k+1+1)=A at *
  generalize chB n k=B at *
  generalize chB n (k+1)=C at *
  rw[e2]at h1 ⊢
  grind
theorem aE9:∀ n k,n<k->chB n k=0
 |0,k+1,_=>rfl
 |n+1,k+1,h=>by rw[chB,aE9 n k aA,aE9 n (k+1) aA]
 | _,0,h=>by omega
theorem aTZ:∀ n,chB n n=1
 |0=>rfl
 |n+1=>by rw[chB,aTZ n,aE9 n (n+1) aA]
def o7 (F:Nat->Nat):Nat->Nat
 |0=>0
 |m+1=>o7 F m+F m
theorem aB3 (F:Nat->Nat):∀ m,o7 F (m+1)=F 0+o7 (λi=>F (i+1)) m
 |0=>by simp[o7]
 |m+1=>by rw[o7,aB3 F m,o7];omega
theorem aDI {F G:Nat->Nat}:∀ m,(∀ i,i<m->F i=G i)->o7 F m=o7 G m
 |0,_=>rfl
 |m+1,h=>by rw[o7,o7,aDI m λi hi=>h i aA,h m aA]
theorem aT0 (F G:Nat->Nat):∀ m,o7 (λi=>F i+G i) m=o7 F m+o7 G m
 |0=>rfl
 |m+1=>by rw[o7,o7,o7,aT0 F G m];omega
theorem aT1 (a:Nat) (F:Nat->Nat):∀ m,a*o7 F m=o7 (λi=>a*F i) m
 |0=>rfl
 |m+1=>by rw[o7,o7,←aT1 a F m,Nat.mul_add]
theorem bGA (a:Nat):∀ n,(a+1) ^ n=o7 (λk=>chB n k*a ^ k) (n+1)
 |0=>by simp[o7,chB]
 |n+1=>by
  have e1:o7 (λk=>chB (n+1) k*a ^ k) (n+1+1)=1+o7 (λk=>chB n k*a ^ (k+1)+chB n (k+1)*a ^ (k+1)) (n+1):=by
   rw[aB3,chB,Nat.pow_zero,aRK]
   exact congrArg (1+·) (aDI _ λi _=>by rw[chB,uQ])
  have e2:o7 (λk=>chB n k*a ^ k) (n+1+1)=1+o7 (λk=>chB n (k+1)*a ^ (k+1)) (n+1):=by
   rw[aB3,show chB n 0=1 by cases n <;> rfl,Nat.pow_zero,aRK]
  have e3:o7 (λk=>chB n k*a ^ k) (n+1+1)=o7 (λk=>chB n k*a ^ k) (n+1):=by rw[o7,aE9 n (n+1) aA];omega
  rw[e1,aT0,aJK,bGA a n,aJB,uQ,aT1]
  have e4:o7 (λi=>a*(chB n i*a ^ i)) (n+1)=o7 (λk=>chB n k*a ^ (k+1)) (n+1):=aDI _ λi _=>by rw[aJK];grind
  rw[e4]
  omega
theorem aT2 {p:Nat} {F:Nat->Nat}:∀ m,(∀ i,i<m->p ∣ F i)->p ∣ o7 F m
 |0,_=>⟨0,rfl⟩
 |m+1,h=>Nat.dvd_add (aT2 m λi hi=>h i aA) (h m aA)
theorem a7M {p:Nat} (hp:1<p) (hc:∀ k,0<k->k<p->Nat.Coprime p k):∀ a:Nat,∃ q,a ^ p=a+p*q
 |0=>⟨0,by rw[Nat.zero_pow aA];omega⟩
 |a+1=>by
  obtain⟨q,hq⟩:=a7M hp hc a
  obtain⟨n,rfl⟩:∃ n,p=n+1:=⟨p-1,by omega⟩
  have h1:n+1 ∣ o7 (λi=>chB (n+1) (i+1)*a ^ (i+1)) n:=aT2 n λi hi=>by
   have h2:=zH n i
   have h3:n+1 ∣ (i+1)*chB (n+1) (i+1):=⟨_,h2⟩
   exact Nat.dvd_trans ((hc (i+1) aA aA).dvd_of_dvd_mul_left h3) ⟨_,rfl⟩
  obtain⟨r,hr⟩:=h1
  refine⟨q+r,?_⟩
  rw[bGA,o7,aB3,hr,aTZ,hq]
  simp only[chB]
  grind
def a0B:Nat->Bool
 |0=>true
 |k+1=>(decide (k<2) || decide (¬1000003%k=0)) && a0B k
theorem aT3:∀ n,a0B n=true->∀ k,2<=k->k<n->¬1000003%k=0
 |0,_,k,_,h=>by omega
 |n+1,t,k,h2,h=>by
  rw[a0B,mK]at t
  rcases bT k n with h3|h3
  ·exact aT3 n t.2 k h2 h3
  ·obtain rfl:k=n:=by omega
   have:=t.1
   rw[decide_eq_false (show ¬k<2 by omega),aMB]at this
   exact of_decide_eq_true this
set_option maxRecDepth 20000 in
theorem a27:a0B 1001=true:=by decide +kernel
theorem aT4 (k:Nat) (h0:0<k) (h1:k<1000003):Nat.Coprime 1000003 k:=by
 have d1:=Nat.gcd_dvd_left 1000003 k
 have d2:=Nat.le_of_dvd h0 (Nat.gcd_dvd_right 1000003 k)
 have d0:=Nat.gcd_pos_of_pos_right 1000003 h0
 show Nat.gcd 1000003 k=1
 generalize Nat.gcd 1000003 k=d at *
 obtain⟨e,he⟩:=d1
 have hd:∀ x y,1000003=x*y->2<=x->x<1001->False:=λx y h a b=>aT3 1001 a27 x a b (by rw[h,Nat.mul_mod_right])
 rcases bT d 2 with h|h
 ·omega
 exfalso
 rcases bT d 1001 with h2|h2
 ·exact hd d e he h h2
 rcases bT e 1001 with h3|h3
 ·rcases bT e 2 with h4|h4
  ·rcases(show e=0∨e=1 by omega)with rfl|rfl <;> omega
  ·exact hd e d (by rw[aJB];exact he) h4 h3
 ·have:=Nat.mul_le_mul h2 h3
  omega
theorem inv_mul {x:Int} (hx:iE x) (h0:¬x=0):Cg (x*gJ x) 1:=by
 obtain⟨n,rfl⟩:∃ n:Nat,x=n:=⟨x.toNat,by unfold iE at hx;omega⟩
 unfold iE at hx
 have hc:=aT4 n aA aA
 obtain⟨q,hq⟩:=a7M (p:=1000003) aA aT4 n
 have e:((n:Int)%1000003)=(n:Int):=by omega
 rw[gJ,pwN,e]
 have h1:Cg ((n:Int)*((n:Int) ^ 1000001%1000003)) ((n:Int)*(n:Int) ^ 1000001):=(Cg.refl _).mul (Cg.mod _)
 refine h1.trans ?_
 generalize hm:1000001=m
 have hm2:1000003=m+1+1:=by omega
 have h2:n*(n*(n ^ m)-1)=1000003*q:=by
  have h3:n ^ 1000003=n*(n*n ^ m):=by
   rw[hm2,aJK,aJK];grind
  have h4:1<=n*n ^ m:=Nat.mul_pos aA (Nat.pow_pos aA)
  rw[Nat.mul_sub,←h3,hq,aRK]
  omega
 have h5:1000003 ∣ n*(n*(n ^ m)-1):=⟨q,h2⟩
 obtain⟨r,hr⟩:=hc.dvd_of_dvd_mul_left h5
 have h6:1<=n*n ^ m:=Nat.mul_pos aA (Nat.pow_pos aA)
 have h7:n*n ^ m=1+1000003*r:=by omega
 refine⟨(r:Int),?_⟩
 have h8:((n*n ^ m:Nat):Int)=((1+1000003*r:Nat):Int):=by rw[h7]
 rw[Int.natCast_mul,Int.natCast_pow,Int.natCast_add,Int.natCast_mul]at h8
 exact h8
structure a7N (R:List Int->List Int->Prop) (sz sz':Nat):Prop where
 nil:R [] []
 hd:∀ {s s'},R s s'->s.getD 0 0=s'.getD 0 0
 add:∀ {a a' b b'},R a a'->R b b'->R (iA a b) (iA a' b')
 scl:∀ {a a'} (n:Int),R a a'->R (eJ a n) (eJ a' n)
 mul:∀ {a a' b b'},R a a'->R b b'->R (mulL a b) (mulL a' b')
 div:∀ {a a' b b'},R a a'->R b b'->R (gG a b) (gG a' b')
 const:∀ n,R (bX n sz) (bX n sz')
theorem a7N.sub {R:List Int->List Int->Prop} {sz sz':Nat} (H:a7N R sz sz') {a a' b b':List Int} (ha:R a a') (hb:R b b'):R (kD a b) (kD a' b'):=H.add ha (H.scl _ hb)
def eG (R:List Int->List Int->Prop):List (List Int)->List (List Int)->Prop
 | [],[]=>True
 |s::l,s'::l'=>R s s'/\eG R l l'
 | _,_=>False
theorem eG.get {R:List Int->List Int->Prop} (hn:R [] []):∀ {l l':List (List Int)},eG R l l'->∀ i,R (l.getD i []) (l'.getD i [])
 | [],[],_,i=>by simp[hn]
 |s::l,s'::l',h,0=>h.1
 |s::l,s'::l',h,i+1=>by simpa using eG.get hn h.2 i
 | [],_::_,h,_=>h.elim
 | _::_,[],h,_=>h.elim
theorem eG.len {R:List Int->List Int->Prop}:∀ {l l':List (List Int)},eG R l l'->l.length=l'.length
 | [],[],_=>rfl
 |s::l,s'::l',h=>by simp[eG.len h.2]
 | [],_::_,h=>h.elim
 | _::_,[],h=>h.elim
def pR (m:Nat) (s s':List Int):Prop:=(s=[]/\s'=[])∨(m<=s.length/\m<=s'.length/\∀ i,i<m->sF s i=sF s' i)
theorem pR.get {m:Nat} {s s':List Int} (h:pR m s s') {i:Nat} (hi:i<m):sF s i=sF s' i:=by
 rcases h with⟨rfl,rfl⟩|⟨_,_,h⟩
 ·rfl
 ·exact h i hi
theorem aNW {a a' b b':List Int} {k m:Nat} (hk:k<m) (ha:∀ i,i<m->sF a i=sF a' i) (hb:∀ i,i<m->sF b i=sF b' i):∀ n,n<=k+1->yY a b k n=yY a' b' k n
 |0,_=>rfl
 |n+1,h=>by
  have h1:=ha n aA
  have h2:=hb (k-n) aA
  simp only[sF]at h1 h2
  rw[yY,yY,aNW hk ha hb n aA,h1,h2]
theorem aNX {o b b':List Int} {k m:Nat} (hk:k<m) (hb:∀ i,i<m->sF b i=sF b' i) (r:Int):∀ n,dvS o b k r n=dvS o b' k r n
 |0=>rfl
 |n+1=>by
  have h2:=hb (k-n) aA
  simp only[sF]at h2
  rw[dvS,dvS,aNX hk hb r n,h2]
theorem aLH {a a' b b':List Int} {m:Nat} (hm:0<m) (ha:∀ i,i<m->sF a i=sF a' i) (hb:∀ i,i<m->sF b i=sF b' i):∀ k,k<=m->jV a b k=jV a' b' k
 |0,_=>rfl
 |k+1,h=>by
  have h1:=ha k aA
  have h2:=hb 0 hm
  simp only[sF]at h1 h2
  rw[jV,jV,aLH hm ha hb k aA,h1,h2,aNX (m:=m) aA hb]
theorem aNY {s:List Int} {i:Nat} {x:Int} (h:s[i]?=some x):sF s i=x:=by rw[sF,e8,h];rfl
theorem bP2 {m sz sz':Nat} (hm:0<m) (h1:m<=sz) (h2:m<=sz'):a7N (pR m) sz sz' where
 nil:=.inl ⟨rfl,rfl⟩
 hd h:=h.get hm
 add {a a' b b'} ha hb:=by
  rcases ha with⟨rfl,rfl⟩|⟨a1,a2,a3⟩
  ·exact .inl ⟨rfl,rfl⟩
  rcases hb with⟨rfl,rfl⟩|⟨b1,b2,b3⟩
  ·exact .inl ⟨by simp[iA],by simp[iA]⟩
  ·refine .inr ⟨by simp[iA];omega,by simp[iA];omega,λi hi=>?_⟩
   have e1:=a3 i hi
   have e2:=b3 i hi
   simp only[sF]at e1 e2
   rw[aNY (s:=iA a b) (x:=(a.getD i 0+b.getD i 0)%1000003) (by rw[iA,aXI,bW (l:=a) aA,bW (l:=b) aA]),
    aNY (s:=iA a' b') (x:=(a'.getD i 0+b'.getD i 0)%1000003) (by rw[iA,aXI,bW (l:=a') aA,bW (l:=b') aA]),e1,e2]
 scl {a a'} n ha:=by
  rcases ha with⟨rfl,rfl⟩|⟨a1,a2,a3⟩
  ·exact .inl ⟨rfl,rfl⟩
  ·refine .inr ⟨by rw[qV];exact a1,by rw[qV];exact a2,λi hi=>?_⟩
   have e1:=a3 i hi
   simp only[sF]at e1
   rw[aNY (s:=eJ a n) (x:=a.getD i 0*n%1000003) (by rw[eJ,sO,bW (l:=a) aA];rfl),
    aNY (s:=eJ a' n) (x:=a'.getD i 0*n%1000003) (by rw[eJ,sO,bW (l:=a') aA];rfl),e1]
 mul {a a' b b'} ha hb:=by
  have hb':=λi hi=>hb.get (i:=i) hi
  rcases ha with⟨rfl,rfl⟩|⟨a1,a2,a3⟩
  ·exact .inl ⟨rfl,rfl⟩
  ·refine .inr ⟨by rw[aEY];exact a1,by rw[aEY];exact a2,λi hi=>?_⟩
   rw[aNY (s:=mulL a b) (x:=yY a b i (i+1)) bEF,
    aNY (s:=mulL a' b') (x:=yY a' b' i (i+1)) bEF,aNW hi a3 hb' _ (bY _)]
 div {a a' b b'} ha hb:=by
  have hb':=λi hi=>hb.get (i:=i) hi
  rcases ha with⟨rfl,rfl⟩|⟨a1,a2,a3⟩
  ·exact .inl ⟨rfl,rfl⟩
  ·refine .inr ⟨by rw[pT];exact a1,by rw[pT];exact a2,λi hi=>?_⟩
   have e:∀ x:List Int,sF x i=sF (x.take m) i:=λx=>by rw[sF,sF,e8,e8,aJA hi]
   rw[e (gG a b),e (gG a' b'),gG,gG,uM a b _ a1,uM a' b' _ a2,aLH hm a3 hb' m (bY _)]
 const n:=.inr ⟨by simp[bX];exact h1,by simp[bX];exact h2,λi hi=>by rw[iI _ _ aA,iI _ _ aA]⟩
def aGN (sz:Nat) (dirs:List (List Int)) (D rg:Nat->List Int) (k:Nat) (c:bG):List Int :=
 if c.gB=1 then dirs.getD c.bA.toNat []
 else if c.gB=2 then bX 0 sz
 else if c.gB=3 then iA (D c.fA.toNat) (D c.fB.toNat)
 else if c.gB=4 then kD (D c.fA.toNat) (D c.fB.toNat)
 else if c.gB=5 then iA (mulL (D c.fA.toNat) (rg c.fB.toNat)) (mulL (rg c.fA.toNat) (D c.fB.toNat))
 else if c.gB=7 then eJ (D c.fA.toNat) 1000002
 else gG (kD (D c.fA.toNat) (mulL (rg k) (D c.fB.toNat))) (rg c.fB.toNat)
def drS (sz:Nat) (dirs:List (List Int)) (rg:Nat->List Int) (code:List bG):Nat->List (List Int)
 |0=>[]
 |k+1=>drS sz dirs rg code k++[aGN sz dirs (λi=>(drS sz dirs rg code k).getD i []) rg k (code.getD k ⟨0,0,0,0⟩)]
theorem aIW (sz:Nat) (dirs:List (List Int)) (rg:Nat->List Int) (code:List bG):∀ k,(drS sz dirs rg code k).length=k
 |0=>rfl
 |k+1=>by rw[drS,nT,aIW sz dirs rg code k];rfl
theorem aP2 (sz:Nat) (dirs:List (List Int)) (rg:Nat->List Int) (code:List bG) {r k:Nat} (hr:r<k):∀ n,k<=n->(drS sz dirs rg code n).getD r []=(drS sz dirs rg code k).getD r []
 |0,h=>by omega
 |n+1,h=>by
  rcases bT n k with h1|h1
  ·have:k=n+1:=by omega
   rw[this]
  ·rw[←aP2 sz dirs rg code hr n h1,drS,e8,uP (by rw[aIW];omega),e8]
def dgS (sz:Nat) (dirs:List (List Int)) (rg:Nat->List Int) (code:List bG) (k:Nat):List Int:=(drS sz dirs rg code code.length).getD k []
theorem aGO {sz:Nat} {dirs:List (List Int)} {rg:Nat->List Int} {code:List bG} {inp:Int} {k:Nat} {c:bG} (e:code[k]?=some c) (hi:bN inp k c):dgS sz dirs rg code k=aGN sz dirs (dgS sz dirs rg code) rg k c:=by
 have h:=(iY.1 e).1
 have h1:dgS sz dirs rg code k=aGN sz dirs (λi=>(drS sz dirs rg code k).getD i []) rg k c:=by
  rw[dgS,aP2 sz dirs rg code (sR k) code.length h,drS,e8,yD (by rw[aIW];exact bY _),aIW,sP,tY e];rfl
 have h2:∀ i,i<k->(drS sz dirs rg code k).getD i []=dgS sz dirs rg code i:=λi hi=>(aP2 sz dirs rg code hi code.length aA).symm
 rw[h1]
 unfold bN at hi
 unfold aGN
 split
 ·rfl
 split
 ·rfl
 dsimp only
 rw[h2 c.fA.toNat aA]
 by_cases h7:c.gB=7
 ·rw[if_neg aA,if_neg aA,if_neg aA,if_pos h7,if_neg aA,if_neg aA,if_neg aA,if_pos h7]
 ·rw[h2 c.fB.toNat aA]
theorem aP3 {sz:Nat} (hsz:1<=sz) {dirs:List (List Int)} {rg:Nat->List Int} {code:List bG} {inp:Int} (hins:∀ i c,code[i]?=some c->bN inp i c) (hd:∀ s∈dirs,aW sz s) (hl:(dirs.length:Int)=inp) (hrg:∀ k,k<code.length->aW sz (rg k)):∀ n k,k<n->k<code.length->aW sz (dgS sz dirs rg code k)
 |0,k,h,_=>by omega
 |n+1,k,hn,hk=>by
  have ih:=λi hi=>aP3 hsz hins hd hl hrg n i hi
  have e:code[k]?=some code[k]:=fC hk
  have hc:=hins k _ e
  rw[aGO e hc]
  generalize code[k]=c at *
  unfold bN at hc
  unfold aGN
  by_cases h1:c.gB=1
  ·rw[if_pos h1];exact iH hd aA
  rw[if_neg h1]
  by_cases h2:c.gB=2
  ·rw[if_pos h2];exact cS nO
  rw[if_neg h2]
  have da:=ih c.fA.toNat aA aA
  by_cases h3:c.gB=3
  ·rw[if_pos h3];exact lL da (ih _ aA aA)
  rw[if_neg h3]
  by_cases h4:c.gB=4
  ·rw[if_pos h4];exact jO da (ih _ aA aA)
  rw[if_neg h4]
  by_cases h5:c.gB=5
  ·rw[if_pos h5];exact lL (cF _ da) (cF _ (hrg _ aA))
  rw[if_neg h5]
  by_cases h7:c.gB=7
  ·rw[if_pos h7];exact dM _ da
  ·rw[if_neg h7];exact k8 _ (jO da (cF _ (hrg _ aA)))
def fA (A:List (List Int)) (i:Nat):Nat->Int:=sF (A.getD i [])
theorem a28 {a a':Nat->Nat->Int} (d:Nat->Nat->Int) (j:Nat) (m:Nat) (h:∀ k,k<m->a' k=a k):eW (λi=>dG (a' i) (d i) j) m=eW (λi=>dG (a i) (d i) j) m:=oK m λi hi=>by rw[h i hi]
theorem aP4 {a a':Nat->Nat->Int} {d:Nat->Nat->Int} {r j:Nat} {s:Nat->Int} (h:∀ k,¬k=r->a' k=a k) (hr:∀ q,q<=j->Cg (a' r q) (a r q+s q)):∀ m,r<m->Cg (eW (λi=>dG (a' i) (d i) j) m) (eW (λi=>dG (a i) (d i) j) m+dG s (d r) j)
 |0,q=>by omega
 |m+1,q=>by
  rw[eW,eW]
  by_cases e:m=r
  ·subst e
   rw[a28 d j m λk hk=>h k aA]
   exact((Cg.refl _).add ((jP j _ _ _ _ hr λi _=>Cg.refl _).trans (Cg.of_eq (rM j _ _ _)))).trans (Cg.of_eq aA)
  ·rw[h m e]
   exact((aP4 h hr m aA).add (Cg.refl _)).trans (Cg.of_eq aA)
theorem a7P {sz n:Nat} {A:List (List Int)} (hA:c7 sz n A) {r:Int} (hr:r.toNat<n) {s:List Int} (hs:aW sz s):(∀ k,¬k=r.toNat->fA (qC r s A) k=fA A k)/\∀ q,q<sz->Cg (fA (qC r s A) r.toNat q) (fA A r.toNat q+sF s q):=by
 refine⟨λk hk=>?_,λq hq=>?_⟩
 ·rw[fA,fA,qC,e8 (l:=A.set _ _),mG (iK hk),←e8]
 ·rw[fA,qC,e8 (l:=A.set _ _),nH (by rw[hA.1];exact hr)]
  exact pN (hA.get hr).2 hs hq
theorem aP5 {sz n:Nat} {A:List (List Int)} (hA:c7 sz n A) {r:Int} {s:List Int} (hs:aW sz s) {d:Nat->Nat->Int} {j m:Nat} (hj:j<sz) (hr:r.toNat<m) (hm:m<=n):Cg (eW (λi=>dG (fA (qC r s A) i) (d i) j) m) (eW (λi=>dG (fA A i) (d i) j) m+dG (sF s) (d r.toNat) j) :=
 aP4 (a7P hA aA hs).1 (λq hq=>(a7P hA aA hs).2 q aA) m hr
theorem lA (f g:Nat->Int):dG f g=dG g f:=funext λk=>kJ k f g
theorem aDJ (f g h:Nat->Int):dG (dG f g) h=dG f (dG g h):=funext λk=>mE k f g h
theorem bJF {sz n y j:Nat} (hj:j<sz) (hy:y<n) {c:bG} {inp:Int} (hc:bN inp y c) {rg:List (List Int)} (hrg:c7 sz n rg) {A:List (List Int)} (hA:c7 sz n A) {D:Nat->List Int} (hD:∀ k,k<n->aW sz (D k)) {dirs:List (List Int)} (hop:D y=aGN sz dirs D (λi=>rg.getD i []) y c) :
  Cg (eW (λi=>dG (fA A i) (sF (D i)) j) y+dG (fA A y) (sF (D y)) j) (eW (λi=>dG (fA (j0 c rg y A) i) (sF (D i)) j) y+if c.gB=1 then dG (fA A y) (sF (D y)) j else 0):=by
 have h0:=(hA.get hy).2
 have hc':=hc
 unfold bN at hc
 have dy:=hD y hy
 unfold aGN at hop
 dsimp only at hop
 by_cases e1:c.gB=1
 ·rw[if_pos e1,j0,if_neg aA,if_neg aA,if_neg aA,if_neg aA,if_neg aA];exact Cg.refl _
 rw[if_neg e1]at hop ⊢
 by_cases e2:c.gB=2
 ·rw[if_pos e2]at hop
  rw[j0,if_neg aA,if_neg aA,if_neg aA,if_neg aA,if_neg aA]
  refine(Cg.refl _).add ((jP j _ _ _ (λ_=>0) (λi _=>Cg.refl _) λi hi=>Cg.of_eq ?_).trans (Cg.of_eq ?_))
  ·rw[hop,iI _ _ aA];split <;> rfl
  ·have:=aBL 0 j (λ_=>0) (fA A y)
   simp only[tK]at this
   exact this
 rw[if_neg e2]at hop
 have ia:0<=c.fA/\c.fA<y:=by omega
 have da:=hD c.fA.toNat aA
 have fin:∀ {T e:Int},Cg T (eW (λi=>dG (fA A i) (sF (D i)) j) y+e)->Cg (dG (fA A y) (sF (D y)) j) e->Cg (eW (λi=>dG (fA A i) (sF (D i)) j) y+dG (fA A y) (sF (D y)) j) (T+0):=λhB h =>
  ((Cg.refl _).add h).trans (hB.symm.trans (Cg.of_eq aA))
 have one:∀ s1,aW sz s1->Cg (eW (λi=>dG (fA (qC c.fA s1 A) i) (sF (D i)) j) y) (eW (λi=>dG (fA A i) (sF (D i)) j) y+dG (sF s1) (sF (D c.fA.toNat)) j):=λs1 z1=>aP5 hA z1 (d:=λi=>sF (D i)) hj aA aA
 by_cases e7:c.gB=7
 ·rw[if_neg aA,if_neg aA,if_neg aA,if_pos e7]at hop
  rw[j0,if_neg aA,if_neg aA,if_neg aA,if_neg aA,if_pos e7]
  refine fin (one _ (dM 1000002 h0)) ?_
  refine(jP j _ _ _ (λi=>-(sF (D c.fA.toNat) i)) (λi _=>Cg.refl _) λi hi=>by rw[hop];exact rO da aA).trans ?_
  refine Cg.trans (Cg.of_eq ?_) (jP j _ (λi=>-(fA A y i)) _ _ (λi hi=>rO h0 aA) λi _=>Cg.refl _).symm
  rw[aBK j (sF (D c.fA.toNat)),zF j (fA A y)]
 have ib:0<=c.fB/\c.fB<y:=by omega
 have db:=hD c.fB.toNat aA
 have two:∀ s1 s2,aW sz s1->aW sz s2->Cg (eW (λi=>dG (fA (qC c.fB s2 (qC c.fA s1 A)) i) (sF (D i)) j) y) (eW (λi=>dG (fA A i) (sF (D i)) j) y+(dG (sF s1) (sF (D c.fA.toNat)) j+dG (sF s2) (sF (D c.fB.toNat)) j)):=λs1 s2 z1 z2 =>
  (aP5 (hA.put aA z1) z2 (d:=λi=>sF (D i)) hj aA aA).trans (((one s1 z1).add (Cg.refl _)).trans (Cg.of_eq aA))
 by_cases e3:c.gB=3
 ·rw[if_pos e3]at hop
  rw[j0,if_pos e3]
  refine fin (two _ _ h0 h0) ?_
  refine(jP j _ _ _ (λi=>sF (D c.fA.toNat) i+sF (D c.fB.toNat) i) (λi _=>Cg.refl _) λi hi=>by rw[hop];exact pN da db aA).trans (Cg.of_eq ?_)
  rw[mD j (sF (D c.fA.toNat))];rfl
 rw[if_neg e3]at hop
 by_cases e4:c.gB=4
 ·rw[if_pos e4]at hop
  rw[j0,if_neg e3,if_pos e4]
  refine fin (two _ _ h0 (dM 1000002 h0)) ?_
  refine(jP j _ _ _ (λi=>sF (D c.fA.toNat) i+-(sF (D c.fB.toNat) i)) (λi _=>Cg.refl _) λi hi=>by rw[hop];exact rP da db aA).trans ?_
  refine Cg.trans (Cg.of_eq ?_) ((Cg.refl (dG (sF (A.getD y [])) (sF (D c.fA.toNat)) j)).add (jP j _ (λi=>-(fA A y i)) _ _ (λi hi=>rO h0 aA) λi _=>Cg.refl _).symm)
  rw[mD j (sF (D c.fA.toNat)) (λi=>-(sF (D c.fB.toNat) i)),aBK j (sF (D c.fB.toNat)),zF j (fA A y)];rfl
 rw[if_neg e4]at hop
 have ra:=(hrg.get (i:=c.fA.toNat) aA).2
 have rb:=(hrg.get (i:=c.fB.toNat) aA).2
 have ry:=(hrg.get (i:=y) hy).2
 by_cases e5:c.gB=5
 ·rw[if_pos e5]at hop
  rw[j0,if_neg e3,if_neg e4,if_pos e5]
  refine fin (two _ _ (cF _ h0) (cF _ h0)) ?_
  generalize rg.getD c.fA.toNat []=ra' at *
  generalize rg.getD c.fB.toNat []=rb' at *
  refine(jP j _ _ _ (λi=>dG (sF (D c.fA.toNat)) (sF rb') i+dG (sF ra') (sF (D c.fB.toNat)) i) (λi _=>Cg.refl _) λi hi=>by
   rw[hop]
   exact(pN (cF _ da) (cF _ ra) aA).trans ((mV _ da aA).add (mV _ ra aA))).trans ?_
  refine Cg.trans (Cg.of_eq ?_) ((jP j _ (dG (fA A y) (sF rb')) _ _ (λi hi=>mV _ h0 aA) λi _=>Cg.refl _).symm.add (jP j _ (dG (fA A y) (sF ra')) _ _ (λi hi=>mV _ h0 aA) λi _=>Cg.refl _).symm)
  rw[mD j (dG (sF (D c.fA.toNat)) (sF rb')) (dG (sF ra') (sF (D c.fB.toNat))),mE,mE,lA (sF rb')]
 ·have e6:c.gB=6:=by omega
  rw[if_neg e5,if_neg e7]at hop
  rw[j0,if_neg e3,if_neg e4,if_neg e5,if_pos e6]
  have hp:=k8 (rg.getD c.fB.toNat []) h0
  refine fin (two _ _ hp (dM 1000002 (cF _ hp))) ?_
  generalize rg.getD c.fB.toNat []=rb' at *
  generalize rg.getD y []=ry' at *
  have hm:=cF (D c.fB.toNat) ry
  refine(jP j _ _ _ (dG (λi=>sF (D c.fA.toNat) i+-(dG (sF ry') (sF (D c.fB.toNat)) i)) (sF (ivL rb' sz))) (λi _=>Cg.refl _) λi hi=>by
   rw[hop]
   exact(aGM (jO da hm) (i+1) i aA aA).trans (jP i _ _ _ _ (λk hk=>(rP da hm aA).trans ((Cg.refl _).add (sH (mV _ ry aA)))) λk _=>Cg.refl _)).trans ?_
  refine Cg.trans (Cg.of_eq ?_) ((jP j _ (dG (fA A y) (sF (ivL rb' sz))) _ _ (λi hi=>aGM h0 (i+1) i aA aA) λi _=>Cg.refl _).symm.add (jP j _ (λi=>-(dG (dG (fA A y) (sF (ivL rb' sz))) (sF ry') i)) _ _ (λi hi =>
   (rO (cF _ hp) aA).trans (sH ((mV _ hp aA).trans (jP i _ _ _ _ (λk hk=>aGM h0 (k+1) k aA aA) λk _=>Cg.refl _)))) λi _=>Cg.refl _).symm)
  have e:dG (λi=>sF (D c.fA.toNat) i+-(dG (sF ry') (sF (D c.fB.toNat)) i)) (sF (ivL rb' sz))=λi=>dG (sF (D c.fA.toNat)) (sF (ivL rb' sz)) i+-(dG (dG (sF ry') (sF (D c.fB.toNat))) (sF (ivL rb' sz)) i):=funext λi=>by
   rw[rM i (sF (D c.fA.toNat)) (λi=>-(dG (sF ry') (sF (D c.fB.toNat)) i)),zF i (dG (sF ry') (sF (D c.fB.toNat)))]
  rw[e,mD j (dG (sF (D c.fA.toNat)) (sF (ivL rb' sz))) (λi=>-(dG (dG (sF ry') (sF (D c.fB.toNat))) (sF (ivL rb' sz)) i)),aBK j (dG (dG (sF ry') (sF (D c.fB.toNat))) (sF (ivL rb' sz))),zF j (dG (dG (fA A y) (sF (ivL rb' sz))) (sF ry')),mE j (dG (fA A y) (sF (ivL rb' sz))),mE j (fA A y),mE j (fA A y),lA (sF (ivL rb' sz)) (sF (D c.fA.toNat)),lA (sF (ivL rb' sz)) (dG (sF ry') (sF (D c.fB.toNat)))]
theorem aWH {y k:Nat} {c:bG} {inp:Int} (hc:bN inp y c) (hy:y<=k) (rg A:List (List Int)):fA (j0 c rg y A) k=fA A k:=by
 unfold bN at hc
 have hp:∀ (r:Int) s B,0<=r/\r<y->fA (qC r s B) k=fA B k:=λr s B hr=>by
  rw[fA,fA,qC,e8 (l:=B.set _ _),mG aA,←e8]
 unfold j0
 by_cases h3:c.gB=3
 ·rw[if_pos h3,hp _ _ _ aA,hp _ _ _ aA]
 rw[if_neg h3]
 by_cases h4:c.gB=4
 ·rw[if_pos h4,hp _ _ _ aA,hp _ _ _ aA]
 rw[if_neg h4]
 by_cases h5:c.gB=5
 ·rw[if_pos h5,hp _ _ _ aA,hp _ _ _ aA]
 rw[if_neg h5]
 by_cases h6:c.gB=6
 ·rw[if_pos h6,hp _ _ _ aA,hp _ _ _ aA]
 rw[if_neg h6]
 by_cases h7:c.gB=7
 ·rw[if_pos h7,hp _ _ _ aA]
 ·rw[if_neg h7]
theorem aNZ {code:List bG} {inp:Int} (hins:∀ i c,code[i]?=some c->bN inp i c) (rg A0:List (List Int)):∀ j k,j<=code.length->j<=k+1->fA (nW code rg A0 (code.length-j) j) k=fA (nW code rg A0 code.length 0) k
 |0,k,_,_=>rfl
 |j+1,k,hj,hk=>by
  rw[←aNZ hins rg A0 j k aA aA]
  have ec:code[j]?=some code[j]:=fC aA
  rw[show code.length-j=(code.length-(j+1))+1 by omega,nW,tY ec,aWH (hins j _ ec) aA]
def bCG (code:List bG) (L:List (List Int)) (D:Nat->List Int) (j k:Nat):Int:=if (code.getD k ⟨0,0,0,0⟩).gB=1 then dG (fA L k) (sF (D k)) j else 0
theorem aLJ {sz:Nat} (hsz:1<=sz/\sz<=1048576) {j:Nat} (hj:j<sz) {code:List bG} {inp:Int} (hins:∀ i c,code[i]?=some c->bN inp i c) {rg A0:List (List Int)} (hrg:c7 sz code.length rg) (hA0:c7 sz code.length A0) {D:Nat->List Int} (hD:∀ k,k<code.length->aW sz (D k)) {dirs:List (List Int)}
  (hop:∀ y c,code[y]?=some c->D y=aGN sz dirs D (λi=>rg.getD i []) y c) :
  ∀ m,m<=code.length->Cg (eW (λi=>dG (fA (nW code rg A0 (code.length-m) m) i) (sF (D i)) j) m) (eW (bCG code (nW code rg A0 code.length 0) D j) m)
 |0,_=>Cg.refl _
 |y+1,hy=>by
  have ih:=aLJ hsz hj hins hrg hA0 hD hop y aA
  have ec:code[y]?=some code[y]:=fC aA
  have hA:=rK hsz hins hrg hA0 (code.length-(y+1)) (y+1) aA
  have hk:=aNZ hins rg A0 (y+1) y hy (bY _)
  have hs:nW code rg A0 (code.length-y) y=j0 code[y] rg y (nW code rg A0 (code.length-(y+1)) (y+1)):=by
   rw[show code.length-y=(code.length-(y+1))+1 by omega,nW,tY ec]
  rw[hs]at ih
  generalize nW code rg A0 (code.length-(y+1)) (y+1)=A at *
  have hst:=bJF hj aA (hins y _ ec) hrg hA hD (hop y _ ec)
  rw[eW,eW]
  refine hst.trans (ih.add (Cg.of_eq ?_))
  rw[bCG,tY ec,hk]
theorem rQ (f:Nat->Int) (j:Nat):dG (λ_=>0) f j=0:=by
 have:=wA 0 j (λ_=>0) f
 simp only[tK]at this
 exact this
theorem a0C (n sz k:Nat):fA (List.replicate n (x8 sz)) k=λ_=>0:=funext λq=>by
 rw[fA,e8,sQ]
 split
 ·rw[sF,aDY,x8,e8,sQ];split <;> rfl
 ·rfl
theorem aLK {F:Nat->Int} (h:∀ i,F i=0):∀ m,eW F m=0
 |0=>rfl
 |m+1=>by rw[eW,aLK h m,h m];rfl
theorem a0D {sz j:Nat} (hj:j<sz) {code:List bG} {inp:Nat} (hins:∀ i c,code[i]?=some c->bN inp i c) {L:List (List Int)} (hL:c7 sz code.length L) {D:Nat->List Int} {Z:List (List Int)} (hd:∀ k c,code[k]?=some c->c.gB=1->D k=Z.getD c.bA.toNat []):∀ k,k<=code.length->Cg (eW (λi=>dG (fA (byK code L sz inp k) i) (fA Z i) j) inp) (eW (bCG code L D j) k)
 |0,_=>Cg.of_eq (by rw[aLK λi=>by rw[byK,a0C,rQ]];rfl)
 |k+1,hk=>by
  have ih:=a0D hj hins hL hd k aA
  have ec:code[k]?=some code[k]:=fC aA
  have hB:=zE hins hL k aA
  have hc:=hins k _ ec
  have hd:=hd k _ ec
  rw[eW,bCG,byK,tY ec]
  generalize code[k]=c at *
  by_cases h1:c.gB=1
  ·rw[if_pos h1,if_pos h1,hd h1]
   have hn:0<=c.bA/\c.bA<inp:=by unfold bN at hc;omega
   have h2:=aP5 hB (hL.get (i:=k) aA).2 (d:=λi=>fA Z i) (r:=c.bA) (m:=inp) hj aA (bY _)
   exact h2.trans (ih.add (Cg.refl _))
  ·rw[if_neg h1,if_neg h1]
   exact ih.trans (Cg.of_eq aA)
theorem aT5 {sz j n:Nat} (hj:j<sz) {outs ws:List Int} (ho:∀ r∈outs,0<=r/\r<n) (hwn:eI ws) {d:Nat->Nat->Int}:∀ k,k<=outs.length->Cg (eW (λi=>dG (fA (rV outs ws (List.replicate n (x8 sz)) k) i) (d i) j) n) (eW (λk=>ws.getD k 0*d (outs.getD k 0).toNat j) k)
 |0,_=>Cg.of_eq (by rw[aLK λi=>by rw[rV,a0C,rQ]];rfl)
 |k+1,hk=>by
  have ih:=aT5 hj ho hwn (d:=d) k aA
  have hr:=ho (outs.getD k 0) a91
  have hs:=vB (sz:=sz) aA ho hwn k aA
  rw[rV,eW]
  generalize rV outs ws (List.replicate n (x8 sz)) k=A at *
  generalize outs.getD k 0=r at *
  have hq:=hs.get (i:=r.toNat) aA
  have h1:∀ q,¬q=r.toNat->fA (A.set r.toNat ((A.getD r.toNat []).set 0 (((A.getD r.toNat []).getD 0 0+ws.getD k 0)%1000003))) q=fA A q:=λq hq=>by
   rw[fA,fA,e8 (l:=List.set A _ _),mG (iK hq),←e8]
  have h2:∀ q,q<=j->Cg (fA (A.set r.toNat ((A.getD r.toNat []).set 0 (((A.getD r.toNat []).getD 0 0+ws.getD k 0)%1000003))) r.toNat q) (fA A r.toNat q+ws.getD k 0*(if q=0 then 1 else 0)):=λq hqj=>by
   rw[fA,e8 (l:=List.set A _ _),nH (by rw[hs.1];omega),aDY,sF,e8 (l:=List.set _ 0 _)]
   by_cases e:q=0
   ·subst e
    rw[nH (by rw[hq.2.1];omega),if_pos rfl,Int.mul_one]
    exact Cg.mod _
   ·rw[mG (iK e),if_neg e,←e8]
    exact Cg.of_eq (by rw[fA,sF];omega)
  refine(aP4 h1 h2 n aA).trans (ih.add (Cg.of_eq ?_))
  rw[wA (ws.getD k 0) j (λq=>if q=0 then 1 else 0),lA,tZ]
def aP6 (sz:Nat) (row Z:List (List Int)):Nat->List Int
 |0=>x8 sz
 |k+1=>iA (aP6 sz row Z k) (mulL (row.getD k []) (Z.getD k []))
theorem aFA {sz n:Nat} {row Z:List (List Int)} (hr:c7 sz n row):∀ k,k<=n->aW sz (aP6 sz row Z k)
 |0,_=>aDH sz
 |k+1,h=>lL (aFA hr k aA) (cF _ (hr.get (i:=k) aA).2)
theorem aFB {sz n j:Nat} (hj:j<sz) {row Z:List (List Int)} (hr:c7 sz n row):∀ k,k<=n->Cg (sF (aP6 sz row Z k) j) (eW (λi=>dG (fA row i) (fA Z i) j) k)
 |0,_=>Cg.of_eq (by rw[aP6,sF,x8,e8,sQ,if_pos hj];rfl)
 |k+1,h=>(pN (aFA hr k aA) (cF _ (hr.get (i:=k) aA).2) hj).trans ((aFB hj hr k aA).add (mV _ (hr.get (i:=k) aA).2 hj))
theorem aT6 {n o:Nat} (ho:o<n) (d:Nat->Int):∀ m,m<=n->eW (λk=>(eV n o).getD k 0*d k) m=if o<m then d o else 0
 |0,_=>rfl
 |m+1,h=>by
  rw[eW,aT6 ho d m aA]
  by_cases e:o=m
  ·subst e
   rw[if_neg (bV _),if_pos (sR _),eV,e8,nH (by rw[aFR];exact ho)];simp
  ·rw[aGJ e]
   by_cases h2:o<m
   ·rw[if_pos h2,if_pos aA];omega
   ·rw[if_neg h2,if_neg aA];omega
theorem a0E {sz:Nat} {a b:List Int} (ha:aW sz a) (hb:aW sz b) (h:∀ j,j<sz->Cg (sF a j) (sF b j)):a=b:=by
 apply tI
 ·rw[ha.1,hb.1]
 ·intro i h1 h2
  have:=(h i (by rw[←ha.1];exact h1)).num (ha.2.get i) (hb.2.get i)
  rw[sF,sF,e8,fC h1,e8,fC h2]at this
  exact this
theorem aP7 {sz:Nat} (hsz:1<=sz/\sz<=1048576) {code:List bG} {inp:Nat} (hins:∀ i c,code[i]?=some c->bN inp i c) {outs:List Int} (ho:∀ r∈outs,0<=r/\r<code.length) {rg:List (List Int)} (hrg:c7 sz code.length rg) {Z:List (List Int)} (hZ:c7 sz inp Z) {o:Nat} (hol:o<outs.length) :
  aP6 sz (byK code (nW code rg (rV outs (eV outs.length o) (List.replicate code.length (x8 sz)) outs.length) code.length 0) sz inp code.length) Z inp=dgS sz Z (λi=>rg.getD i []) code (outs.getD o 0).toNat:=by
 have hwn:=oJ outs.length o
 have hA0:=vB (sz:=sz) hsz.1 ho hwn outs.length (bY _)
 have hD:∀ k,k<code.length->aW sz (dgS sz Z (λi=>rg.getD i []) code k):=λk hk=>aP3 hsz.1 hins hZ.2 (by rw[hZ.1]) (λk hk=>(hrg.get hk).2) (k+1) k aA hk
 have hr0:=ho (outs.getD o 0) a4O
 have hA:=rK hsz hins hrg hA0 code.length 0 rfl
 have hB:=zE hins hA code.length (bY _)
 refine a0E (aFA hB inp (bY _)) (hD _ aA) λj hj=>?_
 have hps:=aT5 hj ho hwn (d:=λi=>sF (dgS sz Z (λi=>rg.getD i []) code i)) outs.length (bY _)
 have h1:=aLJ hsz hj hins hrg hA0 hD (λy c ec=>aGO ec (hins y c ec)) code.length (bY _)
 rw[sP,nW]at h1
 generalize rV outs (eV outs.length o) (List.replicate code.length (x8 sz)) outs.length=A0 at *
 generalize nW code rg A0 code.length 0=A at *
 have h2:=a0D hj hins hA (D:=dgS sz Z (λi=>rg.getD i []) code) (Z:=Z) (λk c ec h1=>by rw[aGO ec (hins k c ec),aGN,if_pos h1]) code.length (bY _)
 rw[aT6 hol (λk=>sF (dgS sz Z (λi=>rg.getD i []) code (outs.getD k 0).toNat) j) _ (bY _),if_pos hol]at hps
 exact(aFB hj hB inp (bY _)).trans (h2.trans (h1.symm.trans hps))
structure Ops (α:Type) where
 z:α->Bool
 dv:α->α->α
 tk:α->α->α->α
def rS {α:Type} (z:α->Bool) (M:Nat->Nat->α) (c n:Nat):Nat->Nat
 |0=>n
 |j+1=>if z (M (n-(j+1)) c)=true then rS z M c n j else n-(j+1)
def nG {α:Type} (M:Nat->Nat->α) (c r:Nat):Nat->Nat->α:=λi k=>M (if i=c then r else if i=r then c else i) k
def gsF {α:Type} (F:Ops α) (M:Nat->Nat->α) (c:Nat):Nat->Nat->α:=λi k=>if i=c then F.dv (M c k) (M c c)else F.tk (M i k) (M i c) (F.dv (M c k) (M c c))
def uO {α:Type} (F:Ops α) (n:Nat) (M:Nat->Nat->α):Nat->Option (Nat->Nat->α)
 |0=>some M
 |c+1=>match uO F n M c with
  |none=>none
  |some A=>if rS F.z A c n (n-c)=n then none else some (gsF F (nG A c (rS F.z A c n (n-c))) c)
theorem aP8 {α:Type} (z:α->Bool) (M:Nat->Nat->α) (c n:Nat):∀ j,j<=n->n-j<=rS z M c n j/\rS z M c n j<=n
 |0,_=>⟨by rw[rS];omega,by rw[rS];omega⟩
 |j+1,h=>by
  have:=aP8 z M c n j aA
  rw[rS]
  split <;> omega
theorem aP9 {α:Type} (z:α->Bool) (M:Nat->Nat->α) (c n:Nat):∀ j,j<=n->¬rS z M c n j=n->z (M (rS z M c n j) c)=false
 |0,_,h=>by rw[rS]at h;omega
 |j+1,h,q=>by
  rw[rS]at q ⊢
  by_cases e:z (M (n-(j+1)) c)=true
  ·rw[if_pos e]at q ⊢;exact aP9 z M c n j aA q
  ·rw[if_neg e]at q ⊢;simpa using e
def pJ (sz:Nat) (f g:Nat->Int):Prop:=∀ j,j<sz->Cg (f j) (g j)
theorem pJ.refl {sz:Nat} (f:Nat->Int):pJ sz f f:=λj _=>Cg.refl _
theorem pJ.symm {sz:Nat} {f g:Nat->Int} (h:pJ sz f g):pJ sz g f:=λj hj=>(h j hj).symm
theorem pJ.trans {sz:Nat} {f g h:Nat->Int} (a:pJ sz f g) (b:pJ sz g h):pJ sz f h:=λj hj=>(a j hj).trans (b j hj)
theorem pJ.conv {sz:Nat} {f f' g g':Nat->Int} (a:pJ sz f f') (b:pJ sz g g'):pJ sz (dG f g) (dG f' g'):=λj hj=>jP j _ _ _ _ (λi hi=>a i aA) λi hi=>b i aA
theorem pJ.sub {sz:Nat} {f f' g g':Nat->Int} (a:pJ sz f f') (b:pJ sz g g'):pJ sz (λi=>f i+-(g i)) (λi=>f' i+-(g' i)):=λj hj=>(a j hj).add (sH (b j hj))
theorem pJ.sum {sz:Nat} {F G:Nat->Nat->Int} {n:Nat} (h:∀ k,k<n->pJ sz (F k) (G k)):pJ sz (λj=>eW (λk=>F k j) n) (λj=>eW (λk=>G k j) n):=λj hj=>zG n λk hk=>h k hk j hj
def aGP:Nat->Int:=λi=>if i=0 then 1 else 0
theorem aLL (f:Nat->Int):dG f aGP=f:=funext λk=>tZ k f
theorem aLM (G:Nat->Nat->Int) (u:Nat->Int) (j:Nat):∀ n,dG (λi=>eW (λk=>G k i) n) u j=eW (λk=>dG (G k) u j) n
 |0=>rQ u j
 |n+1=>by
  show dG (λi=>eW (λk=>G k i) n+G n i) u j=_
  rw[rM j (λi=>eW (λk=>G k i) n) (G n),aLM G u j n];rfl
theorem a0G (f u y:Nat->Int):dG (dG f u) y=dG (dG f y) u:=by rw[aDJ,lA u y,←aDJ]
theorem aT7 (F G:Nat->Int):∀ n,eW (λk=>F k+-(G k)) n=eW F n+-(eW G n)
 |0=>rfl
 |n+1=>by rw[eW,eW,eW,aT7 F G n];omega
structure aT8 {α:Type} (F:Ops α) (sz:Nat) (ok:α->Prop) (den:α->Nat->Int):Prop where
 okd:∀ x d,ok x->ok d->F.z d=false->ok (F.dv x d)
 okt:∀ x f y,ok x->ok f->ok y->ok (F.tk x f y)
 dv:∀ d,ok d->F.z d=false->∃ iv:Nat->Int,(∀ x,ok x->pJ sz (den (F.dv x d)) (dG (den x) iv))/\pJ sz (dG (den d) iv) aGP
 tk:∀ x f y,ok x->ok f->ok y->pJ sz (den (F.tk x f y)) (λi=>den x i+-(dG (den f) (den y) i))
def rvF {α:Type} (den:α->Nat->Int) (M:Nat->Nat->α) (n:Nat) (y:Nat->Nat->Int) (i:Nat):Nat->Int:=λj=>eW (λk=>dG (den (M i k)) (y k) j) n
def aWJ {α:Type} (den:α->Nat->Int) (sz:Nat) (M:Nat->Nat->α) (n:Nat) (y:Nat->Nat->Int):Prop:=∀ i,i<n->pJ sz (rvF den M n y i) (den (M i n))
def okM {α:Type} (ok:α->Prop) (n:Nat) (M:Nat->Nat->α):Prop:=∀ i,i<n->∀ k,k<=n->ok (M i k)
theorem bCH {α:Type} {den:α->Nat->Int} {sz n c r:Nat} (hc:c<n) (hr:r<n) (M:Nat->Nat->α) (y:Nat->Nat->Int):aWJ den sz M n y↔aWJ den sz (nG M c r) n y:=by
 constructor
 ·intro h i hi
  exact h (if i=c then r else if i=r then c else i) (by split;exact hr;split;exact hc;exact hi)
 ·intro h i hi
  by_cases e1:i=c
  ·have h2:=h r hr
   by_cases e2:r=c
   ·have h3:=h c hc
    have e3:∀ k,nG M c r c k=M c k:=λk=>by rw[nG,if_pos rfl,e2]
    unfold rvF at h3 ⊢
    simp only[e3]at h3
    rw[e1];exact h3
   ·have e3:∀ k,nG M c r r k=M c k:=λk=>by rw[nG,if_neg e2,if_pos rfl]
    unfold rvF at h2 ⊢
    simp only[e3]at h2
    rw[e1];exact h2
  ·by_cases e2:i=r
   ·have h2:=h c hc
    have e3:∀ k,nG M c r c k=M r k:=λk=>by rw[nG,if_pos rfl]
    unfold rvF at h2 ⊢
    simp only[e3]at h2
    rw[e2];exact h2
   ·have h2:=h i hi
    have e3:∀ k,nG M c r i k=M i k:=λk=>by rw[nG,if_neg e1,if_neg e2]
    unfold rvF at h2 ⊢
    simp only[e3]at h2
    exact h2
theorem aWK {α:Type} {ok:α->Prop} {n c r:Nat} (hc:c<n) (hr:r<n) {M:Nat->Nat->α} (h:okM ok n M):okM ok n (nG M c r):=λi hi k hk =>
 h (if i=c then r else if i=r then c else i) (by split;exact hr;split;exact hc;exact hi) k hk
theorem aWL {α:Type} {F:Ops α} {sz:Nat} {ok:α->Prop} {den:α->Nat->Int} (D:aT8 F sz ok den) {n c:Nat} (hc:c<n) {M:Nat->Nat->α} (h:okM ok n M) (hz:F.z (M c c)=false):okM ok n (gsF F M c):=λi hi k hk=>by
 have hd:=D.okd _ _ (h c hc k hk) (h c hc c aA) hz
 unfold gsF
 split
 ·exact hd
 ·exact D.okt _ _ _ (h i hi k hk) (h i hi c aA) hd
theorem bCI {α:Type} {F:Ops α} {sz:Nat} {ok:α->Prop} {den:α->Nat->Int} (D:aT8 F sz ok den) {n c:Nat} (hc:c<n) {M:Nat->Nat->α} (h:okM ok n M) (hz:F.z (M c c)=false) (y:Nat->Nat->Int):aWJ den sz M n y↔aWJ den sz (gsF F M c) n y:=by
 obtain⟨iv,h1,h2⟩:=D.dv _ (h c hc c aA) hz
 have hdk:∀ k,k<=n->ok (F.dv (M c k) (M c c)):=λk hk=>D.okd _ _ (h c hc k hk) (h c hc c aA) hz
 have ec:∀ k,gsF F M c c k=F.dv (M c k) (M c c):=λk=>by rw[gsF,if_pos rfl]
 have ei:∀ i,¬i=c->∀ k,gsF F M c i k=F.tk (M i k) (M i c) (F.dv (M c k) (M c c)):=λi hi k=>by rw[gsF,if_neg hi]

 have hrc:pJ sz (rvF den (gsF F M c) n y c) (dG (rvF den M n y c) iv):=by
  refine pJ.trans (g:=λj=>eW (λk=>dG (dG (den (M c k)) (y k)) iv j) n) ?_ ?_
  ·refine pJ.sum (F:=λk=>dG (den (gsF F M c c k)) (y k)) (G:=λk=>dG (dG (den (M c k)) (y k)) iv) λk hk=>?_
   rw[ec,←a0G]
   exact(h1 _ (h c hc k aA)).conv (pJ.refl _)
  ·intro j hj
   exact Cg.of_eq (aLM (λk=>dG (den (M c k)) (y k)) iv j n).symm
 have hrb:pJ sz (den (gsF F M c c n)) (dG (den (M c n)) iv):=by rw[ec];exact h1 _ (h c hc n (bY _))
 have hback:∀ f:Nat->Int,pJ sz (dG (dG f iv) (den (M c c))) f:=λf=>by
  have h3:pJ sz (dG f (dG (den (M c c)) iv)) f:=by
   have:=(pJ.refl (sz:=sz) f).conv h2
   rwa [aLL]at this
  rw[aDJ,lA iv]
  exact h3
 have hci:pJ sz (rvF den M n y c) (den (M c n))↔pJ sz (rvF den (gsF F M c) n y c) (den (gsF F M c c n)):=by
  constructor
  ·intro q
   exact hrc.trans ((q.conv (pJ.refl _)).trans hrb.symm)
  ·intro q
   have q2:=(hrc.symm.trans (q.trans hrb)).conv (pJ.refl (den (M c c)))
   exact(hback _).symm.trans (q2.trans (hback _))

 have hri:∀ i,i<n->¬i=c->pJ sz (rvF den (gsF F M c) n y i) (λj=>rvF den M n y i j+-(dG (den (M i c)) (rvF den (gsF F M c) n y c) j)):=λi hi hic=>by
  refine pJ.trans (g:=λj=>eW (λk=>dG (λq=>den (M i k) q+-(dG (den (M i c)) (den (gsF F M c c k)) q)) (y k) j) n) ?_ ?_
  ·refine pJ.sum (F:=λk=>dG (den (gsF F M c i k)) (y k)) (G:=λk=>dG (λq=>den (M i k) q+-(dG (den (M i c)) (den (gsF F M c c k)) q)) (y k)) λk hk=>?_
   rw[ei i hic,ec]
   exact(D.tk _ _ _ (h i hi k aA) (h i hi c aA) (hdk k aA)).conv (pJ.refl _)
  ·intro j hj
   refine Cg.of_eq ?_
   have e1:∀ k,dG (λq=>den (M i k) q+-(dG (den (M i c)) (den (gsF F M c c k)) q)) (y k) j=dG (den (M i k)) (y k) j+-(dG (dG (den (gsF F M c c k)) (y k)) (den (M i c)) j):=λk=>by
    rw[rM j (den (M i k)) (λq=>-(dG (den (M i c)) (den (gsF F M c c k)) q)),zF j (dG (den (M i c)) (den (gsF F M c c k))),lA (den (M i c)),a0G]
   simp only[e1]
   rw[aT7,←aLM (λk=>dG (den (gsF F M c c k)) (y k)) (den (M i c)) j n,lA (den (M i c))]
   rfl
 have hrd:∀ i,i<n->¬i=c->pJ sz (den (gsF F M c i n)) (λj=>den (M i n) j+-(dG (den (M i c)) (den (gsF F M c c n)) j)):=λi hi hic=>by
  rw[ei i hic,ec]
  exact D.tk _ _ _ (h i hi n (bY _)) (h i hi c aA) (hdk n (bY _))
 constructor
 ·intro q i hi
  by_cases e:i=c
  ·subst e;exact hci.1 (q i hi)
  ·exact(hri i hi e).trans (((q i hi).sub ((pJ.refl _).conv (hci.1 (q c hc)))).trans (hrd i hi e).symm)
 ·intro q i hi
  by_cases e:i=c
  ·subst e;exact hci.2 (q i hi)
  ·have h3:=(hri i hi e).symm.trans ((q i hi).trans (hrd i hi e))
   intro j hj
   have h4:=h3 j hj
   have h5:=(pJ.refl (sz:=sz) (den (M i c))).conv (q c hc) j hj
   obtain⟨a,ha⟩:=h4
   obtain⟨b,hb⟩:=h5
   dsimp only at ha hb
   exact⟨a+b,by omega⟩
def aT9 {α:Type} (den:α->Nat->Int) (sz:Nat) (M:Nat->Nat->α) (n c:Nat):Prop:=∀ i,i<n->∀ k,k<c->pJ sz (den (M i k)) (λj=>if i=k then aGP j else 0)
theorem aLN (f:Nat->Int):dG (λ_=>0) f=λ_=>0:=funext λj=>rQ f j
theorem a7Q {α:Type} {den:α->Nat->Int} {sz n c r:Nat} (hc:c<n) (hr:r<n) (hcr:c<=r) {M:Nat->Nat->α} (h:aT9 den sz M n c):aT9 den sz (nG M c r) n c:=λi hi k hk=>by
 unfold nG
 by_cases e1:i=c
 ·rw[if_pos e1]
  have:=h r hr k hk
  simp only[if_neg (show ¬r=k by omega)]at this
  simp only[if_neg (show ¬i=k by omega)]
  exact this
 ·rw[if_neg e1]
  by_cases e2:i=r
  ·rw[if_pos e2]
   have:=h c hc k hk
   simp only[if_neg (show ¬c=k by omega)]at this
   simp only[if_neg (show ¬i=k by omega)]
   exact this
  ·rw[if_neg e2];exact h i hi k hk
theorem a7R {α:Type} {F:Ops α} {sz:Nat} {ok:α->Prop} {den:α->Nat->Int} (D:aT8 F sz ok den) {n c:Nat} (hc:c<n) {M:Nat->Nat->α} (h:okM ok n M) (hz:F.z (M c c)=false) (hu:aT9 den sz M n c):aT9 den sz (gsF F M c) n (c+1):=λi hi k hk=>by
 obtain⟨iv,h1,h2⟩:=D.dv _ (h c hc c aA) hz
 have hdk:ok (F.dv (M c k) (M c c)):=D.okd _ _ (h c hc k aA) (h c hc c aA) hz
 have hrow:pJ sz (den (F.dv (M c k) (M c c))) (λj=>if c=k then aGP j else 0):=by
  refine(h1 _ (h c hc k aA)).trans ?_
  by_cases e:c=k
  ·subst e
   simp only[if_true]
   exact h2
  ·simp only[if_neg e]
   have h3:=hu c hc k aA
   simp only[if_neg e]at h3
   have:=h3.conv (pJ.refl (sz:=sz) iv)
   rwa [aLN]at this
 unfold gsF
 by_cases e1:i=c
 ·rw[if_pos e1,e1];exact hrow
 ·rw[if_neg e1]
  refine(D.tk _ _ _ (h i hi k aA) (h i hi c aA) hdk).trans ?_
  have h3:=(pJ.refl (sz:=sz) (den (M i c))).conv hrow
  by_cases e:c=k
  ·subst e
   simp only[if_true,if_neg e1]at h3 ⊢
   have h4:pJ sz (dG (den (M i c)) λj=>aGP j) (den (M i c)):=by
    have:dG (den (M i c)) (λj=>aGP j)=den (M i c):=aLL _
    rw[this];exact pJ.refl _
   intro j hj
   obtain⟨a,ha⟩:=h3.trans h4 j hj
   exact⟨-a,by dsimp only;omega⟩
  ·simp only[if_neg e]at h3
   have h4:pJ sz (dG (den (M i c)) λ_=>0) (λ_=>0):=by rw[lA,aLN];exact pJ.refl _
   have h5:=hu i hi k aA
   intro j hj
   obtain⟨a,ha⟩:=h3.trans h4 j hj
   obtain⟨b,hb⟩:=h5 j hj
   simp only[if_neg e]at hb
   exact⟨b-a,by dsimp only at ha ⊢;omega⟩
theorem aFC {α:Type} {F:Ops α} {sz:Nat} {ok:α->Prop} {den:α->Nat->Int} (D:aT8 F sz ok den) {n:Nat} {M:Nat->Nat->α} (h:okM ok n M):∀ c,c<=n->∀ A,uO F n M c=some A->okM ok n A/\(∀ y,aWJ den sz M n y↔aWJ den sz A n y)/\aT9 den sz A n c
 |0,_,A,e=>by
  rw[uO]at e
  cases e
  exact⟨h,λ_=>Iff.rfl,λi _ k hk=>by omega⟩
 |c+1,hc,A,e=>by
  rw[uO]at e
  cases hB:uO F n M c with
  |none=>rw[hB]at e;cases e
  |some B =>
   rw[hB]at e
   simp only at e
   obtain⟨i1,i2,i3⟩:=aFC D h c aA B hB
   split at e
   ·cases e
   ·rename_i hne
    cases e
    have hge:=aP8 F.z B c n (n-c) aA
    have hnz:=aP9 F.z B c n (n-c) aA hne
    generalize rS F.z B c n (n-c)=r at *
    have hr:r<n:=by omega
    have hz:F.z (nG B c r c c)=false:=by rw[nG,if_pos rfl];exact hnz
    have h1:=aWK (ok:=ok) (by omega:c<n) hr i1
    exact⟨aWL D aA h1 hz,λy=>((i2 y).trans (bCH aA hr B y)).trans (bCI D aA h1 hz y),a7R D aA h1 hz (a7Q aA hr aA i3)⟩
theorem aN0 (G:Nat->Int) {i:Nat}:∀ n,eW (λk=>if i=k then G k else 0) n=if i<n then G i else 0
 |0=>rfl
 |n+1=>by
  rw[eW,aN0 G n]
  by_cases e:i=n
  ·subst e
   rw[if_neg (bV _),if_pos rfl,if_pos (sR _)];omega
  ·rw[if_neg e]
   by_cases h:i<n
   ·rw[if_pos h,if_pos aA];omega
   ·rw[if_neg h,if_neg aA];rfl
theorem a0H {α:Type} {F:Ops α} {sz:Nat} {ok:α->Prop} {den:α->Nat->Int} (D:aT8 F sz ok den) {n:Nat} {M A:Nat->Nat->α} (h:okM ok n M) (e:uO F n M n=some A) (y:Nat->Nat->Int):aWJ den sz M n y↔∀ i,i<n->pJ sz (y i) (den (A i n)):=by
 obtain⟨_,h2,h3⟩:=aFC D h n (bY _) A e
 rw[h2 y]
 have hrv:∀ i,i<n->pJ sz (rvF den A n y i) (y i):=λi hi=>by
  refine pJ.trans (g:=λj=>eW (λk=>if i=k then y k j else 0) n) ?_ ?_
  ·refine pJ.sum (F:=λk=>dG (den (A i k)) (y k)) (G:=λk j=>if i=k then y k j else 0) λk hk=>?_
   refine((h3 i hi k hk).conv (pJ.refl _)).trans ?_
   by_cases e:i=k
   ·simp only[if_pos e]
    have:dG (λj=>aGP j) (y k)=y k:=by rw[lA];exact aLL _
    rw[this];exact pJ.refl _
   ·simp only[if_neg e]
    rw[aLN];exact pJ.refl _
  ·intro j hj
   show Cg (eW (λk=>if i=k then y k j else 0) n) (y i j)
   rw[aN0 (λk=>y k j),if_pos hi];exact Cg.refl _
 constructor
 ·intro q i hi;exact(hrv i hi).symm.trans (q i hi)
 ·intro q i hi;exact(hrv i hi).trans (q i hi)
theorem aQB {α β:Type} {F:Ops α} {G:Ops β} {R:α->β->Prop} (hz:∀ x y,R x y->F.z x=G.z y) (hd:∀ x y d e,R x y->R d e->F.z d=false->R (F.dv x d) (G.dv y e)) (ht:∀ x y f g u v,R x y->R f g->R u v->R (F.tk x f u) (G.tk y g v))
  {n w:Nat} (hw:n<=w) {M:Nat->Nat->α} {N:Nat->Nat->β} (h:∀ i,i<n->∀ k,k<w->R (M i k) (N i k)):∀ c,c<=n->(uO F n M c=none/\uO G n N c=none)∨∃ A B,uO F n M c=some A/\uO G n N c=some B/\∀ i,i<n->∀ k,k<w->R (A i k) (B i k)
 |0,_=>.inr ⟨M,N,rfl,rfl,h⟩
 |c+1,hc=>by
  rcases aQB hz hd ht hw h c aA with⟨h1,h2⟩|⟨A,B,h1,h2,h3⟩
  ·left
   rw[uO,uO,h1,h2];exact⟨rfl,rfl⟩
  have hp:∀ j,j<=n-c->rS F.z A c n j=rS G.z B c n j:=λj=>by
   induction j with
   |zero=>intro _;rfl
   |succ j ih =>
    intro hj
    rw[rS,rS,ih aA,hz _ _ (h3 (n-(j+1)) aA c aA)]
  have hge:=aP8 F.z A c n (n-c) aA
  have hnz:=aP9 F.z A c n (n-c) aA
  have hp':=hp (n-c) (bY _)
  rw[uO,uO,h1,h2]
  simp only[←hp']
  generalize rS F.z A c n (n-c)=r at *
  by_cases e:r=n
  ·left;rw[if_pos e,if_pos e];exact⟨rfl,rfl⟩
  ·right
   rw[if_neg e,if_neg e]
   refine⟨_,_,rfl,rfl,λi hi k hk=>?_⟩
   have hs:∀ i,i<n->∀ k,k<w->R (nG A c r i k) (nG B c r i k):=λi hi k hk=>h3 (if i=c then r else if i=r then c else i) a4R k hk
   have hdd:=hd _ _ _ _ (hs c aA k hk) (hs c aA c aA) (by rw[nG,if_pos rfl];exact hnz e)
   unfold gsF
   split
   ·exact hdd
   ·exact ht _ _ _ _ _ _ (hs i hi k hk) (hs i hi c aA) hdd
def gM:Ops Int:=⟨λx=>decide (x=0),λx d=>x*gJ d%1000003,λx f y=>(x-f*y%1000003)%1000003⟩
def o8:Ops (List Int):=⟨λs=>decide (s.getD 0 0=0),gG,λx f y=>kD x (mulL f y)⟩
def bP4 (n:Int):Nat->Int:=λi=>if i=0 then n else 0
theorem a0I:aT8 gM 1 iE bP4 where
 okd _ _ _ _ _:=dY _
 okt _ _ _ _ _ _:=dY _
 dv d hd hz:=⟨bP4 (gJ d),λx _ j hj=>by
  obtain rfl:j=0:=by omega
  exact Cg.mod _,λj hj=>by
  obtain rfl:j=0:=by omega
  exact inv_mul hd (of_decide_eq_false hz)⟩
 tk x f y _ _ _:=λj hj=>by
  obtain rfl:j=0:=by omega
  refine(Cg.mod _).trans ?_
  obtain⟨q,hq⟩:=Cg.mod (f*y)
  exact⟨-q,by show x-f*y%1000003=x+-(f*y)+1000003*-q;omega⟩
theorem aQC {sz:Nat} {d:List Int} (hd:aW sz d) (h0:¬d.getD 0 0=0):pJ sz (dG (sF d) (sF (ivL d sz))) aGP:=λk hk=>by
 have hc:aW sz (bX 1 sz):=cS nO
 have h1:=aLG d hc hk
 rw[iI _ _ hk]at h1
 have h2:=inv_mul (hd.2.get 0) h0
 rw[lA,rN,eW,sP]
 have e:gG (bX 1 sz) d=ivL d sz:=rfl
 rw[e]at h1
 generalize eW (λi=>sF (ivL d sz) i*sF d (k-i)) k=S at *
 have h3:=h1.mul (Cg.refl (sF d 0))
 have e2:sF d 0=d.getD 0 0:=rfl
 rw[e2]at h3 ⊢
 have h4:Cg (((if k=0 then 1 else 0)-S)*gJ (d.getD 0 0)*d.getD 0 0) ((if k=0 then 1 else 0)-S):=by
  have:=(Cg.refl ((if k=0 then 1 else 0)-S)).mul h2
  rw[Int.mul_one]at this
  refine Cg.trans (Cg.of_eq ?_) this
  rw[aXD,aJJ (gJ _)]
 have h5:=(Cg.refl S).add (h3.trans h4)
 refine h5.trans (Cg.of_eq ?_)
 show _=aGP k
 unfold aGP
 omega
theorem wB (sz:Nat):aT8 o8 sz (aW sz) sF where
 okd x d hx _ _:=k8 d hx
 okt x f y hx hf _:=jO hx (cF _ hf)
 dv d hd hz:=⟨sF (ivL d sz),λx hx j hj=>aGM hx (j+1) j aA hj,aQC hd (of_decide_eq_false hz)⟩
 tk x f y hx hf hy:=λj hj=>(rP hx (cF _ hf) hj).trans ((Cg.refl _).add (sH (mV _ hf hj)))
def hdR (sz:Nat) (s:List Int) (x:Int):Prop:=aW sz s/\s.getD 0 0=x
theorem bCJ {sz:Nat} (hsz:1<=sz) {a:List Int} (b:List Int) (ha:aW sz a):(gG a b).getD 0 0=a.getD 0 0*gJ (b.getD 0 0)%1000003:=by
 have hl:0<a.length:=by rw[ha.1];exact hsz
 rw[e8,fC (by rw[pT];exact hl)]
 have:=aEX (a:=a) (b:=b) hl
 rw[aDY,this,dvS]
theorem bCK {sz:Nat} (hsz:1<=sz) {x f y:List Int} (hx:aW sz x) (hf:aW sz f):(kD x (mulL f y)).getD 0 0=(x.getD 0 0-f.getD 0 0*y.getD 0 0%1000003)%1000003:=by
 have h1:=(rP hx (cF y hf) (k:=0) hsz).trans ((Cg.refl _).add (sH (mV y hf (k:=0) hsz)))
 have h2:Cg ((x.getD 0 0-f.getD 0 0*y.getD 0 0%1000003)%1000003) (sF x 0+-(dG (sF f) (sF y) 0)):=by
  refine(Cg.mod _).trans ?_
  obtain⟨q,hq⟩:=Cg.mod (f.getD 0 0*y.getD 0 0)
  exact⟨-q,by show x.getD 0 0-f.getD 0 0*y.getD 0 0%1000003=x.getD 0 0+-(f.getD 0 0*y.getD 0 0)+1000003*-q;omega⟩
 exact(h1.trans h2.symm).num ((jO hx (cF y hf)).2.get 0) (dY _)
theorem aLO {sz n w:Nat} (hsz:1<=sz) (hw:n<=w) {M:Nat->Nat->List Int} (h:∀ i,i<n->∀ k,k<w->aW sz (M i k)) {N:Nat->Nat->Int} (hN:∀ i,i<n->∀ k,k<n->(M i k).getD 0 0=N i k):uO o8 n M n=none↔uO gM n N n=none:=by
 have h1:=aQB (F:=o8) (G:=gM) (R:=hdR sz) (λx y q=>by show decide (x.getD 0 0=0)=decide (y=0);rw[q.2]) (λx y d e q1 q2 _=>⟨k8 d q1.1,by rw[show o8.dv x d=gG x d from rfl,bCJ hsz d q1.1,q1.2,q2.2];rfl⟩)
  (λx y f g u v q1 q2 q3=>⟨jO q1.1 (cF _ q2.1),by rw[show o8.tk x f u=kD x (mulL f u)from rfl,bCK hsz q1.1 q2.1,q1.2,q2.2,q3.2];rfl⟩) (n:=n) (w:=n) (bY _) (M:=M) (N:=N) (λi hi k hk=>⟨h i hi k aA,hN i hi k hk⟩) n (bY _)
 rcases h1 with⟨a,b⟩|⟨A,B,a,b,_⟩
 ·rw[a,b];exact⟨λ_=>rfl,λ_=>rfl⟩
 ·rw[a,b];exact⟨λq=>(by cases q),λq=>(by cases q)⟩
def dtF (n:Nat) (M:Nat->Nat->Int):Nat->Option ((Nat->Nat->Int)×Int)
 |0=>some (M,1)
 |c+1=>match dtF n M c with
  |none=>none
  |some (A,d)=>if rS gM.z A c n (n-c)=n then none else some (λi k=>if c<i then gM.tk (nG A c (rS gM.z A c n (n-c)) i k) (nG A c (rS gM.z A c n (n-c)) i c*gJ (nG A c (rS gM.z A c n (n-c)) c c)%1000003) (nG A c (rS gM.z A c n (n-c)) c k)else nG A c (rS gM.z A c n (n-c)) i k,(if c<rS gM.z A c n (n-c)then(0-d)%1000003 else d)*nG A c (rS gM.z A c n (n-c)) c c%1000003)
theorem bJH {x y:Int} (hx:iE x) (hy:iE y) (h1:¬x=0) (h2:¬y=0):¬x*y%1000003=0:=λh=>by
 obtain⟨q,hq⟩:=inv_mul hx h1
 have h3:x*y=1000003*(x*y / 1000003):=by omega
 generalize x*y / 1000003=r at h3
 have h4:Cg y 0:=⟨gJ x*r-q*y,by grind⟩
 exact h2 (h4.num hy gZ)
theorem aWM (x f iv y:Int):gM.tk x (f*iv%1000003) y=gM.tk x f (y*iv%1000003):=by
 have h:f*iv%1000003*y%1000003=f*(y*iv%1000003)%1000003:=by
  refine((Cg.mod _).trans (((Cg.mod (f*iv)).mul (Cg.refl y)).trans ?_)).num (dY _) (dY _)
  refine Cg.symm ((Cg.mod _).trans (((Cg.refl f).mul (Cg.mod (y*iv))).trans (Cg.of_eq ?_)))
  grind
 show(x-f*iv%1000003*y%1000003)%1000003=(x-f*(y*iv%1000003)%1000003)%1000003
 rw[h]
theorem bGB {n:Nat} {M N:Nat->Nat->Int} (hM:∀ i,i<n->∀ k,k<n->iE (M i k)) (h:∀ i,i<n->∀ k,k<n->M i k=N i k):∀ c,c<=n->(dtF n M c=none/\uO gM n N c=none)∨∃ A d B,dtF n M c=some (A,d)/\uO gM n N c=some B/\(iE d/\¬d=0)/\(∀ i,i<n->∀ k,k<n->iE (A i k))/\∀ i,c<=i->i<n->∀ k,k<n->A i k=B i k
 |0,_=>.inr ⟨M,1,N,rfl,rfl,⟨by unfold iE;omega,by omega⟩,hM,λi _ hi k hk=>h i hi k hk⟩
 |c+1,hc=>by
  rcases bGB hM h c aA with⟨h1,h2⟩|⟨A,d,B,h1,h2,hd,hA,h3⟩
  ·left
   rw[dtF,uO,h1,h2];exact⟨rfl,rfl⟩
  have hp:∀ j,j<=n-c->rS gM.z A c n j=rS gM.z B c n j:=λj=>by
   induction j with
   |zero=>intro _;rfl
   |succ j ih =>
    intro hj
    rw[rS,rS,ih aA,h3 (n-(j+1)) aA aA c aA]
  have hge:=aP8 gM.z A c n (n-c) aA
  have hnz:=aP9 gM.z A c n (n-c) aA
  have hp':=hp (n-c) (bY _)
  rw[dtF,uO,h1,h2]
  simp only[←hp']
  generalize rS gM.z A c n (n-c)=r at *
  by_cases e:r=n
  ·left;rw[if_pos e,if_pos e];exact⟨rfl,rfl⟩
  right
  rw[if_neg e,if_neg e]
  have hs:∀ i,c<=i->i<n->∀ k,k<n->nG A c r i k=nG B c r i k:=λi hci hi k hk=>h3 (if i=c then r else if i=r then c else i) (by split;omega;split;omega;exact hci) a4R k hk
  have hsn:∀ i,i<n->∀ k,k<n->iE (nG A c r i k):=λi hi k hk=>hA (if i=c then r else if i=r then c else i) a4R k hk
  have hzc:¬nG A c r c c=0:=by
   have:=hnz e
   rw[nG,if_pos rfl]
   exact of_decide_eq_false this
  refine⟨_,_,_,rfl,rfl,⟨dY _,bJH ?_ (hsn c aA c aA) ?_ hzc⟩,λi hi k hk=>?_,λi hci hi k hk=>?_⟩
  ·split
   ·exact dY _
   ·exact hd.1
  ·have:=hd
   unfold iE at this
   split <;> omega
  ·split
   ·exact dY _
   ·exact hsn i hi k hk
  ·rw[if_pos aA,aWM,hs i aA hi k hk,hs i aA hi c aA,hs c (bY _) aA k hk,hs c (bY _) aA c aA,gsF,if_neg aA]
   rfl
theorem a0J {R:List Int->List Int->Prop} {sz sz':Nat} (H:a7N R sz sz') {code:List bG} {inp:Int} (hins:∀ i c,code[i]?=some c->bN inp i c) {args args':List (List Int)} (ha:eG R args args'):∀ n k,k<n->k<code.length->R (fM sz args code k) (fM sz' args' code k)
 |0,k,h,_=>by omega
 |n+1,k,hn,hk=>by
  have ih:=λi hi=>a0J H hins ha n i hi
  have e:code[k]?=some code[k]:=fC hk
  have hc:=hins k _ e
  generalize code[k]=c at *
  by_cases h1:c.gB=1
  ·rw[zC e h1,zC e h1];exact ha.get H.nil _
  by_cases h2:c.gB=2
  ·rw[tX e h2,tX e h2];exact H.const _
  rw[zD e hc h1 h2,zD e hc h1 h2]
  unfold bN at hc
  have da:=ih c.fA.toNat aA aA
  have db:=ih c.fB.toNat aA aA
  unfold opW
  split
  ·exact H.add da db
  split
  ·exact H.sub da db
  split
  ·exact H.mul da db
  split
  ·exact H.scl _ da
  ·exact H.div da db
theorem a0K {R:List Int->List Int->Prop} {sz sz':Nat} (H:a7N R sz sz') {code:List bG} {inp:Int} (hins:∀ i c,code[i]?=some c->bN inp i c) {dirs dirs':List (List Int)} (hd:eG R dirs dirs') {rg rg':Nat->List Int} (hrg:∀ k,k<code.length->R (rg k) (rg' k)):∀ n k,k<n->k<code.length->R (dgS sz dirs rg code k) (dgS sz' dirs' rg' code k)
 |0,k,h,_=>by omega
 |n+1,k,hn,hk=>by
  have ih:=λi hi=>a0K H hins hd hrg n i hi
  have e:code[k]?=some code[k]:=fC hk
  have hc:=hins k _ e
  rw[aGO e hc,aGO e hc]
  generalize code[k]=c at *
  unfold bN at hc
  have hk':=hrg k hk
  unfold aGN
  by_cases h1:c.gB=1
  ·rw[if_pos h1,if_pos h1];exact hd.get H.nil _
  rw[if_neg h1,if_neg h1]
  by_cases h2:c.gB=2
  ·rw[if_pos h2,if_pos h2];exact H.const _
  rw[if_neg h2,if_neg h2]
  have da:=ih c.fA.toNat aA aA
  have db:=ih c.fB.toNat aA aA
  have ra:=hrg c.fA.toNat aA
  have rb:=hrg c.fB.toNat aA
  split
  ·exact H.add da db
  split
  ·exact H.sub da db
  split
  ·exact H.add (H.mul da rb) (H.mul ra db)
  split
  ·exact H.scl _ da
  ·exact H.div (H.sub da (H.mul hk' db)) rb
def St (start:List Int) (sz:Nat) (X:List (List Int)):Prop:=c7 sz start.length X/\∀ i,i<start.length->(X.getD i []).getD 0 0=start.getD i 0
def sI (start:List Int) (sz:Nat):List (List Int):=start.map λn=>bX n sz
theorem a3A {n i:Nat} (hi:i<n) (f:Nat->List Int):((List.range n).map f).getD i []=f i:=by
 rw[e8,sO,al8 hi];rfl
theorem St.len {start:List Int} {sz:Nat} {X:List (List Int)} (h:St start sz X) {i:Nat} (hi:i<start.length):(X.getD i []).length=sz:=(h.1.get hi).2.1
def vI {α:Type} (n:Nat) (N:Nat->Nat->α) (r:Nat->α):Nat->Nat->α:=λi k=>if k<n then N i k else r i
theorem bJI {n:Nat} {N:Nat->Nat->Int} {r:Nat->Int} (hN:∀ i,i<n->∀ k,k<n->iE (N i k)) (hr:∀ i,i<n->iE (r i)):okM iE n (vI n N r):=λi hi k _=>by
 unfold vI
 split
 ·exact hN i hi k kX
 ·exact hr i hi
def aBM (X:Out (List (List Int))):List Int×Int×Int:=match X with
 | .ok (vs,t)=>(vs.map (·.getD 0 0),t,0)
 | .error c=>([],0,c)
theorem aUA {X:Out (List (List Int))} {l:List (List Int)} {t:Nat} {c:Int} (h:jN X l t c):aBM X=if c=0 then(l.map (·.getD 0 0),(t:Int),0)else([],0,c):=by
 cases X with
 |ok p =>
  obtain⟨w,u⟩:=p
  obtain⟨rfl,rfl,rfl⟩:=h
  rfl
 |error d =>
  obtain⟨rfl,h⟩:=h
  rw[if_neg h];rfl
theorem wC (l:List Int) (hl:l.length<=1048576):fR Tryz.prog 128 [ints l] (ints l):=aCP (aVY l hl)
theorem aUB {l:List Int} {n len:Nat} {h h':aB} (x c:Int) (hn:h n=none) (hl:(aT h n (.row 1 ((l.map λx=>[I x]).map (List.map .v)))).le h') (e:len=l.length:=by simp) :
  ∃ r1 g l1,Shift (.gK [.os n 1 0 len,I x,I c]) h' r1 g/\QS (OS (oP I) 1 l) (λy=>.gK [y,I x,I c]) r1 l1/\fI h l1 g:=by
 subst e
 refine⟨.gK [(OV.sl n 1 (l.map λx=>[.v (I x)])).val,I x,I c],aT h n (.row 1 ((l.map λx=>[I x]).map (List.map .v))),_,?_,⟨_,OS.mk (wU l),rfl,rfl⟩,?_⟩
 ·rw[OV.jG];exact Shift.of (Sub.refl _) hl
 ·rw[OV.eK,gL,fP];exact fI.one hn
theorem aFD {h h':aB} (x c:Int) (hl:h.le h') :
  ∃ r1 g l1,Shift (.gK [.sl 1 [] true,I x,I c]) h' r1 g/\QS (OS (oP I) 1 []) (λy=>.gK [y,I x,I c]) r1 l1/\fI h l1 g :=
 ⟨.gK [(OV.nil 1).val,I x,I c],h,_,Shift.of (Sub.refl _) hl,⟨_,OS.nil,rfl,rfl⟩,by rw[OV.sV];exact fI.nil h⟩
@[go_sem] def aQD:List Nat:=[0,1,2,6,7,8,9,10,11,12,13,14,22,46,56]
@[go_sem] def bCL:List Nat:=[18,30,31,47,52,66]
@[go_sem] def bCM:Marks:=λid=>match id with|9=>([4],(.op 0 (.op 1 (.op 2 (.op 3 (.op 4 (.op 5 (.op 6 (.op 7 .nil)))))))),[])|15=>([4],(.op 0 (.op 1 (.op 2 (.op 3 (.op 4 (.op 5 (.op 6 (.op 7 .nil)))))))),[])|_=>([],.nil,[])
theorem a7S {p:aF} (hp:p.ok) (f:Int) (hf:0<=f/\f<p.aK.length) (args:List Int) (na:eI args) (hal:args.length<=12) (hl:∀ F,p.aK[f.toNat]?=some F->(args.length:Int)=F.aR) :
  yR Tryz.prog 87 [.ip 1 [p.c] 0 0,I f,ints args] (QS (OS (oP I) 1 (aBM (xP p 1 f (args.map λn=>[n]))).1) λy=>.gK [y,I (aBM (xP p 1 f (args.map λn=>[n]))).2.1,I (aBM (xP p 1 f (args.map λn=>[n]))).2.2]):=by
 obtain⟨F,ef,hF1,hF2,hF3,hF4⟩:=pZ hp hf
 have hlF:=hl F ef
 rw[aF.aY]
 refine yT 73 aQD bCL bCM Tryz.func87 λh=>?_
 simp -dsimp -implicitDefEqProofs only[go_sem,↓reduceIte,Tryz.f87]
 intro nb zb
 refine⟨aX,?_⟩
 have hbd:bU.row 4 [[Cell.v (.ip 1 [[gT 3 aV.c p.aK]] 0 0),Cell.v (I 1),Cell.v (I 0),Cell.v (I 0)]]=eH p 1 0 0:=rfl
 rw[hbd]
 have hB0:(aT h nb (eH p 1 0 0)) nb=some (eH p 1 0 0):=aI _ _ _
 have hBl:h.le (aT h nb (eH p 1 0 0)):=aB.bM zb (aB.le_refl _)
 generalize hgB:aT h nb (eH p 1 0 0)=hB at hB0 hBl ⊢
 refine aGA aQD bCL bCM (λx:Nat×Option Nat=>[(0,.ip 1 [[gT 3 aV.c p.aK]] 0 0),(1,I f),(2,ints args),(9,.op nb 4 0 0),(10,fT 1 (args.take x.1).length x.2),(11,I x.1)]) (λx=>cQ hB (.row 1 ((((args.take x.1).map λn=>[n]).map λs=>[ints s]).map (List.map .v))) x.2) (λx=>x.1<=args.length/\eU hB (args.take x.1) x.2) (λx=>args.length-x.1) (0,none) ⟨by simp[cR,bZ,fT],by simp only[aM];exact aB.kH (aB.le_refl _),eM _,by simp[eU]⟩ ?_
 rintro⟨k,o⟩ ⟨hk,hos⟩
 simp only at hk hos ⊢
 rcases bT k args.length with hlt|hge
 ·have ea:args[k]?=some args[k]:=fC hlt
  have hy:args.take (k+1)=args.take k++[args[k]]:=iW hlt
  have hlk:(args.take k).length=k:=by rw[nU];omega
  cases o with
  |none =>
   rw[aZ]at hos
   rw[hos]at hy ⊢
   simp -dsimp -implicitDefEqProofs only[go_sem,↓reduceIte,Tryz.f87,bD,aM,hlt,ea]
   intro _
   refine⟨aX,aX,aX,aX,aX,λb hb=>⟨(k+1,some b),?_⟩⟩
   simp only[hy]
   refine⟨⟨rfl,by rw[IntWalk.i64_in _ aA];rfl⟩,aIR (A:=[]) (x:=.sl 1 [[I args[k]]] true) (y:=ints [args[k]]) (aI _ _ _) (Sub.loose _ _ _) tL,⟨by omega,hb⟩,by omega⟩
  |some n =>
   rw[aP]at hos
   simp -dsimp -implicitDefEqProofs only[go_sem,↓reduceIte,Tryz.f87,aQ,aJ,hlt,ea]
   intro _
   refine⟨aX,aX,aX,aX,aX,bY _,by omega,by omega,λb hb=>⟨(k+1,some b),?_⟩⟩
   simp only[hy,aJ,aQ,aP]
   refine⟨⟨by rw[nT];rfl,by rw[IntWalk.i64_in _ aA];rfl⟩,aIR (x:=.sl 1 [[I args[k]]] true) (y:=ints [args[k]]) (aI _ _ _) (Sub.loose _ _ _) ?_,⟨by omega,hb.2⟩,by omega⟩
   have hl2:(args.take k).length=((args.take k).map λn=>[n]).length:=by rw[gX]
   rw[aL,mY,show((args.take k).map λn=>[n])++[args[k]].map (λn=>[n])=((args.take k).map λn=>[n])++[[args[k]]]from rfl,←dS ints,hl2]
   exact jL hos
 have hk':k=args.length:=by omega
 subst hk'
 rw[nM]at hos ⊢
 have hserA:∀ s∈args.map (λn=>[n]),aW 1 s:=λs hs=>by
  obtain⟨n,hn,rfl⟩:=lZ.1 hs
  refine⟨rfl,λx hx=>?_⟩
  rw[iO.1 hx]
  exact na n hn
 have hlA:((args.map λn=>[n]).length:Int)=F.aR:=by rw[gX];exact hlF
 have hnbB:∀ {m:Nat},hB m=none->¬nb=m:=λhm e=>by rw[←e,hB0]at hm;cases hm
 cases o with
 |none =>
  rw[aZ]at hos
  subst hos
  simp -dsimp -implicitDefEqProofs only[go_sem,↓reduceIte,Tryz.f87,bD,aM,bV,cY,ef]
  refine⟨hf.1,by omega,?_⟩
  have ho:=aIP (run hp (by decide:1<=1/\1<=1048576) 3001) hB nb 0 0 F [] f hB0 aA aA aA (by rw[gX]at hlA;rw[show(([]:List (List Int)).length:Int)=F.aR from hlA];exact hF4) hf.1 aA eC eC
  refine aH.fX (iD.sub (.cons (.refl _) (.cons (Sub.ip a4T aYD) (.cons (Sub.loose _ _ _) .nil))) ho) ?_
  rintro r h' ⟨vs,t,c,rfl,rfl,hvl,hvs,a1,a2,a3⟩
  have hCl:h.le (aT hB nb (eH p 1 t c)):=aB.bM zb hBl
  have hCn:(aT hB nb (eH p 1 t c)) nb=some (.row 4 [[.v (.ip 1 [p.c] 0 0),.v (I 1),.v (I t),.v (I c)]]):=aI _ _ _
  generalize aT hB nb (eH p 1 t c)=hC at hCn hCl ⊢
  rw[cZ,←hF3]at a3
  simp -dsimp -implicitDefEqProofs only[go_sem,↓reduceIte,Tryz.f87,hCn]
  have nX:=aUA (show jN (xP p 1 f _) vs t c from a3)
  refine⟨λhc=>⟨aX,?_⟩,λhc=>⟨aX,?_⟩⟩
  ·try simp only[w9]
   rw[nX,if_neg hc]
   exact aFD 0 c hCl
  subst hc
  rw[if_pos rfl]at nX
  have hcv:(vs.map λs=>s.getD 0 0).length=vs.length:=gX _
  refine cM aQD bCL bCM (λx:Nat×Option Nat=>[(9,.op nb 4 0 0),(12,bL vs),(13,fT 1 ((vs.map λs=>s.getD 0 0).take x.1).length x.2),(14,I x.1)]) (λx=>cQ hC (.row 1 ((((vs.map λs=>s.getD 0 0).take x.1).map λn=>[I n]).map (List.map .v))) x.2) (λx=>x.1<=vs.length/\eU hC ((vs.map λs=>s.getD 0 0).take x.1) x.2) (λx=>vs.length-x.1) (0,none) ⟨by simp[cR,bZ,fT],by simp only[aM];exact aB.le_refl _,eM _,by simp[eU]⟩ ?_
  rintro⟨k,o⟩ ⟨hk,hos⟩
  simp only at hk hos ⊢
  rcases bT k vs.length with hlt|hge
  ·have ea:vs[k]?=some vs[k]:=fC hlt
   have h0:=hvs _ (lF hlt)
   have e0:(vs[k])[Int.toNat 0]?=some (vs[k].getD 0 0):=bW (by rw[h0.1];decide)
   have h0l:=h0.1
   have hy:(vs.map λs=>s.getD 0 0).take (k+1)=(vs.map λs=>s.getD 0 0).take k++[(vs.map λs=>s.getD 0 0)[k]'aA]:=iW aA
   have hlk:((vs.map λs=>s.getD 0 0).take k).length=k:=by rw[nU];omega
   rw[tJ]at hy
   cases o with
   |none =>
    rw[aZ]at hos
    rw[hos]at hy ⊢
    simp -dsimp -implicitDefEqProofs only[go_sem,↓reduceIte,Tryz.f87,bD,aM,hlt,ea,e0]
    repeat'(with_reducible first|intro _|refine And.intro ?_ ?_)
    all_goals try(first|omega|decide)
    rename_i b hb
    refine⟨(k+1,some b),?_⟩
    simp only[hy]
    refine⟨⟨rfl,?_⟩,aB.le_refl _,⟨by omega,hb⟩,by omega⟩
    rw[IntWalk.i64_in _ aA];rfl
   |some n =>
    rw[aP]at hos
    simp -dsimp -implicitDefEqProofs only[go_sem,↓reduceIte,Tryz.f87,aQ,aJ,hlt,ea,e0]
    repeat'(with_reducible first|intro _|refine And.intro ?_ ?_)
    all_goals try(first|omega|decide|exact bY _)
    rename_i b hb
    refine⟨(k+1,some b),?_⟩
    simp only[hy,aJ,aQ,aP]
    refine⟨⟨by rw[nT];rfl,?_⟩,?_,⟨by omega,hb.2⟩,by omega⟩
    ·rw[IntWalk.i64_in _ aA];rfl
    ·rw[←dS];exact jL hos
  ·have hk':k=vs.length:=by omega
   subst hk'
   rw[hJ aA]at hos ⊢
   cases o with
   |none =>
    rw[aZ]at hos
    simp -dsimp -implicitDefEqProofs only[go_sem,↓reduceIte,Tryz.f87,bD,aM,bV,cY,hCn]
    intro _
    try simp only[w9]
    rw[nX,hos]
    exact aFD _ _ hCl
   |some n =>
    rw[aP]at hos
    obtain⟨aBF,iL,iM,rF⟩:=cW (show ¬n=nb from λe=>by rw[e,hCn]at hos;cases hos)
    simp -dsimp -implicitDefEqProofs only[go_sem,↓reduceIte,Tryz.f87,aQ,aJ,bV,cY,aD,iL,iM,hCn]
    intro _
    try simp only[w9]
    rw[nX]
    exact aUB _ _ (aB.le_none hCl hos) (aB.pY hCl)
 |some n =>
  rw[aP]at hos
  simp -dsimp -implicitDefEqProofs only[go_sem,↓reduceIte,Tryz.f87,aQ,aJ,bV,cY,ef]
  intro _
  refine⟨hf.1,by omega,?_⟩
  have hnn:=hnbB hos
  refine aH.a6I rfl rfl hnn (by rw[gX,gX]) hos ?_
  have ho:=aIP (run hp (by decide:1<=1/\1<=1048576) 3001) (aT hB n .gone) nb 0 0 F (args.map λn=>[n]) f (by rw[aD _ _ _ _ hnn];exact hB0) aA aA aA (by rw[hlA];exact hF4) hf.1 aA hserA (by rw[gX];omega)
  refine iD.mono (iD.sub (.cons (.refl _) (.cons (Sub.ip a4T aYD) (.cons (.refl _) .nil))) ho) ?_
  rintro r h' ⟨vs,t,c,rfl,rfl,hvl,hvs,a1,a2,a3⟩
  have hhn:h n=none:=by rw[←hgB,aD _ _ _ _ (iK hnn)]at hos;exact hos
  have hCl:h.le (aT (aT hB n .gone) nb (eH p 1 t c)):=aB.bM zb (aB.bM hhn hBl)
  have hCn:(aT (aT hB n .gone) nb (eH p 1 t c)) nb=some (.row 4 [[.v (.ip 1 [p.c] 0 0),.v (I 1),.v (I t),.v (I c)]]):=aI _ _ _
  generalize aT (aT hB n .gone) nb (eH p 1 t c)=hC at hCn hCl ⊢
  rw[cZ,←hF3]at a3
  simp -dsimp -implicitDefEqProofs only[go_sem,↓reduceIte,Tryz.f87,hCn]
  have nX:=aUA (show jN (xP p 1 f _) vs t c from a3)
  refine⟨λhc=>⟨aX,?_⟩,λhc=>⟨aX,?_⟩⟩
  ·try simp only[w9]
   rw[nX,if_neg hc]
   exact aFD 0 c hCl
  subst hc
  rw[if_pos rfl]at nX
  have hcv:(vs.map λs=>s.getD 0 0).length=vs.length:=gX _
  refine cM aQD bCL bCM (λx:Nat×Option Nat=>[(9,.op nb 4 0 0),(12,bL vs),(13,fT 1 ((vs.map λs=>s.getD 0 0).take x.1).length x.2),(14,I x.1)]) (λx=>cQ hC (.row 1 ((((vs.map λs=>s.getD 0 0).take x.1).map λn=>[I n]).map (List.map .v))) x.2) (λx=>x.1<=vs.length/\eU hC ((vs.map λs=>s.getD 0 0).take x.1) x.2) (λx=>vs.length-x.1) (0,none) ⟨by simp[cR,bZ,fT],by simp only[aM];exact aB.le_refl _,eM _,by simp[eU]⟩ ?_
  rintro⟨k,o⟩ ⟨hk,hos⟩
  simp only at hk hos ⊢
  rcases bT k vs.length with hlt|hge
  ·have ea:vs[k]?=some vs[k]:=fC hlt
   have h0:=hvs _ (lF hlt)
   have e0:(vs[k])[Int.toNat 0]?=some (vs[k].getD 0 0):=bW (by rw[h0.1];decide)
   have h0l:=h0.1
   have hy:(vs.map λs=>s.getD 0 0).take (k+1)=(vs.map λs=>s.getD 0 0).take k++[(vs.map λs=>s.getD 0 0)[k]'aA]:=iW aA
   have hlk:((vs.map λs=>s.getD 0 0).take k).length=k:=by rw[nU];omega
   rw[tJ]at hy
   cases o with
   |none =>
    rw[aZ]at hos
    rw[hos]at hy ⊢
    simp -dsimp -implicitDefEqProofs only[go_sem,↓reduceIte,Tryz.f87,bD,aM,hlt,ea,e0]
    repeat'(with_reducible first|intro _|refine And.intro ?_ ?_)
    all_goals try(first|omega|decide)
    rename_i b hb
    refine⟨(k+1,some b),?_⟩
    simp only[hy]
    refine⟨⟨rfl,?_⟩,aB.le_refl _,⟨by omega,hb⟩,by omega⟩
    rw[IntWalk.i64_in _ aA];rfl
   |some n =>
    rw[aP]at hos
    simp -dsimp -implicitDefEqProofs only[go_sem,↓reduceIte,Tryz.f87,aQ,aJ,hlt,ea,e0]
    repeat'(with_reducible first|intro _|refine And.intro ?_ ?_)
    all_goals try(first|omega|decide|exact bY _)
    rename_i b hb
    refine⟨(k+1,some b),?_⟩
    simp only[hy,aJ,aQ,aP]
    refine⟨⟨by rw[nT];rfl,?_⟩,?_,⟨by omega,hb.2⟩,by omega⟩
    ·rw[IntWalk.i64_in _ aA];rfl
    ·rw[←dS];exact jL hos
  ·have hk':k=vs.length:=by omega
   subst hk'
   rw[hJ aA]at hos ⊢
   cases o with
   |none =>
    rw[aZ]at hos
    simp -dsimp -implicitDefEqProofs only[go_sem,↓reduceIte,Tryz.f87,bD,aM,bV,cY,hCn]
    intro _
    try simp only[w9]
    rw[nX,hos]
    exact aFD _ _ hCl
   |some n =>
    rw[aP]at hos
    obtain⟨aBF,iL,iM,rF⟩:=cW (show ¬n=nb from λe=>by rw[e,hCn]at hos;cases hos)
    simp -dsimp -implicitDefEqProofs only[go_sem,↓reduceIte,Tryz.f87,aQ,aJ,bV,cY,aD,iL,iM,hCn]
    intro _
    try simp only[w9]
    rw[nX]
    exact aUB _ _ (aB.le_none hCl hos) (aB.pY hCl)
theorem a0L {p:aF} (hp:p.ok) (f:Int) (hf:0<=f/\f<p.aK.length) (args:List Int) (na:eI args) (hal:args.length<=12) (hl:∀ F,p.aK[f.toNat]?=some F->(args.length:Int)=F.aR) :
  fR Tryz.prog 87 [.ip 1 [p.c] 0 0,I f,ints args] (.gK [ints (aBM (xP p 1 f (args.map λn=>[n]))).1,I (aBM (xP p 1 f (args.map λn=>[n]))).2.1,I (aBM (xP p 1 f (args.map λn=>[n]))).2.2]) :=
 QS.bAY (a7S hp f hf args na hal hl) (λy hy=>OS.pX (c:=λn=>[I n]) (λ_ _ q=>aC6 q) hy) (aA7 [] [I (aBM (xP p 1 f (args.map λn=>[n]))).2.1,I (aBM (xP p 1 f (args.map λn=>[n]))).2.2])
end Go.Hl

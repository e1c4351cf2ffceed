/-
  Contracts of functions and laws of the layer over the walk.
-/
import Derived.Test.YtchbdakgjlnbgaaGreatDoorVvG
import Derived.Test.YtchbdakgjlnbgaaGreatDoorVvD
import Derived.Test.YtchbdakgjlnbgaaGreatDoorVvA
import Derived.Test.YtchbdakgjlnbgaaGreatDoorVvB
namespace Go.Hl
open Go.Proofs
set_option linter.unusedVariables false
set_option linter.unusedSimpArgs false
def aAE (b:Int) (w:List UInt8):Int:=w.foldl (λb c=>(257*b+c.toNat)%1000003) b
theorem aBZ:∀ (w:List UInt8) {b:Int},oI b->oI (aAE b w)
 | [],_,h=>h
 |c::w,b,h=>aBZ w (b:=(257*b+c.toNat)%1000003) wN
theorem bGF (b:Int) (w:List UInt8) (c:UInt8):aAE b (w++[c])=(257*aAE b w+c.toNat)%1000003:=by simp[aAE]
theorem aYM (b:Int) {w:List UInt8} {k:Nat} (h:k<w.length):aAE b (w.take (k+1))=(257*aAE b (w.take k)+(w[k]).toNat)%1000003:=by rw[kF h,bGF]
def xG (n:List Int):dU:=⟨n.getD 0 0,n.getD 1 0,⟨0,n.getD 2 0,n.drop 3⟩⟩
def aB7 (n:List Int):dU:=⟨n.getD 0 0,n.getD 1 0,⟨n.getD 2 0,0,[]⟩⟩
noncomputable def zC (s:aI) (r:dU):Option aI:=if qH s r/\tD s r then some (aMR s r)else none
def bLB:List UInt8:=[112,97,114,116]
def bLC:List UInt8:=[102,97,105,108]
def bAH:List UInt8:=[112,111,105,110,116]
def bLD:List UInt8:=[116,101,114,109]
noncomputable def aM5 (s:aI) (n:List Int):Option aI:=if aFV s n/\¬aAD s n then some (aDE s n)else none
noncomputable def aM6 (s:aI) (k:Int) (n:List Int):Option aI:=if rX s k n/\¬s.aT[k.toNat]?=some 50 then some (aP8 s k n)else none
noncomputable def pL (s:aI) (w:List UInt8) (n:List Int):Option aI :=
 if w=bLB then(if 3<=n.length then zC s (xG n)else none)
 else if w=bLC then(if n.length=3/\¬n.getD 2 0=0 then zC s (aB7 n)else none)
 else if w=bAH then aM5 s n
 else if w=bLD then(if 1<=n.length then aM6 s (n.getD 0 0) (n.drop 1)else none)
 else none
theorem bLE {s:aI} {r:dU} (h:s.ok) (h1:qH s r) (h2:tD s r):(aMR s r).ok:=by
 have hst:=aI.aAZ h
 obtain⟨hj,⟨l1,l2,l3,l4⟩,ha⟩:=h
 refine⟨hj,⟨l1,by simp only[aMR,aA6];exact l2,by simp only[aMR,aA6];exact l3,by simp only[aMR,aA6];exact l4⟩,λk st ow kn p e1 e2 e3 e4=>?_⟩
 simp only[aMR]at e1 e2 e3 e4 ⊢
 by_cases e:r.fW.toNat=k
 ·have kb:=(oG.1 h2.1).1
  rw[e]at kb e2 e3 e4
  rw[a6P aA]at e2 e3 e4
  cases e2;cases e3;cases e4
  exact⟨hst _ (vJ e1),⟨by omega,by omega⟩,λ_=>⟨rfl,h1.2.2⟩,λq=>by cases q⟩
 ·rw[a19 e]at e2 e3 e4
  exact ha k st ow kn p e1 e2 e3 e4
theorem aU9 {s:aI} {k:Nat} (h:s.ok) (h1:k<s.bC.aV.length) (h2:¬s.aT[k]?=some 50):(j8 s k).ok:=by
 have hst:=aI.aAZ h
 obtain⟨hj,⟨l1,l2,l3,l4⟩,ha⟩:=h
 refine⟨hj,⟨by simp only[j8,aA6];exact l1,by simp only[j8,aA6];exact l2,by simp only[j8,aA6];exact l3,by simp only[j8,aA6];exact l4⟩,λi st ow kn p e1 e2 e3 e4=>?_⟩
 simp only[j8,aA7]at e1 e2 e3 e4 ⊢
 by_cases e:k=i
 ·rw[e]at e1 e2 e3 e4 h2
  rw[a6P aA]at e1 e2 e3 e4
  cases e1;cases e2;cases e3;cases e4
  have gs:s.aT[i]?=some (s.aT[i]'aA):=cJ _
  have hb:=hst _ (dX (l:=s.aT) (n:=i) aA)
  have hne:¬s.aT[i]'aA=50:=λq=>h2 (by rw[gs,q])
  have hd:s.aT.getD i 0=s.aT[i]'aA:=by rw[jH,gs];rfl
  exact⟨⟨by rw[hd];omega,by rw[hd];omega⟩,⟨by omega,by omega⟩,(λq=>by cases q),λ_=>⟨rfl,rfl,rfl⟩⟩
 ·rw[a19 e]at e1 e2 e3 e4
  exact ha i st ow kn p e1 e2 e3 e4
theorem bGG {s:aI} {k:Int} {ns:List Int} (h:s.ok) (h1:rX s k ns):(aAB s k ns).ok:=by
 obtain⟨hj,⟨l1,l2,l3,l4⟩,ha⟩:=h
 have ht:=h1.1
 unfold w6 at ht
 refine⟨⟨hj.1,hj.2.1,λf hf=>?_⟩,⟨by simp only[aAB,aA6];exact l1,by simp only[aAB,aA6];exact l2,by simp only[aAB,aA6];exact l3,by simp only[aAB,aA6];exact l4⟩,λi st ow kn p e1 e2 e3 e4=>ha i st ow kn p e1 e2 e3 e4⟩
 obtain⟨q1,q2,q3,q4⟩:=hj.2.2 f hf
 refine⟨q1,q2,by simp only[aAB,aA6];exact q3,λt ht'=>?_⟩
 simp only[aAB]at ht'
 rcases bE3 ht' with hm|rfl
 ·exact q4 t hm
 ·have hk:k.toNat<s.bC.aV.length:=by omega
  have h3:=q4 _ (dX hk)
  have h4:=h1.2.1
  rw[jH,cJ hk]at h4
  exact⟨by show(t.length:Int)=f.bN-s.bC.aQ;rw[h4];exact h3.1,h1.2.2⟩
theorem bLF {s:aI} {k:Int} {ns:List Int} (h:s.ok) (h1:rX s k ns) (h2:¬s.aT[k.toNat]?=some 50):(aP8 s k ns).ok:=by
 have ht:=h1.1
 unfold w6 at ht
 have h3:=aU9 h (k:=k.toNat) aA h2
 rw[show((k.toNat:Nat):Int)=k by omega]at h3
 exact bGG h3 h1
theorem bGH {s:aI} {pt:List Int} (h:s.ok) (h1:aFV s pt):(xF s pt).ok:=by
 obtain⟨hj,hl,ha⟩:=h
 exact⟨⟨hj.1,hj.2.1,λf hf=>by obtain⟨q1,_,q3,q4⟩:=hj.2.2 f hf;exact⟨q1,h1,q3,q4⟩⟩,hl,λi st ow kn p e1 e2 e3 e4=>ha i st ow kn p e1 e2 e3 e4⟩
theorem a5K (st:Nat->Prop) [DecidablePred st] {s:aI} (h:s.ok):∀ k,k<=s.bC.aV.length->(∀ i,i<k->¬aFT st s i)->(mX st s k).ok
 |0,_,_=>h
 |k+1,hk,hn=>by
  have ih:=a5K st h k aA λi hi=>hn i aA
  rw[mX]
  split
  ·exact ih
  ·rename_i hs
   refine aU9 ih (by rw[aA2];omega) λq=>hn k aA ⟨hs,?_⟩
   rw[←(aBY st s k k (eV _)).1];exact q
theorem bGI {s:aI} {pt:List Int} (h:s.ok) (h1:aFV s pt) (h2:¬aAD s pt):(aDE s pt).ok:=by
 have l1:=h.2.1.1
 refine bGH (a5K _ h _ aA λi hi q=>h2 ⟨i,hi,q⟩) ?_
 unfold aFV at h1 ⊢
 rw[aA2];exact h1
theorem a5L {s s':aI} {r:dU} (h:s.ok) (e:zC s r=some s'):s'.ok:=by
 unfold zC at e
 split at e
 ·rename_i hh;cases e;exact bLE h hh.1 hh.2
 ·cases e
theorem bLG {s s':aI} {n:List Int} (h:s.ok) (e:aM5 s n=some s'):s'.ok:=by
 unfold aM5 at e
 split at e
 ·rename_i hh;cases e;exact bGI h hh.1 hh.2
 ·cases e
theorem bLH {s s':aI} {k:Int} {n:List Int} (h:s.ok) (e:aM6 s k n=some s'):s'.ok:=by
 unfold aM6 at e
 split at e
 ·rename_i hh;cases e;exact bLF h hh.1 hh.2
 ·cases e
theorem bGJ {s s':aI} {w:List UInt8} {n:List Int} (h:s.ok) (e:pL s w n=some s'):s'.ok:=by
 unfold pL at e
 split at e
 ·split at e
  ·exact a5L h e
  ·cases e
 ·split at e
  ·split at e
   ·exact a5L h e
   ·cases e
  ·split at e
   ·exact bLG h e
   ·split at e
    ·split at e
     ·exact bLH h e
     ·cases e
    ·cases e
def zO (c:UInt8):List UInt8->Int
 | []=>-1
 |x::l=>if 0<=zO c l then zO c l+1 else if x=c then 0 else -1
theorem vI (c:UInt8):∀ l,(zO c l=-1/\c∉l)∨∃ a b,l=a++c::b/\c∉b/\zO c l=a.length
 | []=>.inl ⟨rfl,by simp⟩
 |x::l=>by
  rcases vI c l with⟨h,hn⟩|⟨a,b,rfl,hb,h⟩
  ·by_cases e:x=c
   ·subst e;exact .inr ⟨[],l,rfl,hn,by rw[zO,h,if_neg aA,if_pos rfl];rfl⟩
   ·exact .inl ⟨by rw[zO,h,if_neg aA,if_neg e],λq=>by rcases s7.1 q with rfl|q;exact e rfl;exact hn q⟩
  ·exact .inr ⟨x::a,b,rfl,hb,by rw[zO,h,if_pos aA,al6];omega⟩
theorem bED {c:UInt8} {a b a' b':List UInt8} (hb:c∉b) (e:a++c::b=a'++c::b'):¬a.length<a'.length:=λq=>by
 have h1:(a++c::b)[a'.length]?=(a'++c::b')[a'.length]?:=by rw[e]
 rw[aGJ aA,aGJ (eV _),aIY,a6N,show a'.length-a.length=(a'.length-a.length-1)+1 by omega,bA1]at h1
 exact hb (vJ h1)
theorem bAI {c:UInt8} {a b a' b':List UInt8} (hb:c∉b) (hb':c∉b') (e:a++c::b=a'++c::b'):a=a'/\b=b':=by
 have h1:=bED hb e
 have h2:=bED hb' e.symm
 obtain⟨h3,h4⟩:=List.append_inj e aA
 exact⟨h3,(bM3 h4).2⟩
theorem a5M {c:UInt8} {a b:List UInt8} (hb:c∉b):zO c (a++c::b)=a.length:=by
 rcases vI c (a++c::b)with⟨_,h⟩|⟨a',b',e,hb',h⟩
 ·exact absurd (aA5 _ (.head _)) h
 ·rw[h,(bAI hb hb' e).1]
theorem a5N {c:UInt8} {l:List UInt8} (h:c∉l):zO c l=-1:=by
 rcases vI c l with⟨h1,_⟩|⟨a,b,rfl,_,_⟩
 ·exact h1
 ·exact absurd (aA5 _ (.head _)) h
def aWO (words w:List UInt8) (n:List Int):Prop:=(32:UInt8)∉w/\aK4 999999999 n/\words=w++hU n
theorem bLI {n:List Int} (h:aK4 999999999 n):aK4 9223372036854775807 n:=λx hx=>by have:=h x hx;omega
theorem bLJ {words w w':List UInt8} {n n':List Int} (h:aWO words w n) (h':aWO words w' n'):w=w'/\n=n' :=
 bEX h.1 h'.1 (bLI h.2.1) (bLI h'.2.1) (h.2.2.symm.trans h'.2.2)
noncomputable def aOU (s:aI) (words:List UInt8):Option aI:=open Classical in
 if h:∃ x:List UInt8×List Int,aWO words x.1 x.2 then pL s h.choose.1 h.choose.2 else none
theorem aM7 {s:aI} {words w:List UInt8} {n:List Int} (h:aWO words w n):aOU s words=pL s w n:=by
 have hex:∃ x:List UInt8×List Int,aWO words x.1 x.2:=⟨(w,n),h⟩
 obtain⟨e1,e2⟩:=bLJ hex.choose_spec h
 rw[aOU,dif_pos hex,e1,e2]
theorem a1B {s:aI} {words:List UInt8} (h:∀ w n,¬aWO words w n):aOU s words=none:=by
 rw[aOU,dif_neg λ⟨x,q⟩=>h _ _ q]
theorem bEE {s s':aI} {words:List UInt8} (h:s.ok) (e:aOU s words=some s'):s'.ok:=by
 by_cases hex:∃ x:List UInt8×List Int,aWO words x.1 x.2
 ·obtain⟨x,hx⟩:=hex
  rw[aM7 hx]at e;exact bGJ h e
 ·rw[a1B λw n q=>hex ⟨(w,n),q⟩]at e;cases e
noncomputable def aB0 (s:aI) (b:Int) (line:List UInt8):Option (aI×Int) :=
 if 0<=zO 32 line then(if line.drop ((zO 32 line).toNat+1)=Go.Lib.itoa (aAE b (line.take (zO 32 line).toNat))then(aOU s (line.take (zO 32 line).toNat)).map λs'=>(s',aAE b (line.take (zO 32 line).toNat))else none)else none
theorem aVA {s:aI} {b:Int} {words r:List UInt8} (h:(32:UInt8)∉r):aB0 s b (words++32::r)=if r=Go.Lib.itoa (aAE b words)then(aOU s words).map λs'=>(s',aAE b words)else none:=by
 rw[aB0,a5M h,if_pos aA,aA7,aAF,aGH]
 rfl
theorem aVB {s:aI} {b:Int} {line:List UInt8} (h:(32:UInt8)∉line):aB0 s b line=none:=by rw[aB0,a5N h,if_neg aA]
theorem aVC {s s':aI} {b b':Int} (hb:oI b) {line:List UInt8} (h:aB0 s b line=some (s',b')):(s.ok->s'.ok)/\oI b':=by
 unfold aB0 at h
 split at h
 ·split at h
  ·cases ha:aOU s (line.take (zO 32 line).toNat)with
   |none=>rw[ha]at h;cases h
   |some y=>rw[ha]at h;cases h;exact⟨λq=>bEE q ha,aBZ _ hb⟩
  ·cases h
 ·cases h
noncomputable def vN:aI->Int->List (List UInt8)->aI×Nat
 |s,_,[]=>(s,0)
 |s,_,[_]=>(s,0)
 |s,b,l::m::r=>match aB0 s b l with
  |none=>(s,0)
  |some x=>((vN x.1 x.2 (m::r)).1,l.length+1+(vN x.1 x.2 (m::r)).2)
theorem bEF:∀ (L:List (List UInt8)) {s:aI} {b:Int},s.ok->oI b->(vN s b L).1.ok
 | [],_,_,h,_=>h
 | [_],_,_,h,_=>h
 |l::m::r,s,b,h,hb=>by
  rw[vN]
  cases e:aB0 s b l with
  |none=>exact h
  |some x =>
   obtain⟨h1,h2⟩:=aVC hb (s':=x.1) (b':=x.2) iX
   exact bEF (m::r) (h1 h) h2
noncomputable def dZ (j:dF) (t:List UInt8):aI×Int×Int:=if j.ok then(if t.length<=6000 then((vN (sO j) 1 (mM 10 t)).1,(vN (sO j) 1 (mM 10 t)).2,0)else(iH,0,2))else(iH,0,1)
theorem aM8 {s:aI} {b:Int} {l m:List UInt8} {r:List (List UInt8)} (h:aB0 s b l=none):vN s b (l::m::r)=(s,0):=by rw[vN,h]
theorem bEG {s s':aI} {b b':Int} {l m:List UInt8} {r:List (List UInt8)} (h:aB0 s b l=some (s',b')):vN s b (l::m::r)=((vN s' b' (m::r)).1,l.length+1+(vN s' b' (m::r)).2):=by rw[vN,h]
theorem aA3 {j:dF} (h:j.ok):(0<=j.aQ/\j.aQ<=12)/\j.aV.length<=10/\j.c7.length<=12/\∀ t∈j.aV,t.length<=12:=by
 obtain⟨F,eF,hf,hF,o1,o2,o3,o4⟩:=aIP h
 exact⟨by omega,by omega,by have:=o2.1;omega,λt ht=>by have:=(o4 t ht).1;omega⟩
theorem aM9 {α:Type} (f:α->Nat) (c:Nat):∀ l:List α,(∀ x∈l,f x<=c)->(l.map f).sum<=c*l.length
 | [],_=>iF _
 |x::l,h=>by
  have h1:=h x (.head _)
  have h2:=aM9 f c l λy hy=>h y (.tail _ hy)
  simp only[nE,aWR,al6]
  rw[Nat.mul_succ];omega
theorem aVD {p:aL} (h:p.ok):p.s<=8000:=by
 have h1:=p.gB
 have h2:=aM9 aX.s 450 p.aJ λf hf=>by
  obtain⟨k,hk,e⟩:=aR3.1 hf
  have hq:=h.2 k f (by rw[cJ hk,e])
  have h3:=f.gB
  have h4:=hq.2.2.2.2.1
  have h5:=hq.1
  unfold aJT at h5
  omega
 have h3:=h.1
 rw[gI]at h1
 have h4:450*p.aJ.length<=450*16:=bA6 _ aA
 omega
theorem aIW {s:aI} (h:s.ok):s.s<=10000:=by
 obtain⟨hj,⟨l1,l2,l3,l4⟩,ha⟩:=h
 obtain⟨hsh,htl,hpl,htt⟩:=aA3 hj
 have h1:=s.gB
 have h2:=s.bC.gB
 have h3:=aVD hj.1
 have h4:=aM9 (λx:List Int=>x.length) 12 s.bC.aV htt
 have h5:=aM9 cR.s 12 s.cQ λp hp=>by
  obtain⟨k,hk,e⟩:=aR3.1 hp
  have hq:=ha k _ _ _ p (cJ aA) (cJ aA) (cJ aA) (by rw[cJ hk,e])
  have h6:=p.gB
  cases hkn:s.bW[k]'aA with
  |true =>
   have h7:=(hq.2.2.1 hkn).2
   unfold qY aQ5 at h7
   split at h7
   ·have:=h7.2.1;omega
   ·rw[h6,h7.2.2];exact iF _
  |false=>rw[h6,(hq.2.2.2 hkn).2.2];exact iF _
 rw[gI]at h1 h2
 have h8:12*s.bC.aV.length<=12*10:=bA6 _ htl
 have h9:12*s.cQ.length<=12*10:=bA6 _ aA
 omega
theorem bT8 {n:List Int} (h:3<=n.length):n=n.getD 0 0::n.getD 1 0::n.getD 2 0::n.drop 3:=by
 match n,h with
 |a::b::c::r,_=>rfl
theorem bGK {s s':aI} {w:List UInt8} {n:List Int} (h:s.ok) (e:pL s w n=some s'):aK4 1000002 n/\n.length<=15:=by
 obtain⟨hsh,htl,hpl,htt⟩:=aA3 h.1
 unfold pL at e
 split at e
 ·split at e
  ·rename_i h3
   unfold zC at e
   split at e
   ·rename_i hh
    obtain⟨⟨t1,t2,t3⟩,-⟩:=hh
    unfold w6 xG at t1
    unfold xG qY at t3
    simp only[if_true]at t3
    simp only[xG]at t2
    obtain⟨q1,q2,q3⟩:=t3
    have hd:(n.drop 3).length=n.length-3:=aQG
    refine⟨λx hx=>?_,by omega⟩
    rw[bT8 h3]at hx
    simp only[s7]at hx
    unfold oI at q1
    rcases hx with rfl|rfl|rfl|hx
    ·simp only at t1;omega
    ·omega
    ·omega
    ·exact q3 x hx
   ·cases e
  ·cases e
 ·split at e
  ·split at e
   ·rename_i h3
    unfold zC at e
    split at e
    ·rename_i hh
     obtain⟨⟨t1,t2,t3⟩,-⟩:=hh
     unfold w6 aB7 at t1
     unfold aB7 qY at t3
     simp only[aB7]at t2
     rw[if_neg h3.2]at t3
     refine⟨λx hx=>?_,by omega⟩
     rw[bT8 (n:=n) aA]at hx
     have hd:n.drop 3=[]:=aV4 aA
     rw[hd]at hx
     simp only[s7,List.not_mem_nil,or_false]at hx
     have t4:=t3.1
     simp only at t4
     rcases hx with rfl|rfl|rfl
     ·simp only at t1;omega
     ·omega
     ·omega
    ·cases e
   ·cases e
  ·split at e
   ·unfold aM5 at e
    split at e
    ·rename_i hh
     exact⟨hh.1.2,by have:=hh.1.1;omega⟩
    ·cases e
   ·split at e
    ·split at e
     ·rename_i h1
      unfold aM6 at e
      split at e
      ·rename_i hh
       obtain⟨⟨t1,t2,t3⟩,-⟩:=hh
       unfold w6 at t1
       have hk:(n.getD 0 0).toNat<s.bC.aV.length:=by omega
       rw[jH (l:=s.bC.aV),cJ hk]at t2
       have:=htt _ (dX hk)
       have hd:(n.drop 1).length=n.length-1:=aQG
       refine⟨λx hx=>?_,by simp only[a6R]at t2;omega⟩
       match n,h1 with
       |a::r,_ =>
        rcases s7.1 hx with rfl|hx
        ·simp only[List.getD_cons_zero]at t1;omega
        ·exact t3 x hx
      ·cases e
     ·cases e
    ·cases e
theorem bGL {words w:List UInt8} {n:List Int} (h:aWO words w n) (h1:aK4 1000002 n) (h2:n.length<=15):(Go.Lib.cut words [32]).1=w/\sV 15 1000002 (Go.Lib.cut words [32]).2.1=some n:=by
 obtain⟨hw,-,rfl⟩:=h
 cases n with
 |nil =>
  rw[hU,gU,aRR 32 _ hw]
  exact⟨rfl,bEY.2 rfl⟩
 |cons a l =>
  have h3:w++hU (a::l)=w++32::(Go.Lib.itoa a++hU l):=by simp[hU]
  rw[h3,aYP 32 _ _ hw]
  refine⟨rfl,(aO8 dQ (w:=w) bF).2 ⟨?_,h2,h1⟩⟩
  simp[hU]
theorem bXU (words:List UInt8):(32:UInt8)∉(Go.Lib.cut words [32]).1:=by
 rcases yB 32 words with h|⟨a,r,ha,rfl⟩
 ·rw[aRR 32 _ h];exact h
 ·rw[aYP 32 _ _ ha];exact ha
theorem a5O {most:Nat} {hi:Int} (h:hi<=9223372036854775807) {text:List UInt8} {l:List Int} (e:sV most hi text=some l):aK4 hi l:=by
 by_cases hl:l=[]
 ·subst hl;intro x hx;cases hx
 ·exact((aO8 h (w:=[]) hl).1 e).2.2
theorem bGM {s:aI} {words:List UInt8} (h:s.ok) (hn:∀ L,sV 15 1000002 (Go.Lib.cut words [32]).2.1=some L->¬(Go.Lib.cut words [32]).1++hU L=words):aOU s words=none:=by
 cases e:aOU s words with
 |none=>rfl
 |some s' =>
  by_cases hex:∃ x:List UInt8×List Int,aWO words x.1 x.2
  ·obtain⟨⟨w,n⟩,hx⟩:=hex
   have e1:=e
   rw[aM7 hx]at e1
   obtain⟨r1,r2⟩:=bGK h e1
   obtain⟨c1,c2⟩:=bGL hx r1 r2
   exact absurd (by rw[c1];exact hx.2.2.symm) (hn n c2)
  ·rw[a1B λw n q=>hex ⟨(w,n),q⟩]at e;cases e
theorem bGN {s:aI} {words:List UInt8} {L:List Int} (hL:sV 15 1000002 (Go.Lib.cut words [32]).2.1=some L) (he:(Go.Lib.cut words [32]).1++hU L=words):aOU s words=pL s (Go.Lib.cut words [32]).1 L :=
 aM7 ⟨bXU words,λx hx=>by have:=a5O dQ hL x hx;omega,he.symm⟩
set_option maxRecDepth 100000
theorem eO.next {h g g':Heap} {e e':List OV} (x:eO h (OV.cA e) g) (y:eO g (OV.cA e') g'):∃ g2,g2.le g'/\eO h (OV.cA e') g2:=⟨_,aTG _ _,(x.append y).drop⟩
@[go_sem] def bLK:List Nat:=[0,1,4,5,7,8,9]
theorem checked (b:Int) (w:List UInt8) (hb:oI b) (hl:w.length<=1048600):fQ Tryz.prog 79 [I b,.str w] (I (aAE b w)):=by
 refine eG 21 bLK cD bS Tryz.func79 λh=>?_
 simp -dsimp -implicitDefEqProofs only[go_sem,↓reduceIte,Tryz.f79]
 intro _
 refine cY bLK cD bS (λk:Nat=>[(0,I (aAE b (w.take k))),(1,.str w),(7,I w.length),(8,I k)]) (λ_=>h) (λk=>k<=w.length) (λk=>w.length-k) 0 ⟨by simp[eE,dJ,aAE],Heap.le_refl _,iF _⟩ ?_
 intro k hk
 have hc:=aBZ (w.take k) hb
 unfold oI at hc
 rcases cX k w.length with hlt|hge
 ·have ea:w[k]?=some w[k]:=cJ hlt
  have hs:=aYM b hlt
  have hu:=UInt8.toNat_lt w[k]
  simp -dsimp -implicitDefEqProofs only[go_sem,↓reduceIte,Tryz.f79,ea]
  refine⟨λ_=>⟨k+1,⟨?_,IntWalk.i64_in _ aA⟩,hlt,by omega⟩,λq=>absurd hlt q⟩
  rw[IntWalk.i64_in (w[k].toNat:Int) aA,IntWalk.i64_in (257*aAE b (w.take k)) aA,IntWalk.i64_in _ aA,aGK aA,hs]
 ·obtain rfl:k=w.length:=by omega
  simp -dsimp -implicitDefEqProofs only[go_sem,↓reduceIte,Tryz.f79,cO,eK]
  rw[eJ]
theorem bLL (b:Int) (w:List UInt8) (hb:oI b) (hl:w.length<=1048600):fQ Tryz.prog 161 [I b,.str w] (I (aAE b w)):=by
 refine eG 21 vL cD bS Tryz.func161 λh=>?_
 simp -dsimp -implicitDefEqProofs only[go_sem,↓reduceIte,Tryz.f161]
 refine cY vL cD bS (λk:Nat=>[(0,I (aAE b (w.take k))),(1,.str w),(5,I k)]) (λ_=>h) (λk=>k<=w.length) (λk=>w.length-k) 0 ⟨by simp[eE,dJ,aAE],Heap.le_refl _,iF _⟩ ?_
 intro k hk
 have hc:=aBZ (w.take k) hb
 unfold oI at hc
 rcases cX k w.length with hlt|hge
 ·have ea:w[k]?=some w[k]:=cJ hlt
  have hs:=aYM b hlt
  have hu:=UInt8.toNat_lt w[k]
  simp -dsimp -implicitDefEqProofs only[go_sem,↓reduceIte,Tryz.f161,ea]
  refine λ_=>⟨λ_=>?_,λq=>absurd hlt q⟩
  rw[IntWalk.i64_in (w[k].toNat:Int) aA,IntWalk.i64_in (aAE b (w.take k)*257) aA,IntWalk.i64_in _ aA]
  first|refine aH.mk (dP _) ?_|refine aG.mk (dP _) ?_|refine aH.cN (dP _) ?_|refine aG.mk (cG.fO (dP _)) ?_
  simp -dsimp -implicitDefEqProofs only[go_sem,↓reduceIte,Tryz.f161]
  refine⟨k+1,⟨?_,IntWalk.i64_in _ aA⟩,hlt,by omega⟩
  rw[hs,Int.mul_comm]
 ·obtain rfl:k=w.length:=by omega
  simp -dsimp -implicitDefEqProofs only[go_sem,↓reduceIte,Tryz.f161,cO,eK]
  exact λ_=>by rw[eJ]
@[go_sem] def bEH:List Nat:=[0,1,4,5,10,17]
theorem a1C (s:List UInt8) (c:UInt8) (hs:s.length<=1048600):fQ Tryz.prog 129 [.str s,.int .u8 c.toNat] (I (zO c s)):=by
 refine eG 19 bEH cD bS Tryz.func129 λh=>?_
 simp -dsimp -implicitDefEqProofs only[go_sem,↓reduceIte,Tryz.f129]
 intro _
 refine cY bEH cD bS (λk:Nat=>[(0,.str s),(1,.int .u8 c.toNat),(5,I ((s.length:Int)-1-k))]) (λ_=>h) (λk=>k<=s.length/\c∉s.drop (s.length-k)) (λk=>s.length-k) 0 ⟨by simp[eE,dJ];exact IntWalk.i64_in _ aA,Heap.le_refl _,iF _,by simp⟩ ?_
 rintro k ⟨hk,hn⟩
 rcases cX k s.length with hlt|hge
 ·have hi:s.length-1-k<s.length:=by omega
  have ea:s[s.length-1-k]?=some s[s.length-1-k]:=cJ hi
  have e1:((s.length:Int)-1-k)=((s.length-1-k:Nat):Int):=by omega
  rw[e1]
  simp -dsimp -implicitDefEqProofs only[go_sem,↓reduceIte,Tryz.f129,ea]
  have hd:s.drop (s.length-k)=s.drop (s.length-1-k+1):=by congr 1;omega
  have hsp:s=s.take (s.length-1-k)++s[s.length-1-k]::s.drop (s.length-k):=by
   rw[hd,←bA3 hi,aR1]
  refine⟨λq=>?_,λq=>⟨k+1,?_,⟨hlt,λz=>?_⟩,by omega⟩⟩
  ·have ec:s[s.length-1-k]=c:=a2F q
   rw[ec]at hsp
   have h1:=a5M (a:=s.take (s.length-1-k)) hn
   rw[←hsp,pN]at h1
   rw[h1];omega
  ·rw[IntWalk.i64_in _ aA];omega
  ·rw[show s.length-(k+1)=s.length-1-k by omega,bA3 hi,←hd]at z
   rcases s7.1 z with z|z
   ·exact q (by rw[z])
   ·exact hn z
 ·obtain rfl:k=s.length:=by omega
  simp -dsimp -implicitDefEqProofs only[go_sem,↓reduceIte,Tryz.f129]
  refine⟨λq=>absurd q aA,λ_=>?_⟩
  rw[aIY,aR0]at hn
  rw[a5N hn]
theorem bLM (s:List UInt8) (c:UInt8) (hs:s.length<=1048600):fQ Tryz.prog 78 [.str s,.int .u8 c.toNat] (I (zO c s)):=by
 refine eG 8 aHN cD bS Tryz.func78 λh=>?_
 simp -dsimp -implicitDefEqProofs only[go_sem,↓reduceIte,Tryz.f78]
 first|refine aH.mk (a1C s c hs) ?_|refine aG.mk (a1C s c hs) ?_|refine aH.cN (a1C s c hs) ?_|refine aG.mk (cG.fO (a1C s c hs)) ?_
 simp -dsimp -implicitDefEqProofs only[go_sem,↓reduceIte,Tryz.f78]
theorem bGO (word:List UInt8) (l:List Int) (hw:word.length<=10000) (hl:l.length<=1000000) (hn:aK4 999999999 l):fQ Tryz.prog 119 [.str word,dA 1 (λn=>[I n]) l] (.str (word++hU l)):=by
 refine eG 21 vL cD bS Tryz.func119 λh=>?_
 simp -dsimp -implicitDefEqProofs only[go_sem,↓reduceIte,Tryz.f119]
 refine cY vL cD bS (λk:Nat=>[(0,.str (word++hU (l.take k))),(1,dA 1 (λn=>[I n]) l),(5,I k)]) (λ_=>h) (λk=>k<=l.length) (λk=>l.length-k) 0 (by simp[eE,dJ,Heap.le_refl,hU]) ?_
 intro k hk
 rcases cX k l.length with hlt|hge
 ·have ea:l[k]?=some l[k]:=cJ hlt
  have hnk:=hn _ (dX hlt)
  have hlen:=yR (n:=l[k]) aA aA
  have hlw:=aP2 (l.take k) λn q=>hn n (aYV q)
  rw[pN]at hlw
  simp -dsimp -implicitDefEqProofs only[go_sem,↓reduceIte,Tryz.f119,ea]
  repeat'(with_reducible first|intro _|refine And.intro ?_ ?_)
  all_goals try omega
  first|refine aH.mk (aMF 1000000000 l[k] hnk.1 bB2 hnk.2) ?_|refine aG.mk (aMF 1000000000 l[k] hnk.1 bB2 hnk.2) ?_|refine aH.cN (aMF 1000000000 l[k] hnk.1 bB2 hnk.2) ?_|refine aG.mk (cG.fO (aMF 1000000000 l[k] hnk.1 bB2 hnk.2)) ?_
  simp -dsimp -implicitDefEqProofs only[go_sem,↓reduceIte,Tryz.f119]
  repeat'(with_reducible first|intro _|refine And.intro ?_ ?_)
  all_goals try omega
  ·simp only[tN,al6];omega
  ·refine⟨k+1,⟨?_,by rw[IntWalk.i64_in _ aA];rfl⟩,by omega,by omega⟩
   rw[kF hlt,a6M]
   simp[hU]
 ·have hk':k=l.length:=by omega
  subst hk'
  rw[eJ]
  simp -dsimp -implicitDefEqProofs only[go_sem,↓reduceIte,Tryz.f119,cO]
@[go_sem] def bEI:List Nat:=[0,1,4,5,7,9,10,11,12]
@[go_sem] def bT9:List Nat:=[8,18]
theorem a1D (l:List Int) (hl:l.length<=1000000) (hn:∀ n∈l,oI n):fQ Tryz.prog 176 [dA 1 (λn=>[I n]) l,.str [32]] (.str (Go.Lib.join (l.map Go.Lib.itoa) [32])):=by
 refine eG 24 bEI bT9 bS Tryz.func176 λh=>?_
 simp -dsimp -implicitDefEqProofs only[go_sem,↓reduceIte,Tryz.f176]
 repeat'(with_reducible first|intro _|refine And.intro ?_ ?_)
 all_goals try(first|omega|decide)
 refine cY bEI bT9 bS (λx:Nat×Option Nat=>[(1,.str [32]),(5,nW 1 (l.take x.1).length x.2),(9,dA 1 (λn=>[I n]) l),(10,I l.length),(11,I x.1)]) (λx=>dG h (.row 1 (((l.take x.1).map λn=>[.str (Go.Lib.itoa n)]).map (List.map .v))) x.2) (λx=>x.1<=l.length/\lK h (l.take x.1) x.2) (λx=>l.length-x.1) (0,none) bBM ?_
 rintro⟨k,o⟩ ⟨hk,ho⟩
 simp only at hk ho ⊢
 rcases cX k l.length with hlt|hge
 ·have ea:l[k]?=some l[k]:=cJ hlt
  have hnk:=hn _ (dX hlt)
  have hy:l.take (k+1)=l.take k++[l[k]]:=kF hlt
  have hlk:(l.take k).length<=l.length:=by rw[pN];omega
  cases o with
  |none =>
   rw[cZ]at ho
   rw[ho]at hy ⊢
   simp -dsimp -implicitDefEqProofs only[go_sem,↓reduceIte,Tryz.f176,dK,aN,ea]
   repeat'(with_reducible first|intro _|refine And.intro ?_ ?_)
   all_goals try omega
   first|refine aH.mk (decimal l[k] hnk) ?_|refine aG.mk (decimal l[k] hnk) ?_|refine aH.cN (decimal l[k] hnk) ?_|refine aG.mk (cG.fO (decimal l[k] hnk)) ?_
   simp -dsimp -implicitDefEqProofs only[go_sem,↓reduceIte,Tryz.f176]
   repeat'(with_reducible first|intro _|refine And.intro ?_ ?_)
   all_goals try(first|omega|decide)
   rename_i n hn
   refine⟨(k+1,some n),?_⟩
   simp only[hy]
   refine⟨⟨rfl,?_⟩,Heap.le_refl _,⟨by omega,hn⟩,by omega⟩
   rw[IntWalk.i64_in _ aA];rfl
  |some n =>
   rw[bY]at ho
   simp -dsimp -implicitDefEqProofs only[go_sem,↓reduceIte,Tryz.f176,bU,aK,ea]
   repeat'(with_reducible first|intro _|refine And.intro ?_ ?_)
   all_goals try omega
   first|refine aH.mk (decimal l[k] hnk) ?_|refine aG.mk (decimal l[k] hnk) ?_|refine aH.cN (decimal l[k] hnk) ?_|refine aG.mk (cG.fO (decimal l[k] hnk)) ?_
   simp -dsimp -implicitDefEqProofs only[go_sem,↓reduceIte,Tryz.f176]
   repeat'(with_reducible first|intro _|refine And.intro ?_ ?_)
   all_goals try(first|omega|decide|exact eV _)
   rename_i b hb
   refine⟨(k+1,some b),?_⟩
   simp only[hy,aK,bU,bY]
   refine⟨⟨by rw[tN];rfl,?_⟩,?_,⟨by omega,hb.2⟩,by omega⟩
   ·rw[IntWalk.i64_in _ aA];rfl
   ·rw[←jE];exact pC ho
 ·have hk':k=l.length:=by omega
  subst hk'
  rw[eJ]at ho ⊢
  simp -dsimp -implicitDefEqProofs only[go_sem,↓reduceIte,Tryz.f176,cO]
  have hj:=b10 (l.map Go.Lib.itoa) [32] oX (by have:=aXP l hn;omega)
  rw[show dA 1 (λs:List UInt8=>[aC.str s]) (l.map Go.Lib.itoa)=dA 1 (λn=>[aC.str (Go.Lib.itoa n)]) l from by simp[dA,Function.comp_def]]at hj
  obtain⟨y,h1,h2,h3⟩:=grown (c:=λn=>aC.str (Go.Lib.itoa n)) (sz:=1) ho
  rw[←h2]
  refine aH.aF3 hj (dS.cons (View.ovD y (OS.nD (c:=λn=>[aC.str (Go.Lib.itoa n)]) (λ_ _ q=>yJ q) h1) h3.gH) (dS.cons (View.same _ _) dS.nil)) rfl ?_
  simp -dsimp -implicitDefEqProofs only[go_sem,↓reduceIte,Tryz.f176]
  exact h3.le
theorem bQJ (word:List UInt8) (l:List Int) (hw:word.length<=10000) (hl:l.length<=1000000) (hn:∀ n∈l,oI n):fQ Tryz.prog 132 [.str word,dA 1 (λn=>[I n]) l] (.str (word++hU l)):=by
 refine eG 14 bSQ cD bS Tryz.func132 λh=>?_
 simp -dsimp -implicitDefEqProofs only[go_sem,↓reduceIte,Tryz.f132]
 have hj:=aXP l hn
 repeat'(with_reducible first|intro _|refine And.intro ?_ ?_)
 all_goals try(first|omega|decide)
 ·rename_i e
  have e:l=[]:=a2A.1 aA
  subst e
  simp[hU]
 ·rename_i e
  first|refine aH.mk (a1D l hl hn) ?_|refine aG.mk (a1D l hl hn) ?_|refine aH.cN (a1D l hl hn) ?_|refine aG.mk (cG.fO (a1D l hl hn)) ?_
  simp -dsimp -implicitDefEqProofs only[go_sem,↓reduceIte,Tryz.f132]
  repeat'(with_reducible first|intro _|refine And.intro ?_ ?_)
  all_goals try(first|omega|decide)
  ·simp only[tN,al6,al7];omega
  ·rw[←aHP l (by intro q;subst q;exact e rfl)]
   simp
@[go_sem] def bEJ:List Nat:=[0,1,2,4,5,6,7,8,9,14,29,30,31,32,43,46]
set_option maxHeartbeats 2000000 in
theorem a5P (s:aI) (pt:List Int) (hs:s.s<=1048576) (hp0:pt.length<=1048576):qK Tryz.prog 134 [.agg s.c,dA 1 (λn=>[I n]) pt] (QA (aAU s pt).1.o (λy=>.iJ [y,I (aAU s pt).2])):=by
 have hs':=s.gB
 have nA:=s.bC.gB
 simp only[gI]at hs' nA
 have hok:=aFG s aA
 have hcl:=aFL s hs
 simp only[aI.aO,dF.aO]at hok hcl ⊢
 refine tA 50 bEJ aAO bS Tryz.func134 λh=>?_
 simp -dsimp -implicitDefEqProofs only[go_sem,↓reduceIte,Tryz.f134]
 intro n4 z4
 have z4h:=z4
 try simp -dsimp -implicitDefEqProofs only[go_sem,↓reduceIte,Tryz.f134]
 first|refine aH.mk (hok) ?_|refine aG.mk (hok) ?_|refine aH.cN (hok) ?_|refine aG.mk (cG.fO (hok)) ?_
 simp -dsimp -implicitDefEqProofs only[go_sem,↓reduceIte,Tryz.f134]
 refine⟨λhn=>?_,λhy=>?_⟩
 ·have hn':¬s.ok:=by simpa using hn
  rw[bGE hn']
  try simp -dsimp -implicitDefEqProofs only[go_sem,↓reduceIte,Tryz.f134,aF]
  exact n9 kK (jF [] [_]) (by repeat'(first|exact Heap.le_refl _|refine Heap.b5 ?_|refine Heap.aW kR ?_))
 have hy':s.ok:=by simpa using hy
 try simp -dsimp -implicitDefEqProofs only[go_sem,↓reduceIte,Tryz.f134]
 first|refine aH.mk (gE pt s.bC.aQ) ?_|refine aG.mk (gE pt s.bC.aQ) ?_|refine aH.cN (gE pt s.bC.aQ) ?_|refine aG.mk (cG.fO (gE pt s.bC.aQ)) ?_
 simp -dsimp -implicitDefEqProofs only[go_sem,↓reduceIte,Tryz.f134]
 refine⟨λhn=>?_,λhn=>?_⟩
 ·rw[aYL hy' (by rw[aFV];simpa using hn)]
  try simp -dsimp -implicitDefEqProofs only[go_sem,↓reduceIte,Tryz.f134,aF]
  exact n9 kK (jF [] [_]) (by repeat'(first|exact Heap.le_refl _|refine Heap.b5 ?_|refine Heap.aW kR ?_))
 have hp':aFV s pt:=by rw[aFV];simpa using hn
 have bQI:=aI.aAZ hy'
 have l1:=hy'.2.1
 try simp -dsimp -implicitDefEqProofs only[go_sem,↓reduceIte,Tryz.f134]
 refine aH.wn1 hcl z4 ?_
 rintro r l_ g ⟨e,oe,rfl,rfl⟩ wn z4
 have xJ:=oe
 obtain⟨fX,gR,hP,w7,zI,w8,w9,rfl,fL,fV,fJ,fH,fP,fM,fN⟩:=xJ
 simp -dsimp -implicitDefEqProofs only[go_sem,↓reduceIte,Tryz.f134,OV.aM,OV.aD,OV.aR,aF,aE,fL.flat,fL.one,fV.flat,fV.one,fJ.flat,fJ.one,fH.flat,fH.one,fP.flat,fP.one,fM.flat,fM.one,fN.flat,fN.one]
 intro n6 aUR
 obtain⟨oC,jC,jD,aII⟩:=cB (show ¬n6=n4 from iV aUR)
 have sN:g n6=none:=iV aUR
 refine aH.p5 (uG pt hp0) z4 ⟨oC,sN⟩ ?_
 rintro r_ l_ g2 ⟨yn,oyn,rfl,rfl⟩ wp z42 z62
 simp -dsimp -implicitDefEqProofs only[go_sem,↓reduceIte,Tryz.f134,OV.aM,OV.aD,OV.aR,aF,aE,fL.flat,fL.one,fV.flat,fV.one,fJ.flat,fJ.one,fH.flat,fH.one,fP.flat,fP.one,fM.flat,fM.one,fN.flat,fN.one,jD,jC,oyn.flat,oyn.one]
 obtain⟨g3,yS,wn3⟩:=wn.bLA [fX,.v (I s.bC.bO),.v (I s.bC.aQ)] (y':=yn) wp
 have z43:=Heap.le_none yS z42
 have z63:=Heap.le_none yS z62
 intro hkl
 have wn4:=wn3.over (o:=.row 9 [[.v .aU,.v (I 0),.v (I 0),.v .aU,.v .aU,.v .aU,.v .aU,.v .aU,.v .aU]]) z43
 have z64:bL g3 n4 (.row 9 [[.v .aU,.v (I 0),.v (I 0),.v .aU,.v .aU,.v .aU,.v .aU,.v .aU,.v .aU]]) n6=none:=by rw[aE _ _ _ _ oC];exact z63
 refine cY bEJ aAO bS (λx:Nat×List OV×Heap=>[(1,dA 1 (λn=>[I n]) pt),(2,.ip 9 [[dA 3 aX.c s.bC.bR.aJ,I s.bC.bO,I s.bC.aQ,dA 1 (λn=>[I n]) s.bC.c7,dA 1 (λx=>[dA 1 (λn=>[I n]) x]) s.bC.aV,dA 1 (λn=>[I n]) s.aT,dA 1 (λb=>[.bool b]) s.bW,dA 3 cR.c s.cQ,dA 1 (λn=>[I n]) s.cC]] 0 0),(4,.op n4 9 0 0),(6,.op n6 9 0 0),(29,dA 1 (λb=>[.bool b]) s.bW),(30,I s.bW.length),(31,I x.1)]) (λx=>bL x.2.2 n6 (.row 9 (OV.cells [x.2.1]))) (λx=>x.1<=s.aT.length/\(∀ i,i<x.1->¬aFT (j2 s pt) s i)/\(mX (j2 s pt) (xF s pt) x.1).o x.2.1/\x.2.2 n6=none/\eO (bL h n4 (.row 9 [[.v .aU,.v (I 0),.v (I 0),.v .aU,.v .aU,.v .aU,.v .aU,.v .aU,.v .aU]])) (OV.cA x.2.1) x.2.2) (λx=>s.aT.length-x.1) (0,[fX,.v (I s.bC.bO),.v (I s.bC.aQ),yn,hP,w7,zI,w8,w9],bL g3 n4 (.row 9 [[.v .aU,.v (I 0),.v (I 0),.v .aU,.v .aU,.v .aU,.v .aU,.v .aU,.v .aU]])) ⟨by simp[eE,dJ],Heap.b5 (Heap.b5 yS),iF _,λi q=>absurd q (a2J i),⟨fX,yn,hP,w7,zI,w8,w9,rfl,fL,oyn,fJ,fH,fP,fM,fN⟩,z64,wn4⟩ ?_
 clear oe wn wp wn3 wn4 z64 z63 z62 z43 z42 yS fL fV fJ fH fP fM fN
 rintro⟨k,e,g⟩ ⟨hk,hns,oe,hnb,wn⟩
 simp only at hk hns oe hnb wn ⊢
 have hJ:=aA2 (j2 s pt) (xF s pt) k
 have hL:=aOR (j2 s pt) (xF s pt) k
 have hT:=aBY (j2 s pt) (xF s pt) k k (eV _)
 have hS:=aFU (j2 s pt) (xF s pt) bQI k hns
 have hN:=aU7 (st:=j2 s pt) (xF s pt) k
 have hY:=aU8 (st:=j2 s pt) (xF s pt) k
 generalize hm:mX (j2 s pt) (xF s pt) k=m at *
 rcases cX k s.aT.length with hlt|hge
 ·have kn:k<s.bW.length:=by omega
  have gk:s.bW[k]?=some s.bW[k]:=cJ kn
  have hkt:k<s.bC.aV.length:=by omega
  have hut:=bAE hy'.1 aA hkt pt hp'.1
  simp only[dF.aO]at hut
  have e5:m.aT[k]?=some s.aT[k]:=hT.1.trans (cJ hlt)
  have hsb:=bQI _ (dX hlt)
  have hfg:=forget m k _ g n6 _ oe hnb wn (by rw[hJ];show _/\_/\_/\_;simp only[xF]at hL ⊢;omega) (by rw[hJ];show 0<=(k:Int)/\(k:Int)<=((s.bC.aV.length:Nat):Int)-1;omega) hS
  simp -dsimp -implicitDefEqProofs only[go_sem,↓reduceIte,Tryz.f134,gk,hlt]
  refine⟨λ_=>⟨kn,λh1=>?_,λh0=>?_⟩,λq=>by omega⟩
  ·first|refine aH.mk (hut) ?_|refine aG.mk (hut) ?_|refine aH.cN (hut) ?_|refine aG.mk (cG.fO (hut)) ?_
   simp -dsimp -implicitDefEqProofs only[go_sem,↓reduceIte,Tryz.f134]
   refine⟨λhu=>?_,λhu=>?_⟩
   ·have hst:j2 s pt k:=⟨gk.trans (by rw[h1]),hu⟩
    exact⟨(k+1,e,g),IntWalk.i64_in _ aA,Heap.le_refl _,⟨hlt,qN hns λq=>q.1 hst,hY hst▸oe,hnb,wn⟩,by simp only;omega⟩
   ·have aOT:¬j2 s pt k:=λq=>hu q.2
    refine aH.jP hfg ?_
    clear hfg oe wn
    rintro r h' ⟨e2,g2,⟨q50,qno⟩,rfl,aMS,p5⟩
    simp only[aA7,e5]at q50 qno
    by_cases h3:s.aT[k]=50
    ·obtain⟨rfl,oe2⟩:=q50 (by rw[h3])
     rw[aOS hy' hp' ⟨k,hlt,aOT,by rw[cJ hlt,h3]⟩]
     obtain⟨g4,a4X,wn4,z44,rfl⟩:=p5.base z4h
     have z64:g4 n6=none:=by rwa [aE _ _ _ _ oC]at aMS
     simp -dsimp -implicitDefEqProofs only[go_sem,↓reduceIte,Tryz.f134,OV.aM,OV.aD,OV.aR,aF,aE,jD,jC]
     exact n9 kK (jF [] [_]) (Heap.le_trans wn4.le (by repeat'(first|exact Heap.le_refl _|refine Heap.b5 ?_|refine Heap.aW kR ?_)))
    ·obtain⟨rfl,oe2⟩:=qno λq=>h3 (eN q)
     simp -dsimp -implicitDefEqProofs only[go_sem,↓reduceIte,Tryz.f134,OV.aM,OV.aD,OV.aR,aF,aE]
     exact⟨(k+1,e2,g2),IntWalk.i64_in _ aA,Heap.le_refl _,⟨hlt,qN hns λq=>by
      have:=q.2
      rw[cJ hlt]at this
      exact h3 (eN this),hN aOT▸oe2,aMS,p5⟩,by simp only;omega⟩
  ·have aOT:¬j2 s pt k:=λq=>by have:=q.1;rw[gk]at this;have:=eN this;simp_all
   refine aH.jP hfg ?_
   clear hfg oe wn
   rintro r h' ⟨e2,g2,⟨q50,qno⟩,rfl,aMS,p5⟩
   simp only[aA7,e5]at q50 qno
   by_cases h3:s.aT[k]=50
   ·obtain⟨rfl,oe2⟩:=q50 (by rw[h3])
    rw[aOS hy' hp' ⟨k,hlt,aOT,by rw[cJ hlt,h3]⟩]
    obtain⟨g4,a4X,wn4,z44,rfl⟩:=p5.base z4h
    have z64:g4 n6=none:=by rwa [aE _ _ _ _ oC]at aMS
    simp -dsimp -implicitDefEqProofs only[go_sem,↓reduceIte,Tryz.f134,OV.aM,OV.aD,OV.aR,aF,aE,jD,jC]
    exact n9 kK (jF [] [_]) (Heap.le_trans wn4.le (by repeat'(first|exact Heap.le_refl _|refine Heap.b5 ?_|refine Heap.aW kR ?_)))
   ·obtain⟨rfl,oe2⟩:=qno λq=>h3 (eN q)
    simp -dsimp -implicitDefEqProofs only[go_sem,↓reduceIte,Tryz.f134,OV.aM,OV.aD,OV.aR,aF,aE]
    exact⟨(k+1,e2,g2),IntWalk.i64_in _ aA,Heap.le_refl _,⟨hlt,qN hns λq=>by
     have:=q.2
     rw[cJ hlt]at this
     exact h3 (eN this),hN aOT▸oe2,aMS,p5⟩,by simp only;omega⟩
 ·have hk':k=s.aT.length:=by omega
  have hkn:k=s.bW.length:=by omega
  have hstuck:¬aAD s pt:=λ⟨i,h1,h2⟩=>hns i aA h2
  have hmv:aDE s pt=m:=by rw[aDE,←hk',←aQE,hm]
  rw[aU6 hy' hp' hstuck,hmv]
  clear hN hY hS hT
  obtain⟨g3,yS,wn3,z43,rfl⟩:=wn.base z4h
  have z63:g3 n6=none:=by rwa [aE _ _ _ _ oC]at hnb
  have xJ:=oe
  obtain⟨aBT,aBU,aD2,aC9,aDA,aDB,aDC,rfl,gJ,gK,gL,gN,gO,gP,gQ⟩:=xJ
  rw[hkn]
  simp -dsimp -implicitDefEqProofs only[go_sem,↓reduceIte,Tryz.f134,OV.aM,OV.aD,OV.aR,aF,aE,gJ.flat,gJ.one,gK.flat,gK.one,gL.flat,gL.one,gN.flat,gN.one,gO.flat,gO.one,gP.flat,gP.one,gQ.flat,gQ.one,jD,jC,cP,aS,aY,eK,cO,false_imp_iff,true_and]
  exact aQ0 (w:=λy=>.iJ [y,I 0]) oe wn3 (by repeat'(first|exact Heap.le_refl _|refine Heap.b5 ?_|refine Heap.aW kR ?_))
theorem nine {α:Type} {x:List α} (h:x.length=9):∃ a0 a1 a2 a3 a4 a5 a6 a7 a8,x=[a0,a1,a2,a3,a4,a5,a6,a7,a8]:=by
 match x,h with
 | [a0,a1,a2,a3,a4,a5,a6,a7,a8],_=>exact⟨a0,a1,a2,a3,a4,a5,a6,a7,a8,rfl⟩
def bXV (G:Heap) (o:Option aI):aC->Heap->Prop:=λr g=>(∃ s' e,o=some s'/\s'.o e/\r=.iJ [.agg (e.map OV.val),.bool true]/\eO G (OV.cA e) g)∨(o=none/\∃ x,r=.iJ [.agg x,.bool false]/\x.all aC.flat=true/\x.length=9/\g=G)
theorem u1 {o:Option aI} {G h':Heap} {x:List aC} (ho:o=none) (hl:G.le h') (hx:x.all aC.flat=true) (h9:x.length=9):∃ r1 g,Shift (.iJ [.agg x,.bool false]) h' r1 g/\bXV G o r1 g :=
 ⟨_,G,Shift.of (Sub.refl _) hl,.inr ⟨ho,x,rfl,hx,h9,rfl⟩⟩
theorem aRM {o:Option aI} {s':aI} {e:List OV} {G h' g:Heap} {r:aC} (ho:o=some s') (he:s'.o e) (hn:eO G (OV.cA e) g) (hl:g.le h') (hr:r=.iJ [.agg (e.map OV.val),.bool true]):∃ r1 g,Shift r h' r1 g/\bXV G o r1 g:=by
 subst hr
 exact⟨_,g,Shift.of (Sub.refl _) hl,.inl ⟨s',e,ho,he,rfl,hn⟩⟩
@[go_sem] def bXW:List Nat:=[0,1,2,4,5,6,7,9,10,11,12,32,35,62,93,102]
@[go_sem] def b9D:Marks:=λid=>match id with|8=>([0,14,19],(.op 1 (.op 2 (.op 3 (.op 4 (.op 5 (.op 6 (.op 7 (.op 8 (.op 9 (.op 10 (.op 11 (.op 12 (.op 13 (.op 0 (.op 14 (.op 15 (.op 16 (.op 17 (.op 18 (.op 19 (.op 20 (.op 21 .nil)))))))))))))))))))))),[])|10=>([0,12,17],(.op 1 (.op 2 (.op 3 (.op 4 (.op 5 (.op 6 (.op 7 (.op 8 (.op 9 (.op 10 (.op 11 (.op 0 (.op 12 (.op 13 (.op 14 (.op 15 (.op 16 (.op 17 (.op 18 (.op 19 .nil)))))))))))))))))))),[])|14=>([0,6,10],(.op 1 (.op 2 (.op 3 (.op 4 (.op 5 (.op 0 (.op 6 (.op 7 (.op 8 (.op 9 (.op 10 (.op 11 .nil)))))))))))),[])|_=>([],.nil,[])
set_option maxHeartbeats 2000000 in
theorem bQK (s:aI) (words:List UInt8) (hok:s.ok) (hw:words.length<=6000) {h:Heap} {e:List OV} (oe:s.o e) (ho:kD h (OV.cA e)):gV Tryz.prog 81 [.agg (e.map OV.val),.str words] h (bXV h (aOU s words)):=by
 have hcut:=b11 words [32] aA
 have hcl:=bCR words [32]
 have hrl:=bJM (Go.Lib.cut words [32]).2.1 15 1000002 aA aA aA
 have hno:=bGM (s:=s) (words:=words) hok
 have hyes:=λL=>bGN (s:=s) (words:=words) (L:=L)
 have hrg:=λL=>a5O (most:=15) (hi:=1000002) dQ (text:=(Go.Lib.cut words [32]).2.1) (l:=L)
 have hln:=λL=>bFT (most:=15) (hi:=1000002) (text:=(Go.Lib.cut words [32]).2.1) (l:=L)
 have hdat:=aI.qG oe
 obtain⟨fX,gR,hP,w7,zI,w8,w9,rfl,fL,fV,fJ,fH,fP,fM,fN⟩:=oe
 have hv:∀ H:Heap,h.le H->View H (.agg ([fX,.v (.int .i64 s.bC.bO),.v (.int .i64 s.bC.aQ),gR,hP,w7,zI,w8,w9].map OV.val)) _:=λH hH=>View.bI3 [fX,.v (.int .i64 s.bC.bO),.v (.int .i64 s.bC.aQ),gR,hP,w7,zI,w8,w9] hdat (λp hp=>Heap.aHE hH (ho p hp))
 simp only[aI.aO,dF.aO,OV.aM,OV.aD,OV.aR]at hv ⊢
 refine mK 126 bXW cD b9D Tryz.func81 ?_
 simp -dsimp -implicitDefEqProofs only[go_sem,↓reduceIte,Tryz.f81,fL.flat,fL.one,fV.flat,fV.one,fJ.flat,fJ.one,fH.flat,fH.one,fP.flat,fP.one,fM.flat,fM.one,fN.flat,fN.one]
 intro n2 z2
 intro n4 b4M
 obtain⟨tX,kA,kB,b7G⟩:=cB (show ¬n4=n2 from iV b4M)
 have aQR:h n4=none:=iV b4M
 first|refine aH.mk (hcut) ?_|refine aG.mk (hcut) ?_|refine aH.cN (hcut) ?_|refine aG.mk (cG.fO (hcut)) ?_
 simp -dsimp -implicitDefEqProofs only[go_sem,↓reduceIte,Tryz.f81]
 generalize (Go.Lib.cut words [32]).1=word at *
 generalize (Go.Lib.cut words [32]).2.1=rest at *
 cases hR:sV 15 1000002 rest with
 |none =>
  have hno:=hno λL q=>by rw[hR]at q;cases q
  rw[hR]at hrl
  simp only[Option.getD_none,bHF]at hrl
  refine aH.mk hrl ?_
  simp -dsimp -implicitDefEqProofs only[go_sem,↓reduceIte,Tryz.f81,OV.aM,OV.aD,OV.aR,aF,aE,fL.flat,fL.one,fV.flat,fV.one,fJ.flat,fJ.one,fH.flat,fH.one,fP.flat,fP.one,fM.flat,fM.one,fN.flat,fN.one,kB,kA]
  exact u1 hno (by repeat'(first|exact Heap.le_refl _|refine Heap.b5 ?_|refine Heap.aW kR ?_)) aSF rfl
 |some L =>
  have hLr:=hrg L hR
  have hLn:=hln L hR
  have hwo:=bQJ word L aA aA (λn hn=>by have:=hLr n hn;unfold oI;omega)
  rw[hR]at hrl
  simp only[a6R,Option.isSome_some]at hrl
  refine aH.mk hrl ?_
  simp -dsimp -implicitDefEqProofs only[go_sem,↓reduceIte,Tryz.f81,OV.aM,OV.aD,OV.aR,aF,aE,fL.flat,fL.one,fV.flat,fV.one,fJ.flat,fJ.one,fH.flat,fH.one,fP.flat,fP.one,fM.flat,fM.one,fN.flat,fN.one,kB,kA]
  refine aH.mk hwo ?_
  simp -dsimp -implicitDefEqProofs only[go_sem,↓reduceIte,Tryz.f81,OV.aM,OV.aD,OV.aR,aF,aE,fL.flat,fL.one,fV.flat,fV.one,fJ.flat,fJ.one,fH.flat,fH.one,fP.flat,fP.one,fM.flat,fM.one,fN.flat,fN.one,kB,kA]
  refine⟨λhne=>u1 (hno λL' q=>by rw[hR]at q;cases q;exact hne) (by repeat'(first|exact Heap.le_refl _|refine Heap.b5 ?_|refine Heap.aW kR ?_)) aSF rfl,λheq=>?_⟩
  have ha:=hyes L hR heq
  rw[ha,pL]
  have e0:0<L.length->L[Int.toNat 0]?=some (L.getD 0 0):=λq=>by
   show L[0]?=_
   rw[jH,cJ q];rfl
  have e1:1<L.length->L[Int.toNat 1]?=some (L.getD 1 0):=λq=>by
   show L[1]?=_
   rw[jH,cJ q];rfl
  have e2:2<L.length->L[Int.toNat 2]?=some (L.getD 2 0):=λq=>by
   show L[2]?=_
   rw[jH,cJ q];rfl
  have hsl:∀ k,List.drop k (List.take L.length (L.map λn=>[I n]))=(L.drop k).map λn=>[I n]:=λk=>by
   rw[gX bF,List.map_drop]
  have s3:=aIW hok
  have p3:(xG L).s<=1048576:=by
   have:=(xG L).gB
   have:=(xG L).mO.gB
   simp only[xG,aQG]at *
   omega
  have q3:(aB7 L).s<=1048576:=by
   have:=(aB7 L).gB
   have:=(aB7 L).mO.gB
   simp only[aB7,al7]at *
   omega
  by_cases h1:word=bLB
  ·rw[if_pos h1]
   have c1:(word=[112,97,114,116])=True:=eq_true h1
   by_cases h3:3<=L.length
   ·have h3':((L.length:Int) ≥ 3)=True:=eq_true aA
    rw[if_pos h3]
    simp -dsimp -implicitDefEqProofs only[go_sem,↓reduceIte,Tryz.f81,OV.aM,OV.aD,OV.aR,aF,aE,fL.flat,fL.one,fV.flat,fV.one,fJ.flat,fJ.one,fH.flat,fH.one,fP.flat,fP.one,fM.flat,fM.one,fN.flat,fN.one,kB,kA,c1,h3',e0 aA,e1 aA,e2 aA]
    refine λ_=>⟨by omega,by omega,by omega,eV _,?_⟩
    rw[show Int.toNat 3=3 from rfl,hsl]
    have hT:=aUP s (xG L) aA p3
    unfold zC
    by_cases hr:qH s (xG L)
    ·rw[aKY hok hr]at hT
     by_cases hk:tD s (xG L)
     ·rw[aBS hk]at hT
      rw[if_pos ⟨hr,hk⟩]
      simp only[aI.aO,dF.aO,dU.aO,cR.aO]at hT
      refine aH.wl2 hT (dS.cons (hv _ (by repeat'(first|exact Heap.le_refl _|refine Heap.b5 ?_|refine Heap.aW kR ?_))) (dS.cons (View.same _ _) dS.nil)) (QA.eQ (w:=λy=>.iJ [y,_,_]) (λe he=>aI.tK _ e he) (λx hx=>by simp[aC.eQ,aC.nK,hx])) z2 ⟨tX,aQR⟩ ?_
      rintro r l_ g ⟨e,oe,rfl,rfl⟩ wn z2g z4g
      have xJ:=oe
      obtain⟨aBT,aBU,aD2,aC9,aDA,aDB,aDC,rfl,gJ,gK,gL,gN,gO,gP,gQ⟩:=xJ
      simp -dsimp -implicitDefEqProofs only[go_sem,↓reduceIte,Tryz.f81,OV.aM,OV.aD,OV.aR,aF,aE,gJ.flat,gJ.one,gK.flat,gK.one,gL.flat,gL.one,gN.flat,gN.one,gO.flat,gO.one,gP.flat,gP.one,gQ.flat,gQ.one,kB,kA,cP,aS,aY]
      exact aRM rfl oe wn (by repeat'(first|exact Heap.le_refl _|refine Heap.b5 ?_|refine Heap.aW kR ?_)) aF1
     ·rw[zH hk]at hT
      rw[if_neg λq=>hk q.2]
      simp only[aI.aO,dF.aO,dU.aO,cR.aO]at hT
      refine aH.wl2 hT (dS.cons (hv _ (by repeat'(first|exact Heap.le_refl _|refine Heap.b5 ?_|refine Heap.aW kR ?_))) (dS.cons (View.same _ _) dS.nil)) (QA.eQ (w:=λy=>.iJ [y,_,_]) (λe he=>aI.tK _ e he) (λx hx=>by simp[aC.eQ,aC.nK,hx])) z2 ⟨tX,aQR⟩ ?_
      rintro r l_ g ⟨e,oe,rfl,rfl⟩ wn z2g z4g
      have xJ:=oe
      obtain⟨aBT,aBU,aD2,aC9,aDA,aDB,aDC,rfl,gJ,gK,gL,gN,gO,gP,gQ⟩:=xJ
      simp -dsimp -implicitDefEqProofs only[go_sem,↓reduceIte,Tryz.f81,OV.aM,OV.aD,OV.aR,aF,aE,gJ.flat,gJ.one,gK.flat,gK.one,gL.flat,gL.one,gN.flat,gN.one,gO.flat,gO.one,gP.flat,gP.one,gQ.flat,gQ.one,kB,kA,cP,aS,aY]
      exact u1 rfl (Heap.le_trans wn.le (by repeat'(first|exact Heap.le_refl _|refine Heap.b5 ?_|refine Heap.aW kR ?_))) aPA rfl
    ·rw[aOC hok hr]at hT
     rw[if_neg λq=>hr q.1]
     simp only[aI.aO,dF.aO,dU.aO,cR.aO]at hT
     refine aH.wl2 hT (dS.cons (hv _ (by repeat'(first|exact Heap.le_refl _|refine Heap.b5 ?_|refine Heap.aW kR ?_))) (dS.cons (View.same _ _) dS.nil)) (QA.eQ (w:=λy=>.iJ [y,_,_]) (λe he=>aI.tK _ e he) (λx hx=>by simp[aC.eQ,aC.nK,hx])) z2 ⟨tX,aQR⟩ ?_
     rintro r l_ g ⟨e,oe,rfl,rfl⟩ wn z2g z4g
     have xJ:=oe
     obtain⟨aBT,aBU,aD2,aC9,aDA,aDB,aDC,rfl,gJ,gK,gL,gN,gO,gP,gQ⟩:=xJ
     simp -dsimp -implicitDefEqProofs only[go_sem,↓reduceIte,Tryz.f81,OV.aM,OV.aD,OV.aR,aF,aE,gJ.flat,gJ.one,gK.flat,gK.one,gL.flat,gL.one,gN.flat,gN.one,gO.flat,gO.one,gP.flat,gP.one,gQ.flat,gQ.one,kB,kA,cP,aS,aY]
     exact u1 rfl (Heap.le_trans wn.le (by repeat'(first|exact Heap.le_refl _|refine Heap.b5 ?_|refine Heap.aW kR ?_))) aPA rfl
   ·have h3':((L.length:Int) ≥ 3)=False:=eq_false aA
    rw[if_neg h3]
    have c2:(word=[102,97,105,108])=False:=eq_false aSH
    have c3:(word=[112,111,105,110,116])=False:=eq_false aSH
    have c4:(word=[116,101,114,109])=False:=eq_false aSH
    simp -dsimp -implicitDefEqProofs only[go_sem,↓reduceIte,Tryz.f81,OV.aM,OV.aD,OV.aR,aF,aE,fL.flat,fL.one,fV.flat,fV.one,fJ.flat,fJ.one,fH.flat,fH.one,fP.flat,fP.one,fM.flat,fM.one,fN.flat,fN.one,kB,kA,c1,c2,c3,c4,h3']
    exact λ_=>u1 rfl (by repeat'(first|exact Heap.le_refl _|refine Heap.b5 ?_|refine Heap.aW kR ?_)) aSF rfl
  have c1:(word=[112,97,114,116])=False:=eq_false h1
  rw[if_neg h1]
  by_cases h2:word=bLC
  ·rw[if_pos h2]
   have c2:(word=[102,97,105,108])=True:=eq_true h2
   have c3:(word=[112,111,105,110,116])=False:=eq_false (by rw[h2];decide)
   have c4:(word=[116,101,114,109])=False:=eq_false (by rw[h2];decide)
   by_cases h3:L.length=3
   ·have h3':((L.length:Int)=3)=True:=eq_true aA
    by_cases h4:L.getD 2 0=0
    ·have h4':(L.getD 2 0=0)=True:=eq_true h4
     rw[if_neg λq=>q.2 h4]
     simp -dsimp -implicitDefEqProofs only[go_sem,↓reduceIte,Tryz.f81,OV.aM,OV.aD,OV.aR,aF,aE,fL.flat,fL.one,fV.flat,fV.one,fJ.flat,fJ.one,fH.flat,fH.one,fP.flat,fP.one,fM.flat,fM.one,fN.flat,fN.one,kB,kA,c1,c2,c3,c4,h3',e2 aA,h4']
     exact λ_=>⟨by omega,u1 rfl (by repeat'(first|exact Heap.le_refl _|refine Heap.b5 ?_|refine Heap.aW kR ?_)) aSF rfl⟩
    ·have h4':(L.getD 2 0=0)=False:=eq_false h4
     rw[if_pos ⟨h3,h4⟩]
     simp -dsimp -implicitDefEqProofs only[go_sem,↓reduceIte,Tryz.f81,OV.aM,OV.aD,OV.aR,aF,aE,fL.flat,fL.one,fV.flat,fV.one,fJ.flat,fJ.one,fH.flat,fH.one,fP.flat,fP.one,fM.flat,fM.one,fN.flat,fN.one,kB,kA,c1,c2,c3,c4,h3',e0 aA,e1 aA,e2 aA,h4']
     refine λ_=>⟨by omega,by omega,by omega,by omega,?_⟩
     have hT:=aUP s (aB7 L) aA q3
     unfold zC
     by_cases hr:qH s (aB7 L)
     ·rw[aKY hok hr]at hT
      by_cases hk:tD s (aB7 L)
      ·rw[aBS hk]at hT
       rw[if_pos ⟨hr,hk⟩]
       simp only[aI.aO,dF.aO,dU.aO,cR.aO]at hT
       refine aH.wl2 hT (dS.cons (hv _ (by repeat'(first|exact Heap.le_refl _|refine Heap.b5 ?_|refine Heap.aW kR ?_))) (dS.cons ((View.same _ _).sub (Sub.agg (.cons (.refl _) (.cons (.refl _) (.cons (.refl _) (.cons (.refl _) (.cons (Sub.nil 1 false) .nil))))))) dS.nil)) (QA.eQ (w:=λy=>.iJ [y,_,_]) (λe he=>aI.tK _ e he) (λx hx=>by simp[aC.eQ,aC.nK,hx])) z2 ⟨tX,aQR⟩ ?_
       rintro r l_ g ⟨e,oe,rfl,rfl⟩ wn z2g z4g
       have xJ:=oe
       obtain⟨aBT,aBU,aD2,aC9,aDA,aDB,aDC,rfl,gJ,gK,gL,gN,gO,gP,gQ⟩:=xJ
       simp -dsimp -implicitDefEqProofs only[go_sem,↓reduceIte,Tryz.f81,OV.aM,OV.aD,OV.aR,aF,aE,gJ.flat,gJ.one,gK.flat,gK.one,gL.flat,gL.one,gN.flat,gN.one,gO.flat,gO.one,gP.flat,gP.one,gQ.flat,gQ.one,kB,kA,cP,aS,aY]
       exact aRM rfl oe wn (by repeat'(first|exact Heap.le_refl _|refine Heap.b5 ?_|refine Heap.aW kR ?_)) aF1
      ·rw[zH hk]at hT
       rw[if_neg λq=>hk q.2]
       simp only[aI.aO,dF.aO,dU.aO,cR.aO]at hT
       refine aH.wl2 hT (dS.cons (hv _ (by repeat'(first|exact Heap.le_refl _|refine Heap.b5 ?_|refine Heap.aW kR ?_))) (dS.cons ((View.same _ _).sub (Sub.agg (.cons (.refl _) (.cons (.refl _) (.cons (.refl _) (.cons (.refl _) (.cons (Sub.nil 1 false) .nil))))))) dS.nil)) (QA.eQ (w:=λy=>.iJ [y,_,_]) (λe he=>aI.tK _ e he) (λx hx=>by simp[aC.eQ,aC.nK,hx])) z2 ⟨tX,aQR⟩ ?_
       rintro r l_ g ⟨e,oe,rfl,rfl⟩ wn z2g z4g
       have xJ:=oe
       obtain⟨aBT,aBU,aD2,aC9,aDA,aDB,aDC,rfl,gJ,gK,gL,gN,gO,gP,gQ⟩:=xJ
       simp -dsimp -implicitDefEqProofs only[go_sem,↓reduceIte,Tryz.f81,OV.aM,OV.aD,OV.aR,aF,aE,gJ.flat,gJ.one,gK.flat,gK.one,gL.flat,gL.one,gN.flat,gN.one,gO.flat,gO.one,gP.flat,gP.one,gQ.flat,gQ.one,kB,kA,cP,aS,aY]
       exact u1 rfl (Heap.le_trans wn.le (by repeat'(first|exact Heap.le_refl _|refine Heap.b5 ?_|refine Heap.aW kR ?_))) aPA rfl
     ·rw[aOC hok hr]at hT
      rw[if_neg λq=>hr q.1]
      simp only[aI.aO,dF.aO,dU.aO,cR.aO]at hT
      refine aH.wl2 hT (dS.cons (hv _ (by repeat'(first|exact Heap.le_refl _|refine Heap.b5 ?_|refine Heap.aW kR ?_))) (dS.cons ((View.same _ _).sub (Sub.agg (.cons (.refl _) (.cons (.refl _) (.cons (.refl _) (.cons (.refl _) (.cons (Sub.nil 1 false) .nil))))))) dS.nil)) (QA.eQ (w:=λy=>.iJ [y,_,_]) (λe he=>aI.tK _ e he) (λx hx=>by simp[aC.eQ,aC.nK,hx])) z2 ⟨tX,aQR⟩ ?_
      rintro r l_ g ⟨e,oe,rfl,rfl⟩ wn z2g z4g
      have xJ:=oe
      obtain⟨aBT,aBU,aD2,aC9,aDA,aDB,aDC,rfl,gJ,gK,gL,gN,gO,gP,gQ⟩:=xJ
      simp -dsimp -implicitDefEqProofs only[go_sem,↓reduceIte,Tryz.f81,OV.aM,OV.aD,OV.aR,aF,aE,gJ.flat,gJ.one,gK.flat,gK.one,gL.flat,gL.one,gN.flat,gN.one,gO.flat,gO.one,gP.flat,gP.one,gQ.flat,gQ.one,kB,kA,cP,aS,aY]
      exact u1 rfl (Heap.le_trans wn.le (by repeat'(first|exact Heap.le_refl _|refine Heap.b5 ?_|refine Heap.aW kR ?_))) aPA rfl
   ·have h3':((L.length:Int)=3)=False:=eq_false aA
    rw[if_neg λq=>h3 q.1]
    simp -dsimp -implicitDefEqProofs only[go_sem,↓reduceIte,Tryz.f81,OV.aM,OV.aD,OV.aR,aF,aE,fL.flat,fL.one,fV.flat,fV.one,fJ.flat,fJ.one,fH.flat,fH.one,fP.flat,fP.one,fM.flat,fM.one,fN.flat,fN.one,kB,kA,c1,c2,c3,c4,h3']
    exact λ_=>u1 rfl (by repeat'(first|exact Heap.le_refl _|refine Heap.b5 ?_|refine Heap.aW kR ?_)) aSF rfl
  have c2:(word=[102,97,105,108])=False:=eq_false h2
  rw[if_neg h2]
  by_cases h3:word=bAH
  ·rw[if_pos h3]
   have c3:(word=[112,111,105,110,116])=True:=eq_true h3
   simp -dsimp -implicitDefEqProofs only[go_sem,↓reduceIte,Tryz.f81,OV.aM,OV.aD,OV.aR,aF,aE,fL.flat,fL.one,fV.flat,fV.one,fJ.flat,fJ.one,fH.flat,fH.one,fP.flat,fP.one,fM.flat,fM.one,fN.flat,fN.one,kB,kA,c1,c2,c3]
   have hT:=a5P s L aA aA
   unfold aM5
   by_cases hp:aFV s L
   ·by_cases hk:aAD s L
    ·rw[aOS hok hp hk]at hT
     rw[if_neg λq=>q.2 hk]
     simp only[aI.aO,dF.aO]at hT
     refine aH.wl2 hT (dS.cons (hv _ (by repeat'(first|exact Heap.le_refl _|refine Heap.b5 ?_|refine Heap.aW kR ?_))) (dS.cons (View.same _ _) dS.nil)) (QA.eQ (w:=λy=>.iJ [y,_]) (λe he=>aI.tK _ e he) (λx hx=>by simp[aC.eQ,aC.nK,hx])) z2 ⟨tX,aQR⟩ ?_
     rintro r l_ g ⟨e,oe,rfl,rfl⟩ wn z2g z4g
     have xJ:=oe
     obtain⟨aBT,aBU,aD2,aC9,aDA,aDB,aDC,rfl,gJ,gK,gL,gN,gO,gP,gQ⟩:=xJ
     simp -dsimp -implicitDefEqProofs only[go_sem,↓reduceIte,Tryz.f81,OV.aM,OV.aD,OV.aR,aF,aE,gJ.flat,gJ.one,gK.flat,gK.one,gL.flat,gL.one,gN.flat,gN.one,gO.flat,gO.one,gP.flat,gP.one,gQ.flat,gQ.one,kB,kA,cP,aS,aY]
     exact u1 rfl (Heap.le_trans wn.le (by repeat'(first|exact Heap.le_refl _|refine Heap.b5 ?_|refine Heap.aW kR ?_))) aPA rfl
    ·rw[aU6 hok hp hk]at hT
     rw[if_pos ⟨hp,hk⟩]
     simp only[aI.aO,dF.aO]at hT
     refine aH.wl2 hT (dS.cons (hv _ (by repeat'(first|exact Heap.le_refl _|refine Heap.b5 ?_|refine Heap.aW kR ?_))) (dS.cons (View.same _ _) dS.nil)) (QA.eQ (w:=λy=>.iJ [y,_]) (λe he=>aI.tK _ e he) (λx hx=>by simp[aC.eQ,aC.nK,hx])) z2 ⟨tX,aQR⟩ ?_
     rintro r l_ g ⟨e,oe,rfl,rfl⟩ wn z2g z4g
     have xJ:=oe
     obtain⟨aBT,aBU,aD2,aC9,aDA,aDB,aDC,rfl,gJ,gK,gL,gN,gO,gP,gQ⟩:=xJ
     simp -dsimp -implicitDefEqProofs only[go_sem,↓reduceIte,Tryz.f81,OV.aM,OV.aD,OV.aR,aF,aE,gJ.flat,gJ.one,gK.flat,gK.one,gL.flat,gL.one,gN.flat,gN.one,gO.flat,gO.one,gP.flat,gP.one,gQ.flat,gQ.one,kB,kA,cP,aS,aY]
     exact aRM rfl oe wn (by repeat'(first|exact Heap.le_refl _|refine Heap.b5 ?_|refine Heap.aW kR ?_)) aF1
   ·rw[aYL hok hp]at hT
    rw[if_neg λq=>hp q.1]
    simp only[aI.aO,dF.aO]at hT
    refine aH.wl2 hT (dS.cons (hv _ (by repeat'(first|exact Heap.le_refl _|refine Heap.b5 ?_|refine Heap.aW kR ?_))) (dS.cons (View.same _ _) dS.nil)) (QA.eQ (w:=λy=>.iJ [y,_]) (λe he=>aI.tK _ e he) (λx hx=>by simp[aC.eQ,aC.nK,hx])) z2 ⟨tX,aQR⟩ ?_
    rintro r l_ g ⟨e,oe,rfl,rfl⟩ wn z2g z4g
    have xJ:=oe
    obtain⟨aBT,aBU,aD2,aC9,aDA,aDB,aDC,rfl,gJ,gK,gL,gN,gO,gP,gQ⟩:=xJ
    simp -dsimp -implicitDefEqProofs only[go_sem,↓reduceIte,Tryz.f81,OV.aM,OV.aD,OV.aR,aF,aE,gJ.flat,gJ.one,gK.flat,gK.one,gL.flat,gL.one,gN.flat,gN.one,gO.flat,gO.one,gP.flat,gP.one,gQ.flat,gQ.one,kB,kA,cP,aS,aY]
    exact u1 rfl (Heap.le_trans wn.le (by repeat'(first|exact Heap.le_refl _|refine Heap.b5 ?_|refine Heap.aW kR ?_))) aPA rfl
  have c3:(word=[112,111,105,110,116])=False:=eq_false h3
  rw[if_neg h3]
  by_cases h4:word=bLD
  ·rw[if_pos h4]
   have c4:(word=[116,101,114,109])=True:=eq_true h4
   by_cases h5:1<=L.length
   ·have h5':((L.length:Int) ≥ 1)=True:=eq_true aA
    rw[if_pos h5]
    simp -dsimp -implicitDefEqProofs only[go_sem,↓reduceIte,Tryz.f81,OV.aM,OV.aD,OV.aR,aF,aE,fL.flat,fL.one,fV.flat,fV.one,fJ.flat,fJ.one,fH.flat,fH.one,fP.flat,fP.one,fM.flat,fM.one,fN.flat,fN.one,kB,kA,c1,c2,c3,c4,h5',e0 aA]
    refine λ_=>⟨by omega,eV _,?_⟩
    rw[show Int.toNat 1=1 from rfl,hsl]
    have hT:=a9V s (L.getD 0 0) (L.drop 1) aA bBU
    unfold aM6
    by_cases hp:rX s (L.getD 0 0) (L.drop 1)
    ·by_cases hk:s.aT[(L.getD 0 0).toNat]?=some 50
     ·rw[aX2 hok hp hk]at hT
      rw[if_neg λq=>q.2 hk]
      simp only[aI.aO,dF.aO]at hT
      refine aH.wl2 hT (dS.cons (hv _ (by repeat'(first|exact Heap.le_refl _|refine Heap.b5 ?_|refine Heap.aW kR ?_))) (dS.cons (View.same _ _) (dS.cons (View.same _ _) dS.nil))) (QA.eQ (w:=λy=>.iJ [y,_]) (λe he=>aI.tK _ e he) (λx hx=>by simp[aC.eQ,aC.nK,hx])) z2 ⟨tX,aQR⟩ ?_
      rintro r l_ g ⟨e,oe,rfl,rfl⟩ wn z2g z4g
      have xJ:=oe
      obtain⟨aBT,aBU,aD2,aC9,aDA,aDB,aDC,rfl,gJ,gK,gL,gN,gO,gP,gQ⟩:=xJ
      simp -dsimp -implicitDefEqProofs only[go_sem,↓reduceIte,Tryz.f81,OV.aM,OV.aD,OV.aR,aF,aE,gJ.flat,gJ.one,gK.flat,gK.one,gL.flat,gL.one,gN.flat,gN.one,gO.flat,gO.one,gP.flat,gP.one,gQ.flat,gQ.one,kB,kA,cP,aS,aY]
      exact u1 rfl (Heap.le_trans wn.le (by repeat'(first|exact Heap.le_refl _|refine Heap.b5 ?_|refine Heap.aW kR ?_))) aPA rfl
     ·rw[aUQ hok hp hk]at hT
      rw[if_pos ⟨hp,hk⟩]
      simp only[aI.aO,dF.aO]at hT
      refine aH.wl2 hT (dS.cons (hv _ (by repeat'(first|exact Heap.le_refl _|refine Heap.b5 ?_|refine Heap.aW kR ?_))) (dS.cons (View.same _ _) (dS.cons (View.same _ _) dS.nil))) (QA.eQ (w:=λy=>.iJ [y,_]) (λe he=>aI.tK _ e he) (λx hx=>by simp[aC.eQ,aC.nK,hx])) z2 ⟨tX,aQR⟩ ?_
      rintro r l_ g ⟨e,oe,rfl,rfl⟩ wn z2g z4g
      have xJ:=oe
      obtain⟨aBT,aBU,aD2,aC9,aDA,aDB,aDC,rfl,gJ,gK,gL,gN,gO,gP,gQ⟩:=xJ
      simp -dsimp -implicitDefEqProofs only[go_sem,↓reduceIte,Tryz.f81,OV.aM,OV.aD,OV.aR,aF,aE,gJ.flat,gJ.one,gK.flat,gK.one,gL.flat,gL.one,gN.flat,gN.one,gO.flat,gO.one,gP.flat,gP.one,gQ.flat,gQ.one,kB,kA,cP,aS,aY]
      exact aRM rfl oe wn (by repeat'(first|exact Heap.le_refl _|refine Heap.b5 ?_|refine Heap.aW kR ?_)) aF1
    ·rw[aOD hok hp]at hT
     rw[if_neg λq=>hp q.1]
     simp only[aI.aO,dF.aO]at hT
     refine aH.wl2 hT (dS.cons (hv _ (by repeat'(first|exact Heap.le_refl _|refine Heap.b5 ?_|refine Heap.aW kR ?_))) (dS.cons (View.same _ _) (dS.cons (View.same _ _) dS.nil))) (QA.eQ (w:=λy=>.iJ [y,_]) (λe he=>aI.tK _ e he) (λx hx=>by simp[aC.eQ,aC.nK,hx])) z2 ⟨tX,aQR⟩ ?_
     rintro r l_ g ⟨e,oe,rfl,rfl⟩ wn z2g z4g
     have xJ:=oe
     obtain⟨aBT,aBU,aD2,aC9,aDA,aDB,aDC,rfl,gJ,gK,gL,gN,gO,gP,gQ⟩:=xJ
     simp -dsimp -implicitDefEqProofs only[go_sem,↓reduceIte,Tryz.f81,OV.aM,OV.aD,OV.aR,aF,aE,gJ.flat,gJ.one,gK.flat,gK.one,gL.flat,gL.one,gN.flat,gN.one,gO.flat,gO.one,gP.flat,gP.one,gQ.flat,gQ.one,kB,kA,cP,aS,aY]
     exact u1 rfl (Heap.le_trans wn.le (by repeat'(first|exact Heap.le_refl _|refine Heap.b5 ?_|refine Heap.aW kR ?_))) aPA rfl
   ·have h5':((L.length:Int) ≥ 1)=False:=eq_false aA
    rw[if_neg h5]
    simp -dsimp -implicitDefEqProofs only[go_sem,↓reduceIte,Tryz.f81,OV.aM,OV.aD,OV.aR,aF,aE,fL.flat,fL.one,fV.flat,fV.one,fJ.flat,fJ.one,fH.flat,fH.one,fP.flat,fP.one,fM.flat,fM.one,fN.flat,fN.one,kB,kA,c1,c2,c3,c4,h5']
    exact λ_=>u1 rfl (by repeat'(first|exact Heap.le_refl _|refine Heap.b5 ?_|refine Heap.aW kR ?_)) aSF rfl
  ·have c4:(word=[116,101,114,109])=False:=eq_false h4
   rw[if_neg h4]
   simp -dsimp -implicitDefEqProofs only[go_sem,↓reduceIte,Tryz.f81,OV.aM,OV.aD,OV.aR,aF,aE,fL.flat,fL.one,fV.flat,fV.one,fJ.flat,fJ.one,fH.flat,fH.one,fP.flat,fP.one,fM.flat,fM.one,fN.flat,fN.one,kB,kA,c1,c2,c3,c4]
   exact u1 rfl (by repeat'(first|exact Heap.le_refl _|refine Heap.b5 ?_|refine Heap.aW kR ?_)) aSF rfl
theorem a5Q {j:dF} (hj:j.ok):j.s<=10000:=by
 have:=aVD hj.1
 have h2:=j.gB
 obtain⟨-,htl,hpl,htt⟩:=aA3 hj
 have h4:=aM9 (λx:List Int=>x.length) 12 j.aV htt
 have h8:12*j.aV.length<=12*10:=bA6 _ htl
 rw[gI]at h2
 omega
theorem a1E {j:dF} (h:j.ok):(sO j).ok:=by
 refine⟨h,⟨aRY,aRY,aRY,aRY⟩,λk st ow kn p e1 e2 e3 e4=>?_⟩
 simp only[sO]at e1 e2 e3 e4
 obtain⟨-,rfl⟩:=a2H.1 (vJ e1)
 obtain⟨-,rfl⟩:=a2H.1 (vJ e2)
 obtain⟨-,rfl⟩:=a2H.1 (vJ e3)
 obtain⟨-,rfl⟩:=a2H.1 (vJ e4)
 exact⟨⟨by omega,by omega⟩,⟨by omega,by omega⟩,(λq=>by cases q),λ_=>⟨rfl,rfl,rfl⟩⟩
@[go_sem] def bLO:List Nat:=[0,1,2,4,5,6,7,8,9,11,12,13,14,15,16,34,49,59]
@[go_sem] def b4N:Marks:=λid=>match id with|8=>([5],(.op 0 (.op 1 (.op 2 (.op 3 (.op 4 (.op 5 (.op 6 .nil))))))),[])|_=>([],.nil,[])
set_option maxHeartbeats 2000000 in
theorem bLP {j:dF} (hj:j.ok) (text:List UInt8) (ht:text.length<=6000):qK Tryz.prog 28 [.agg j.c,.str text] (QA (vN (sO j) 1 (mM 10 text)).1.o (λy=>.iJ [y,I (vN (sO j) 1 (mM 10 text)).2])):=by
 have hjs:j.s<=10000:=a5Q hj
 have hnw:=a8U j aA (by have:=(aA3 hj).2.1;omega)
 simp only[dF.aO]at hnw ⊢
 refine tA 69 bLO aAO b4N Tryz.func28 λh=>?_
 simp -dsimp -implicitDefEqProofs only[go_sem,↓reduceIte,Tryz.f28]
 intro n4 z4
 refine aH.wn1 hnw z4 ?_
 rintro r l_ g ⟨e,oe,rfl,rfl⟩ wn z4g
 have xJ:=oe
 obtain⟨fX,gR,hP,w7,zI,w8,w9,rfl,fL,fV,fJ,fH,fP,fM,fN⟩:=xJ
 simp -dsimp -implicitDefEqProofs only[go_sem,↓reduceIte,Tryz.f28,OV.aM,OV.aD,OV.aR,aF,aE,fL.flat,fL.one,fV.flat,fV.one,fJ.flat,fJ.one,fH.flat,fH.one,fP.flat,fP.one,fM.flat,fM.one,fN.flat,fN.one]
 intro n6 aUR
 obtain⟨oC,jC,jD,aII⟩:=cB (show ¬n6=n4 from iV aUR)
 have sN:g n6=none:=iV aUR
 refine cY bLO aAO b4N (λx:aI×List OV×Heap×Int×Nat=>[(1,.str text),(4,.op n4 9 0 0),(6,.op n6 9 0 0),(7,I x.2.2.2.1),(8,I x.2.2.2.2)]) (λx=>bL (bL x.2.2.1 n4 (.row 9 [[.v .aU,.v (I 0),.v (I 0),.v .aU,.v .aU,.v .aU,.v .aU,.v .aU,.v .aU]])) n6 (.row 9 (OV.cells [x.2.1]))) (λx=>x.1.ok/\oI x.2.2.2.1/\x.1.o x.2.1/\eO h (OV.cA x.2.1) x.2.2.1/\x.2.2.1 n4=none/\x.2.2.1 n6=none/\x.2.2.2.2<=text.length/\vN (sO j) 1 (mM 10 text)=((vN x.1 x.2.2.2.1 (mM 10 (text.drop x.2.2.2.2))).1,x.2.2.2.2+(vN x.1 x.2.2.2.1 (mM 10 (text.drop x.2.2.2.2))).2)) (λx=>text.length-x.2.2.2.2) (sO j,[fX,.v (.int .i64 (sO j).bC.bO),.v (.int .i64 (sO j).bC.aQ),gR,hP,w7,zI,w8,w9],g,1,0) ⟨by simp[eE,dJ],by simp only[cP,aS,aY];exact Heap.le_refl _,a1E hj,(show oI 1 by unfold oI;omega),oe,wn,z4g,sN,iF _,by simp⟩ ?_
 clear oe wn z4g sN
 rintro⟨s,e,g,b,k⟩ ⟨hs,hb,oe,wn,z4g,z6g,hk,hrun⟩
 simp only at hs hb oe wn z4g z6g hk hrun ⊢
 have hcut:=b11 (text.drop k) [10] bBU
 have htk:text.take text.length=text:=gX (eV _)
 have xJ:=oe
 obtain⟨aBT,aBU,aD2,aC9,aDA,aDB,aDC,rfl,gJ,gK,gL,gN,gO,gP,gQ⟩:=xJ
 simp -dsimp -implicitDefEqProofs only[go_sem,↓reduceIte,Tryz.f28,htk]
 refine⟨hk,eV _,?_⟩
 have hend:vN (sO j) 1 (mM 10 text)=(s,k)->∀ (H:Heap) (x:aC),g.le H->x=.agg ([aBT,.v (.int .i64 s.bC.bO),.v (.int .i64 s.bC.aQ),aBU,aD2,aC9,aDA,aDB,aDC].map OV.val)->∃ r1 g l,Shift (.iJ [x,I k]) H r1 g/\QA (vN (sO j) 1 (mM 10 text)).1.o (λy=>.iJ [y,I (vN (sO j) 1 (mM 10 text)).2]) r1 l/\eO h l g:=λq H x hl hx=>by
  rw[q,hx]
  exact aQ0 (w:=λy=>.iJ [y,I k]) oe wn hl
 have hlen:(text.drop k).length=text.length-k:=aQG
 rcases yB 10 (text.drop k)with hno|⟨a,r,hna,hrest⟩
 ·rw[aRR 10 _ hno]at hcut
  have hlx:=bLM (text.drop k) 32 aA
  rw[show((32:UInt8).toNat:Int)=32 from rfl]at hlx
  first|refine aH.mk (hcut) ?_|refine aG.mk (hcut) ?_|refine aH.cN (hcut) ?_|refine aG.mk (cG.fO (hcut)) ?_
  simp -dsimp -implicitDefEqProofs only[go_sem,↓reduceIte,Tryz.f28]
  first|refine aH.mk (hlx) ?_|refine aG.mk (hlx) ?_|refine aH.cN (hlx) ?_|refine aG.mk (cG.fO (hlx)) ?_
  simp -dsimp -implicitDefEqProofs only[go_sem,↓reduceIte,Tryz.f28]
  simp -dsimp -implicitDefEqProofs only[go_sem,↓reduceIte,Tryz.f28,OV.aM,OV.aD,OV.aR,aF,aE,gJ.flat,gJ.one,gK.flat,gK.one,gL.flat,gL.one,gN.flat,gN.one,gO.flat,gO.one,gP.flat,gP.one,gQ.flat,gQ.one,jD,jC,cP,aS,aY]
  exact hend (by rw[hrun,vO _ hno];rfl) _ _ (by repeat'(first|exact Heap.le_refl _|refine Heap.b5 ?_|refine Heap.aW kR ?_)) aF1
 ·rw[hrest,aYP 10 _ _ hna]at hcut
  rw[hrest]
  have hal:a.length+1+r.length=text.length-k:=by rw[←hlen,hrest,tN,al6];omega
  obtain⟨m,q,hm⟩:∃ m q,mM 10 r=m::q:=by
   cases e:mM 10 r with
   |nil=>exact absurd e (aJD 10 r)
   |cons m q=>exact⟨m,q,rfl⟩
  rw[hrest,aEF a r hna,hm]at hrun
  have hlx:=bLM a 32 aA
  rw[show((32:UInt8).toNat:Int)=32 from rfl]at hlx
  rcases vI 32 a with⟨hl,hn⟩|⟨w,u,rfl,hn,hl⟩
  ·rw[hl]at hlx
   first|refine aH.mk (hcut) ?_|refine aG.mk (hcut) ?_|refine aH.cN (hcut) ?_|refine aG.mk (cG.fO (hcut)) ?_
   simp -dsimp -implicitDefEqProofs only[go_sem,↓reduceIte,Tryz.f28]
   first|refine aH.mk (hlx) ?_|refine aG.mk (hlx) ?_|refine aH.cN (hlx) ?_|refine aG.mk (cG.fO (hlx)) ?_
   simp -dsimp -implicitDefEqProofs only[go_sem,↓reduceIte,Tryz.f28]
   simp -dsimp -implicitDefEqProofs only[go_sem,↓reduceIte,Tryz.f28,OV.aM,OV.aD,OV.aR,aF,aE,gJ.flat,gJ.one,gK.flat,gK.one,gL.flat,gL.one,gN.flat,gN.one,gO.flat,gO.one,gP.flat,gP.one,gQ.flat,gQ.one,jD,jC,cP,aS,aY]
   exact hend (by rw[hrun,aM8 (aVB hn)];rfl) _ _ (by repeat'(first|exact Heap.le_refl _|refine Heap.b5 ?_|refine Heap.aW kR ?_)) aF1
  ·rw[hl]at hlx
   have hwl:w.length+1+u.length=(w++32::u).length:=by rw[tN,al6];omega
   have htw:(w++32::u).take w.length=w:=aAF rfl
   have hdw:List.drop (w.length+1) (List.take (w++32::u).length (w++32::u))=u:=by rw[eJ];exact aGH w u 32
   have hck:=checked b w hb aA
   have hdc:=decimal (aAE b w) (aBZ w hb)
   have hlo:=aVA (s:=s) (b:=b) (words:=w) hn
   first|refine aH.mk (hcut) ?_|refine aG.mk (hcut) ?_|refine aH.cN (hcut) ?_|refine aG.mk (cG.fO (hcut)) ?_
   simp -dsimp -implicitDefEqProofs only[go_sem,↓reduceIte,Tryz.f28]
   first|refine aH.mk (hlx) ?_|refine aG.mk (hlx) ?_|refine aH.cN (hlx) ?_|refine aG.mk (cG.fO (hlx)) ?_
   simp -dsimp -implicitDefEqProofs only[go_sem,↓reduceIte,Tryz.f28]
   refine⟨λq=>absurd q aA,λ_=>⟨iF _,by omega,?_⟩⟩
   rw[htw]
   have e1:IntKind.i64.wrap ((w.length:Int)+1)=((w.length+1:Nat):Int):=IntWalk.i64_in _ aA
   first|refine aH.mk (hck) ?_|refine aG.mk (hck) ?_|refine aH.cN (hck) ?_|refine aG.mk (cG.fO (hck)) ?_
   simp -dsimp -implicitDefEqProofs only[go_sem,↓reduceIte,Tryz.f28,Option.toArray_none,Option.toArray_some,List.filterMap_cons,List.filterMap_nil,List.elem_cons_self,pR,gU,bUK,e1]
   refine⟨by omega,by omega,?_⟩
   rw[hdw]
   first|refine aH.mk (hdc) ?_|refine aG.mk (hdc) ?_|refine aH.cN (hdc) ?_|refine aG.mk (cG.fO (hdc)) ?_
   simp -dsimp -implicitDefEqProofs only[go_sem,↓reduceIte,Tryz.f28,Option.toArray_none,Option.toArray_some,List.filterMap_cons,List.filterMap_nil,List.elem_cons_self,pR,gU,bUK,e1]
   refine⟨λhne=>?_,λheq=>?_⟩
   ·simp -dsimp -implicitDefEqProofs only[go_sem,↓reduceIte,Tryz.f28,OV.aM,OV.aD,OV.aR,aF,aE,gJ.flat,gJ.one,gK.flat,gK.one,gL.flat,gL.one,gN.flat,gN.one,gO.flat,gO.one,gP.flat,gP.one,gQ.flat,gQ.one,jD,jC,cP,aS,aY]
    exact hend (by rw[hrun,aM8 (by rw[hlo,if_neg hne])];rfl) _ _ (by repeat'(first|exact Heap.le_refl _|refine Heap.b5 ?_|refine Heap.aW kR ?_)) aF1
   rw[if_pos heq]at hlo
   simp -dsimp -implicitDefEqProofs only[go_sem,↓reduceIte,Tryz.f28,OV.aM,OV.aD,OV.aR,aF,aE,gJ.flat,gJ.one,gK.flat,gK.one,gL.flat,gL.one,gN.flat,gN.one,gO.flat,gO.one,gP.flat,gP.one,gQ.flat,gQ.one,jD,jC,cP,aS,aY]
   have hap:=λ(H:Heap) (hH:g.le H)=>bQK s w hs aA oe (h:=H) (λp hp=>Heap.aHE hH (wn.gH p hp))
   simp only[OV.aM,OV.aD,OV.aR]at hap
   refine aH.jP (hap _ (by repeat'(first|exact Heap.le_refl _|refine Heap.b5 ?_|refine Heap.aW kR ?_))) ?_
   rintro r_ h' (⟨s2,e2,ho,oe2,rfl,p5⟩|⟨ho,x,rfl,hx,hx9,rfl⟩)
   ·obtain⟨g2,rfl,p5,z42,z62⟩:=p5.un2 z4g ⟨oC,z6g⟩
    have oe3:=oe2
    obtain⟨b4O,b4P,b4Q,b4R,b4S,b4T,b4U,rfl,aVE,aVF,aVG,aVH,aVI,aVJ,aVK⟩:=oe3
    simp -dsimp -implicitDefEqProofs only[go_sem,↓reduceIte,Tryz.f28,OV.aM,OV.aD,OV.aR,aF,aE,gJ.flat,gJ.one,gK.flat,gK.one,gL.flat,gL.one,gN.flat,gN.one,gO.flat,gO.one,gP.flat,gP.one,gQ.flat,gQ.one,aVE.flat,aVE.one,aVF.flat,aVF.one,aVG.flat,aVG.one,aVH.flat,aVH.one,aVI.flat,aVI.one,aVJ.flat,aVJ.one,aVK.flat,aVK.one,jD,jC,cP,aS,aY]
    intro n15 aVL
    obtain⟨bLQ,aVM,aVN,bLR⟩:=cB (show ¬n15=n6 from iV aVL)
    obtain⟨a5R,aVO,aVP,bLS⟩:=cB (show ¬n15=n4 from iV aVL)
    have bUC:g2 n15=none:=iV aVL
    simp -dsimp -implicitDefEqProofs only[go_sem,↓reduceIte,Tryz.f28,OV.aM,OV.aD,OV.aR,aF,aE,gJ.flat,gJ.one,gK.flat,gK.one,gL.flat,gL.one,gN.flat,gN.one,gO.flat,gO.one,gP.flat,gP.one,gQ.flat,gQ.one,aVE.flat,aVE.one,aVF.flat,aVF.one,aVG.flat,aVG.one,aVH.flat,aVH.one,aVI.flat,aVI.one,aVJ.flat,aVJ.one,aVK.flat,aVK.one,jD,aVP,jC,aVN,aVO,aVM,cP,aS,aY]
    obtain⟨g3,yS,wn3⟩:=wn.next p5
    have b9E:aB0 s b (w++32::u)=some (s2,aAE b w):=by rw[hlo,ho];rfl
    have hdr:text.drop (k+(w++32::u).length+1)=r:=by rw[bG9,←a2B,hrest,aGH]
    have z43:=Heap.le_none yS z42
    have z63:=Heap.le_none yS z62
    have b9F:=Heap.le_none yS bUC
    refine λ_=>⟨(s2,[b4O,.v (.int .i64 s2.bC.bO),.v (.int .i64 s2.bC.aQ),b4P,b4Q,b4R,b4S,b4T,b4U],g3,aAE b w,k+(w++32::u).length+1),⟨rfl,?_⟩,?_,⟨bEE hs ho,aBZ w hb,oe2,wn3,z43,z63,by simp only;omega,?_⟩,by simp only;omega⟩
    ·rw[IntWalk.i64_in ((k:Int)+_) aA,IntWalk.i64_in _ aA];rfl
    ·simp only[nE,xL,OV.aR]
     exact Heap.b5 (Heap.aW (by rw[aE _ _ _ _ a5R];exact b9F) (Heap.aW (by rw[aE _ _ _ _ oC];exact z63) (Heap.b5 yS)))
    ·simp only
     rw[hdr,hrun,bEG b9E,hm]
     exact Prod.ext rfl (by simp only;omega)
   ·obtain⟨x0,x1,x2,x3,x4,x5,x6,x7,x8,rfl⟩:=nine hx9
    simp only[bE0,List.all_nil,pS,Bool.and_true]at hx
    obtain⟨f0,f1,f2,f3,f4,f5,f6,f7,f8⟩:=hx
    simp -dsimp -implicitDefEqProofs only[go_sem,↓reduceIte,Tryz.f28,OV.aM,OV.aD,OV.aR,aF,aE,gJ.flat,gJ.one,gK.flat,gK.one,gL.flat,gL.one,gN.flat,gN.one,gO.flat,gO.one,gP.flat,gP.one,gQ.flat,gQ.one,jD,jC,cP,aS,aY,f0,f1,f2,f3,f4,f5,f6,f7,f8]
    intro n15 aVL
    obtain⟨bLQ,aVM,aVN,bLR⟩:=cB (show ¬n15=n6 from iV aVL)
    obtain⟨a5R,aVO,aVP,bLS⟩:=cB (show ¬n15=n4 from iV aVL)
    have bUC:g n15=none:=iV aVL
    simp -dsimp -implicitDefEqProofs only[go_sem,↓reduceIte,Tryz.f28,OV.aM,OV.aD,OV.aR,aF,aE,gJ.flat,gJ.one,gK.flat,gK.one,gL.flat,gL.one,gN.flat,gN.one,gO.flat,gO.one,gP.flat,gP.one,gQ.flat,gQ.one,jD,aVP,jC,aVN,aVO,aVM,cP,aS,aY]
    exact hend (by rw[hrun,aM8 (by rw[hlo,ho];rfl)];rfl) _ _ (by repeat'(first|exact Heap.le_refl _|refine Heap.b5 ?_|refine Heap.aW kR ?_)) aF1
theorem aOV {j:dF} {t:List UInt8} (h:¬j.ok):dZ j t=(iH,0,1):=if_neg h
theorem aOW {j:dF} {t:List UInt8} (h:j.ok) (h2:¬t.length<=6000):dZ j t=(iH,0,2):=by rw[dZ,if_pos h,if_neg h2]
theorem aK1 {j:dF} {t:List UInt8} (h:j.ok) (h2:t.length<=6000):dZ j t=((vN (sO j) 1 (mM 10 t)).1,((vN (sO j) 1 (mM 10 t)).2:Int),0):=by rw[dZ,if_pos h,if_pos h2]
@[go_sem] def b4V:List Nat:=[0,1,2,4,5,6,7,8,9,14]
theorem Replay (j:dF) (text:List UInt8) (hs:j.s<=1048576) (ht:text.length<=1048576):qK Tryz.prog 8 [.agg j.c,.str text] (QA (dZ j text).1.o (λy=>.iJ [y,I (dZ j text).2.1,I (dZ j text).2.2])):=by
 have hs':=j.gB
 try simp only[gI]at hs'
 have hok:=a4R j aA
 have hrp:=λhj ht=>bLP (j:=j) hj text ht
 simp only[dF.aO]at hok hrp ⊢
 refine tA 27 b4V aAO bS Tryz.func8 λh=>?_
 simp -dsimp -implicitDefEqProofs only[go_sem,↓reduceIte,Tryz.f8]
 intro n4 z4
 first|refine aH.mk (hok) ?_|refine aG.mk (hok) ?_|refine aH.cN (hok) ?_|refine aG.mk (cG.fO (hok)) ?_
 simp -dsimp -implicitDefEqProofs only[go_sem,↓reduceIte,Tryz.f8]
 refine⟨λhn=>?_,λhy _=>⟨λhl=>?_,λhl=>?_⟩⟩
 ·rw[aOV hn]
  exact n9 kK (jF [] [_,_]) (by repeat'(first|exact Heap.le_refl _|refine Heap.b5 ?_|refine Heap.aW kR ?_))
 ·rw[aOW (t:=text) hy aA]
  exact n9 kK (jF [] [_,_]) (by repeat'(first|exact Heap.le_refl _|refine Heap.b5 ?_|refine Heap.aW kR ?_))
 ·rw[aK1 (t:=text) hy aA]
  refine aH.wn1 (hrp hy aA) z4 ?_
  generalize vN (sO j) 1 (mM 10 text)=X
  obtain⟨x,k⟩:=X
  rintro r_ l_ g ⟨e,oe,rfl,rfl⟩ wn z4g
  have xJ:=oe
  obtain⟨aBT,aBU,aD2,aC9,aDA,aDB,aDC,rfl,gJ,gK,gL,gN,gO,gP,gQ⟩:=xJ
  simp -dsimp -implicitDefEqProofs only[go_sem,↓reduceIte,Tryz.f8,OV.aM,OV.aD,OV.aR,aF,aE,gJ.flat,gJ.one,gK.flat,gK.one,gL.flat,gL.one,gN.flat,gN.one,gO.flat,gO.one,gP.flat,gP.one,gQ.flat,gQ.one]
  intro n7 bLT
  obtain⟨bDJ,aFM,aFN,bDK⟩:=cB (show ¬n7=n4 from iV bLT)
  have b9G:g n7=none:=iV bLT
  simp -dsimp -implicitDefEqProofs only[go_sem,↓reduceIte,Tryz.f8,OV.aM,OV.aD,OV.aR,aF,aE,gJ.flat,gJ.one,gK.flat,gK.one,gL.flat,gL.one,gN.flat,gN.one,gO.flat,gO.one,gP.flat,gP.one,gQ.flat,gQ.one,aFN,aFM,cP,aS,aY]
  exact aBL (w:=λy=>.iJ [y,I k,I 0]) aF1 oe wn (by repeat'(first|exact Heap.le_refl _|refine Heap.b5 ?_|refine Heap.aW kR ?_))
theorem bQL (b:Int) (w:List UInt8) (hb:oI b) (hl:w.length<=1000000):fQ Tryz.prog 118 [I b,.str w] (.str (w++32::(Go.Lib.itoa (aAE b w)++[10]))):=by
 have hc:=aBZ w hb
 have hlen:=a4B hc
 have hck:=bLL b w hb aA
 unfold oI at hc
 have hdc:=aMF 1000003 (aAE b w) hc.1 aA aA
 refine eG 13 aHN cD bS Tryz.func118 λh=>?_
 simp -dsimp -implicitDefEqProofs only[go_sem,↓reduceIte,Tryz.f118]
 repeat'(with_reducible first|intro _|refine And.intro ?_ ?_)
 all_goals try(first|omega|decide)
 first|refine aH.mk (hck) ?_|refine aG.mk (hck) ?_|refine aH.cN (hck) ?_|refine aG.mk (cG.fO (hck)) ?_
 simp -dsimp -implicitDefEqProofs only[go_sem,↓reduceIte,Tryz.f118]
 first|refine aH.mk (hdc) ?_|refine aG.mk (hdc) ?_|refine aH.cN (hdc) ?_|refine aG.mk (cG.fO (hdc)) ?_
 simp -dsimp -implicitDefEqProofs only[go_sem,↓reduceIte,Tryz.f118]
 refine⟨by simp only[tN,al6,al7];omega,by simp only[tN,al6,al7];omega,by simp⟩
@[go_sem] def bLU:List Nat:=[0,2,3,4,5,11,17]
theorem bQM (pre u:List UInt8) (hu:(32:UInt8)∉u) (hr:s5 999999999 u) (hl:pre.length+u.length<=1000000):fQ Tryz.prog 70 [.str (pre++32::(u++[10]))] (I (rdN u)):=by
 have hlen:(pre++32::(u++[10])).length=pre.length+1+u.length+1:=by simp;omega
 have hat:∀ k,k<u.length->(pre++32::(u++[10]))[pre.length+1+k]?=u[k]?:=λk hk=>by
  rw[aGJ aA,show pre.length+1+k-pre.length=k+1 by omega,bA1,aJG hk]
 have h32:(pre++32::(u++[10]))[pre.length]?=some 32:=by
  rw[aGJ (eV _),aIY,a6N]
 have hsl:List.drop (pre.length+1) (List.take (pre.length+1+u.length) (pre++32::(u++[10])))=u:=by
  rw[bMY,show pre++32::(u++[10])=(pre++[32])++(u++[10])by simp,aR4 bF,show pre.length+1+u.length-(pre.length+1)=u.length by omega,aAF rfl]
 have hrd:=aF5 u aA
 rw[if_pos hr]at hrd
 generalize hJ:pre++32::(u++[10])=J at *
 have e1:IntKind.i64.wrap ((J.length:Int)-1)=((pre.length+1+u.length:Nat):Int):=by rw[IntWalk.i64_in _ aA];omega
 refine eG 29 bLU cD bS Tryz.func70 λh=>?_
 simp -dsimp -implicitDefEqProofs only[go_sem,↓reduceIte,Tryz.f70,e1]
 refine λ_=>⟨λq=>by omega,λ_=>?_⟩
 refine cY bLU cD bS (λk:Nat=>[(0,.str J),(3,I (pre.length+1+u.length:Nat)),(4,I (pre.length+1+u.length-k:Nat))]) (λ_=>h) (λk=>k<=u.length) (λk=>u.length-k) 0 ⟨by simp[eE,dJ],Heap.le_refl _,iF _⟩ ?_
 intro k hk
 have e2:IntKind.i64.wrap (((pre.length+1+u.length-k:Nat):Int)-1)=((pre.length+u.length-k:Nat):Int):=by rw[IntWalk.i64_in _ aA];omega
 rcases cX k u.length with hlt|hge
 ·have ea:J[pre.length+u.length-k]?=some (u[u.length-1-k]'aA):=by
   rw[show pre.length+u.length-k=pre.length+1+(u.length-1-k)by omega,hat _ aA,cJ]
  have hne:¬(u[u.length-1-k]'aA).toNat=32:=λq=>hu (by
   have:u[u.length-1-k]'aA=32:=a2F q
   rw[←this];exact dX _)
  simp -dsimp -implicitDefEqProofs only[go_sem,↓reduceIte,Tryz.f70,e2,ea]
  exact⟨λ_=>⟨k+1,by omega,by omega,by omega⟩,λq=>absurd aA hne⟩
 ·obtain rfl:k=u.length:=by omega
  have ea:J[pre.length+u.length-u.length]?=some 32:=by rw[Nat.add_sub_cancel];exact h32
  simp -dsimp -implicitDefEqProofs only[go_sem,↓reduceIte,Tryz.f70,e2,ea]
  refine⟨λq=>absurd rfl q,λ_=>⟨by omega,by omega,?_⟩⟩
  rw[show pre.length+1+u.length-u.length=pre.length+1 by omega,hsl]
  first|refine aH.mk (hrd) ?_|refine aG.mk (hrd) ?_|refine aH.cN (hrd) ?_|refine aG.mk (cG.fO (hrd)) ?_
  simp -dsimp -implicitDefEqProofs only[go_sem,↓reduceIte,Tryz.f70]
theorem Sub.ipC {sz i off:Nat} {e e':List aC} (s:b8 e e'):Sub (.ip sz [e] i off) (.ip sz [e'] i off):=λE h w v r=>by
 cases r with
 |ip _ _ _ _ b o cv hi hs hc h1 hr =>
  have hat:∀ i' j y,kS [e'] i' j=some y->∃ x,kS [e] i' j=some x/\Sub x y:=by
   intro i' j y hy
   obtain⟨e1,q1,q2⟩:=nX hy
   cases i' with
   |succ n=>simp at q1
   |zero =>
    simp at q1;subst q1
    have hj:=(oG.1 q2).1
    have hx:e[j]?=some (e[j]'(by rw[s.1];exact hj)):=cJ _
    exact⟨_,by simp[kS,hx],s.2 j _ _ hx q2⟩
  exact gG.ip (E:=E) (h:=h) (w:=w) sz [e'] i off b o cv hi (λe1 he'=>by simp at he';subst he';rw[←s.1];exact hs e bF)
   (λi' j y hy=>by obtain⟨x,hx,_⟩:=hat i' j y hy;exact hc i' j x hx)
   (λi' j y hy=>by obtain⟨x,hx,_⟩:=hat i' j y hy;exact h1 i' j x hx)
   (λi' j y hy=>by obtain⟨x,hx,q⟩:=hat i' j y hy;exact q E h w _ (hr i' j x hx))
def b4W (s:aI) (w:List UInt8) (n:List Int) (r:aC) (e':List OV):Prop:=(∃ s',pL s w n=some s'/\r=.bool true/\s'.o e')∨(pL s w n=none/\r=.bool false)
@[go_sem] def bQN:List Nat:=[0,1,2,6,7,8,9,10,16,31,35,56,66]
@[go_sem] def b4X:List Nat:=[7,8,76]
@[go_sem] def b4Y:Marks:=λid=>match id with|5=>([1,10],(.op 0 (.op 1 (.op 2 (.op 3 (.op 4 (.op 5 (.op 6 (.op 7 (.op 8 (.op 9 (.op 10 (.op 11 (.op 12 (.op 13 .nil)))))))))))))),[])|9=>([11,14,15],(.op 0 (.op 1 (.op 2 (.op 3 (.op 4 (.op 5 (.op 6 (.op 7 (.op 8 (.op 9 (.op 10 (.alt 11 (.op 12 (.op 13 (.op 14 (.op 15 .nil)))) 14 (.op 11 (.op 12 (.op 13 (.op 15 .nil)))))))))))))))),[])|14=>([12,13],(.op 0 (.op 1 (.op 2 (.op 3 (.op 4 (.op 5 (.op 6 (.op 7 (.op 8 (.op 9 (.op 10 (.op 11 (.op 12 (.op 13 .nil)))))))))))))),[])|_=>([],.nil,[])
set_option maxHeartbeats 2000000 in
theorem bLV (s:aI) (w:List UInt8) (n:List Int) (hok:s.ok) (hn:n.length<=1000000) (h0 g:Heap) (nb:Nat) (e:List OV) (oe:s.o e) (hnb:g nb=none) (wn:eO h0 (OV.cA e) g) :
  gV Tryz.prog 120 [.op nb 9 0 0,.str w,ints n] (bL g nb (.row 9 (OV.cells [e]))) (aN2 h0 nb 9 (b4W s w n)):=by
 have s3:=aIW hok
 have l1:=hok.2.1
 have htl:=(aA3 hok.1).2.1
 have hst:=aI.aAZ hok
 have hvw:=View.box (sz:=9) (aI.qG oe) hnb wn.gH
 have e0:0<n.length->n[Int.toNat 0]?=some (n.getD 0 0):=λq=>by
  show n[0]?=_
  rw[jH,cJ q];rfl
 have e1:1<n.length->n[Int.toNat 1]?=some (n.getD 1 0):=λq=>by
  show n[1]?=_
  rw[jH,cJ q];rfl
 have e2:2<n.length->n[Int.toNat 2]?=some (n.getD 2 0):=λq=>by
  show n[2]?=_
  rw[jH,cJ q];rfl
 have hsl:∀ k,List.drop k (List.take n.length (n.map λn=>[I n]))=(n.drop k).map λn=>[I n]:=λk=>by
  rw[gX bF,List.map_drop]
 have hbadH:∀ H:Heap,(bL g nb (.row 9 (OV.cells [e]))).le H->pL s w n=none->∃ g1:Heap,g1.le H/\aN2 h0 nb 9 (b4W s w n) (.bool false) g1:=λH hl q=>⟨_,hl,e,g,.inr ⟨q,rfl⟩,rfl,hnb,wn⟩
 have hbad:=hbadH _ (Heap.le_refl _)
 refine zY 85 bQN b4X b4Y Tryz.func120 ?_
 simp -dsimp -implicitDefEqProofs only[go_sem,↓reduceIte,Tryz.f120]
 by_cases h1:w=bAH
 ·have c1:(w=[112,111,105,110,116])=True:=eq_true h1
  have ha:pL s w n=aM5 s n:=by rw[pL,if_neg aSH,if_neg aSH,if_pos h1]
  simp -dsimp -implicitDefEqProofs only[go_sem,↓reduceIte,Tryz.f120,c1]
  refine aH.jP (bQH s n h0 g nb e oe hnb wn aA aA hok) ?_
  rintro r h' ⟨e2,g2,hq,rfl,hg2,p5⟩
  rcases hq with⟨h2,rfl⟩|⟨h2,h3,rfl⟩|⟨h2,h3,rfl,oe2⟩
  ·simp -dsimp -implicitDefEqProofs only[go_sem,↓reduceIte,Tryz.f120]
   exact⟨_,Heap.le_refl _,e2,g2,.inr ⟨by rw[ha,aM5,if_neg λq=>h2 q.1],rfl⟩,rfl,hg2,p5⟩
  ·simp -dsimp -implicitDefEqProofs only[go_sem,↓reduceIte,Tryz.f120]
   exact⟨_,Heap.le_refl _,e2,g2,.inr ⟨by rw[ha,aM5,if_neg λq=>q.2 h3],rfl⟩,rfl,hg2,p5⟩
  ·simp -dsimp -implicitDefEqProofs only[go_sem,↓reduceIte,Tryz.f120]
   exact⟨_,Heap.le_refl _,e2,g2,.inl ⟨aDE s n,by rw[ha,aM5,if_pos ⟨h2,h3⟩],rfl,oe2⟩,rfl,hg2,p5⟩
 have c1:(w=[112,111,105,110,116])=False:=eq_false h1
 by_cases h2:w=bLD
 ·have c2:(w=[116,101,114,109])=True:=eq_true h2
  have ha:pL s w n=if 1<=n.length then aM6 s (n.getD 0 0) (n.drop 1)else none:=by rw[pL,if_neg (by rw[h2];decide),if_neg (by rw[h2];decide),if_neg h1,if_pos h2]
  by_cases h3:0<n.length
  ·have h3':((n.length:Int) > 0)=True:=eq_true aA
   rw[if_pos (show 1<=n.length from h3)]at ha
   simp -dsimp -implicitDefEqProofs only[go_sem,↓reduceIte,Tryz.f120,c1,c2,h3',e0 h3]
   refine λ_=>⟨by omega,eV _,?_⟩
   rw[show Int.toNat 1=1 from rfl,hsl]
   refine aH.jP (bO4 s (n.getD 0 0) (n.drop 1) h0 g nb e oe hnb wn aA bBU l1 hst) ?_
   rintro r h' ⟨e2,g2,⟨rfl,oe2⟩,rfl,hg2,p5⟩
   by_cases h4:rX s (n.getD 0 0) (n.drop 1)
   ·by_cases h5:s.aT[(n.getD 0 0).toNat]?=some 50
    ·rw[bDL h4 h5]
     simp -dsimp -implicitDefEqProofs only[go_sem,↓reduceIte,Tryz.f120]
     exact⟨_,Heap.le_refl _,e2,g2,.inr ⟨by rw[ha,aM6,if_neg λq=>q.2 h5],rfl⟩,rfl,hg2,p5⟩
    ·rw[a4V h4 h5]at oe2 ⊢
     simp -dsimp -implicitDefEqProofs only[go_sem,↓reduceIte,Tryz.f120]
     exact⟨_,Heap.le_refl _,e2,g2,.inl ⟨_,by rw[ha,aM6,if_pos ⟨h4,h5⟩],rfl,oe2⟩,rfl,hg2,p5⟩
   ·rw[aMT h4]
    simp -dsimp -implicitDefEqProofs only[go_sem,↓reduceIte,Tryz.f120]
    exact⟨_,Heap.le_refl _,e2,g2,.inr ⟨by rw[ha,aM6,if_neg λq=>h4 q.1],rfl⟩,rfl,hg2,p5⟩
  ·have h3':((n.length:Int) > 0)=False:=eq_false aA
   simp -dsimp -implicitDefEqProofs only[go_sem,↓reduceIte,Tryz.f120,c1,c2,h3']
   exact λ_=>hbad (by rw[ha,if_neg aA])
 have c2:(w=[116,101,114,109])=False:=eq_false h2
 by_cases h3:w=bLB
 ·have c3:(w=[112,97,114,116])=True:=eq_true h3
  have ha:pL s w n=if 3<=n.length then zC s (xG n)else none:=by rw[pL,if_pos h3]
  by_cases h4:3<=n.length
  ·have h4':((n.length:Int)<3)=False:=eq_false aA
   rw[if_pos h4]at ha
   simp -dsimp -implicitDefEqProofs only[go_sem,↓reduceIte,Tryz.f120,c1,c2,c3,h4',e0 aA,e1 aA,e2 aA]
   have how:fQ Tryz.prog 114 [ints (n.drop 3)] (ints (n.drop 3)):=QS.fO (l6 (n.drop 3) bBU) λy hy=>OS.nD (c:=λn=>[I n]) (λ_ _ q=>yJ q) hy
   rw[show Int.toNat 3=3 from rfl,hsl]
   refine λ_=>⟨by omega,by omega,by omega,by omega,eV _,aH.mk how ?_,λn7 hn7=>aH.mk how ?_⟩
   ·simp -dsimp -implicitDefEqProofs only[go_sem,↓reduceIte,Tryz.f120]
    intro n7 hn7
    obtain⟨yY,z7⟩:=hn7
    have kT:=iW yY
    rw[aF]
    have hX:∀ X,bQ.row 5 (OV.cells [[.v (I (n.getD 0 0)),.v (I (n.getD 1 0)),.v (I 0),.v (I (n.getD 2 0)),.v (ints (n.drop 3))]])=X->View (bL (bL g nb (.row 9 (OV.cells [e]))) n7 X) (.op n7 5 0 0) (.ip 5 [(xG n).c] 0 0):=λX q=>by
     rw[←q]
     exact(View.box (sz:=5) (e:=[.v (I (n.getD 0 0)),.v (I (n.getD 1 0)),.v (I 0),.v (I (n.getD 2 0)),.v (ints (n.drop 3))]) rfl aW2 bHX).sub (Sub.refl _)
    have v1:∀ X,View (bL (bL g nb (.row 9 (OV.cells [e]))) n7 X) (.op nb 9 0 0) (.ip 9 [s.c] 0 0):=λX=>by
     rw[nZ kT]
     exact View.box (sz:=9) (aI.qG oe) aW1 (λp hp=>Heap.aHE (Heap.aW z7 (Heap.le_refl _)) (wn.gH p hp))
    refine aH.aF3 (aZ5 s (xG n) aA) (dS.cons (v1 _) (dS.cons (hX _ rfl) dS.nil)) rfl ?_
    simp -dsimp -implicitDefEqProofs only[go_sem,↓reduceIte,Tryz.f120]
    refine⟨λhyes=>?_,λhno=>hbadH _ (Heap.aW aW2 (Heap.le_refl _)) bHY⟩
    refine aH.a4Y n7 (bB _ _ _) bH2 ?_
    rw[aF,nZ kT]
    have hrs:(xG n).s<=1048576:=by
     have:=(xG n).gB
     have:=(xG n).mO.gB
     simp only[xG,aB7,aQG,al7]at *
     omega
    refine gV.mono (gV.sub ?_ (a0D s (xG n) (bL h0 n7 .gone) (bL g n7 .gone) nb e oe aW1 (wn.over z7) aA hrs l1 hyes.1)) ?_
    ·simp only[oZ,aC.iE,kT,if_false]
     rw[if_pos trivial]
     exact .cons (Sub.refl _) (.cons (Sub.refl _) .nil)
    rintro r h' ⟨e2,g2,⟨rfl,oe2⟩,rfl,hg2,p5⟩
    obtain⟨g3,yS,wn3,z73,rfl⟩:=p5.base (Heap.le_none wn.le z7)
    rw[aE _ _ _ _ kT]at hg2
    by_cases hk:tD s (xG n)
    ·rw[aBS hk]at oe2 ⊢
     simp -dsimp -implicitDefEqProofs only[go_sem,↓reduceIte,Tryz.f120]
     exact⟨_,Heap.b5 (Heap.aW z73 (Heap.le_refl _)),e2,g3,.inl ⟨_,by rw[ha,zC,if_pos ⟨hyes,hk⟩],rfl,oe2⟩,rfl,hg2,wn3⟩
    ·rw[zH hk]at oe2 ⊢
     simp -dsimp -implicitDefEqProofs only[go_sem,↓reduceIte,Tryz.f120]
     exact⟨_,Heap.b5 (Heap.aW z73 (Heap.le_refl _)),e2,g3,.inr ⟨by rw[ha,zC,if_neg λq=>hk q.2],rfl⟩,rfl,hg2,wn3⟩
   ·simp -dsimp -implicitDefEqProofs only[go_sem,↓reduceIte,Tryz.f120]
    obtain⟨yY,z7⟩:=hn7
    have kT:=iW yY
    rw[aF]
    have hX:∀ X,bQ.row 5 (OV.cells [[.v (I (n.getD 0 0)),.v (I (n.getD 1 0)),.v (I 0),.v (I (n.getD 2 0)),.v (ints (n.drop 3))]])=X->View (bL (bL g nb (.row 9 (OV.cells [e]))) n7 X) (.op n7 5 0 0) (.ip 5 [(xG n).c] 0 0):=λX q=>by
     rw[←q]
     exact(View.box (sz:=5) (e:=[.v (I (n.getD 0 0)),.v (I (n.getD 1 0)),.v (I 0),.v (I (n.getD 2 0)),.v (ints (n.drop 3))]) rfl aW2 bHX).sub (Sub.refl _)
    have v1:∀ X,View (bL (bL g nb (.row 9 (OV.cells [e]))) n7 X) (.op nb 9 0 0) (.ip 9 [s.c] 0 0):=λX=>by
     rw[nZ kT]
     exact View.box (sz:=9) (aI.qG oe) aW1 (λp hp=>Heap.aHE (Heap.aW z7 (Heap.le_refl _)) (wn.gH p hp))
    refine aH.aF3 (aZ5 s (xG n) aA) (dS.cons (v1 _) (dS.cons (hX _ rfl) dS.nil)) rfl ?_
    simp -dsimp -implicitDefEqProofs only[go_sem,↓reduceIte,Tryz.f120]
    refine⟨λhyes=>?_,λhno=>hbadH _ (Heap.aW aW2 (Heap.le_refl _)) bHY⟩
    refine aH.a4Y n7 (bB _ _ _) bH2 ?_
    rw[aF,nZ kT]
    have hrs:(xG n).s<=1048576:=by
     have:=(xG n).gB
     have:=(xG n).mO.gB
     simp only[xG,aB7,aQG,al7]at *
     omega
    refine gV.mono (gV.sub ?_ (a0D s (xG n) (bL h0 n7 .gone) (bL g n7 .gone) nb e oe aW1 (wn.over z7) aA hrs l1 hyes.1)) ?_
    ·simp only[oZ,aC.iE,kT,if_false]
     rw[if_pos trivial]
     exact .cons (Sub.refl _) (.cons (Sub.refl _) .nil)
    rintro r h' ⟨e2,g2,⟨rfl,oe2⟩,rfl,hg2,p5⟩
    obtain⟨g3,yS,wn3,z73,rfl⟩:=p5.base (Heap.le_none wn.le z7)
    rw[aE _ _ _ _ kT]at hg2
    by_cases hk:tD s (xG n)
    ·rw[aBS hk]at oe2 ⊢
     simp -dsimp -implicitDefEqProofs only[go_sem,↓reduceIte,Tryz.f120]
     exact⟨_,Heap.b5 (Heap.aW z73 (Heap.le_refl _)),e2,g3,.inl ⟨_,by rw[ha,zC,if_pos ⟨hyes,hk⟩],rfl,oe2⟩,rfl,hg2,wn3⟩
    ·rw[zH hk]at oe2 ⊢
     simp -dsimp -implicitDefEqProofs only[go_sem,↓reduceIte,Tryz.f120]
     exact⟨_,Heap.b5 (Heap.aW z73 (Heap.le_refl _)),e2,g3,.inr ⟨by rw[ha,zC,if_neg λq=>hk q.2],rfl⟩,rfl,hg2,wn3⟩
  ·have h4':((n.length:Int)<3)=True:=eq_true aA
   simp -dsimp -implicitDefEqProofs only[go_sem,↓reduceIte,Tryz.f120,c1,c2,c3,h4']
   exact λ_=>hbad (by rw[ha,if_neg h4])
 have c3:(w=[112,97,114,116])=False:=eq_false h3
 by_cases h4:w=bLC
 ·have c4:(w=[102,97,105,108])=True:=eq_true h4
  have ha:pL s w n=if n.length=3/\¬n.getD 2 0=0 then zC s (aB7 n)else none:=by rw[pL,if_neg h3,if_pos h4]
  by_cases h5:n.length=3
  ·have h5':((n.length:Int)=3)=True:=eq_true aA
   by_cases h6:n.getD 2 0=0
   ·have h6':(n.getD 2 0=0)=True:=eq_true h6
    simp -dsimp -implicitDefEqProofs only[go_sem,↓reduceIte,Tryz.f120,c1,c2,c3,c4,h5',e2 aA,h6']
    exact λ_=>⟨by omega,hbad (by rw[ha,if_neg λq=>q.2 h6])⟩
   ·have h6':(n.getD 2 0=0)=False:=eq_false h6
    rw[if_pos ⟨h5,h6⟩]at ha
    simp -dsimp -implicitDefEqProofs only[go_sem,↓reduceIte,Tryz.f120,c1,c2,c3,c4,h5',e0 aA,e1 aA,e2 aA,h6']
    refine λ_=>⟨by omega,by omega,by omega,by omega,by omega,λn7 hn7=>?_⟩
    obtain⟨yY,z7⟩:=hn7
    have kT:=iW yY
    rw[aF]
    have hX:∀ X,bQ.row 5 (OV.cells [[.v (I (n.getD 0 0)),.v (I (n.getD 1 0)),.v (I (n.getD 2 0)),.v (I 0),.v (.sl 1 [] true)]])=X->View (bL (bL g nb (.row 9 (OV.cells [e]))) n7 X) (.op n7 5 0 0) (.ip 5 [(aB7 n).c] 0 0):=λX q=>by
     rw[←q]
     exact(View.box (sz:=5) (e:=[.v (I (n.getD 0 0)),.v (I (n.getD 1 0)),.v (I (n.getD 2 0)),.v (I 0),.v (.sl 1 [] true)]) rfl aW2 bHX).sub (Sub.ipC (.cons (.refl _) (.cons (.refl _) (.cons (.refl _) (.cons (.refl _) (.cons (Sub.loose _ _ _) .nil))))))
    have v1:∀ X,View (bL (bL g nb (.row 9 (OV.cells [e]))) n7 X) (.op nb 9 0 0) (.ip 9 [s.c] 0 0):=λX=>by
     rw[nZ kT]
     exact View.box (sz:=9) (aI.qG oe) aW1 (λp hp=>Heap.aHE (Heap.aW z7 (Heap.le_refl _)) (wn.gH p hp))
    refine aH.aF3 (aZ5 s (aB7 n) aA) (dS.cons (v1 _) (dS.cons (hX _ rfl) dS.nil)) rfl ?_
    simp -dsimp -implicitDefEqProofs only[go_sem,↓reduceIte,Tryz.f120]
    refine⟨λhyes=>?_,λhno=>hbadH _ (Heap.aW aW2 (Heap.le_refl _)) bHY⟩
    refine aH.a4Y n7 (bB _ _ _) bH2 ?_
    rw[aF,nZ kT]
    have hrs:(aB7 n).s<=1048576:=by
     have:=(aB7 n).gB
     have:=(aB7 n).mO.gB
     simp only[xG,aB7,aQG,al7]at *
     omega
    refine gV.mono (gV.sub ?_ (a0D s (aB7 n) (bL h0 n7 .gone) (bL g n7 .gone) nb e oe aW1 (wn.over z7) aA hrs l1 hyes.1)) ?_
    ·simp only[oZ,aC.iE,kT,if_false]
     rw[if_pos trivial]
     exact .cons (Sub.refl _) (.cons (Sub.ipC (.cons (.refl _) (.cons (.refl _) (.cons (.refl _) (.cons (.refl _) (.cons (Sub.loose _ _ _) .nil)))))) .nil)
    rintro r h' ⟨e2,g2,⟨rfl,oe2⟩,rfl,hg2,p5⟩
    obtain⟨g3,yS,wn3,z73,rfl⟩:=p5.base (Heap.le_none wn.le z7)
    rw[aE _ _ _ _ kT]at hg2
    by_cases hk:tD s (aB7 n)
    ·rw[aBS hk]at oe2 ⊢
     simp -dsimp -implicitDefEqProofs only[go_sem,↓reduceIte,Tryz.f120]
     exact⟨_,Heap.b5 (Heap.aW z73 (Heap.le_refl _)),e2,g3,.inl ⟨_,by rw[ha,zC,if_pos ⟨hyes,hk⟩],rfl,oe2⟩,rfl,hg2,wn3⟩
    ·rw[zH hk]at oe2 ⊢
     simp -dsimp -implicitDefEqProofs only[go_sem,↓reduceIte,Tryz.f120]
     exact⟨_,Heap.b5 (Heap.aW z73 (Heap.le_refl _)),e2,g3,.inr ⟨by rw[ha,zC,if_neg λq=>hk q.2],rfl⟩,rfl,hg2,wn3⟩
  ·have h5':((n.length:Int)=3)=False:=eq_false aA
   simp -dsimp -implicitDefEqProofs only[go_sem,↓reduceIte,Tryz.f120,c1,c2,c3,c4,h5']
   exact λ_=>hbad (by rw[ha,if_neg λq=>h5 q.1])
 ·have c4:(w=[102,97,105,108])=False:=eq_false h4
  simp -dsimp -implicitDefEqProofs only[go_sem,↓reduceIte,Tryz.f120,c1,c2,c3,c4]
  exact hbad (by rw[pL,if_neg h3,if_neg h4,if_neg h1,if_neg h2])
def bUE (s:aI) (b:Int) (line:List UInt8) (r:aC) (e':List OV):Prop:=(∃ s' b',aB0 s b line=some (s',b')/\r=.bool true/\s'.o e')∨(aB0 s b line=none/\r=.bool false)
theorem a5S {c:UInt8} {u:List UInt8} (h:c∉u):∀ a:List UInt8,mM c (a++c::u)=mM c a++[u]
 | []=>by rw[pR,aQU,vO _ h,bAZ];rfl
 |x::a=>by
  have ih:=a5S h a
  by_cases e:x=c
  ·subst e;rw[tE,aQU,aQU,ih];rfl
  ·obtain⟨y,r,h1,h2⟩:=aGG e a
   obtain⟨y2,r2,h3,h4⟩:=aGG e (a++c::u)
   rw[ih,h1]at h3
   rw[tE,h4,h2]
   cases h3;rfl
@[go_sem] def bLW:List Nat:=[0,1,2,6,7,8,9,14,37]
set_option maxHeartbeats 2000000 in
theorem bQO (s:aI) (b:Int) (line:List UInt8) (hok:s.ok) (hb:oI b) (hl:line.length<=6000) (h0 g:Heap) (nb:Nat) (e:List OV) (oe:s.o e) (hnb:g nb=none) (wn:eO h0 (OV.cA e) g) :
  gV Tryz.prog 69 [.op nb 9 0 0,I b,.str line] (bL g nb (.row 9 (OV.cells [e]))) (aN2 h0 nb 9 (bUE s b line)):=by
 have hsp:=bJL line 32 aA
 rw[show((32:UInt8).toNat:Int)=32 from rfl]at hsp
 have hbad:aB0 s b line=none->∃ g1:Heap,g1.le (bL g nb (.row 9 (OV.cells [e])))/\aN2 h0 nb 9 (bUE s b line) (.bool false) g1:=λq=>⟨_,Heap.le_refl _,e,g,.inr ⟨q,rfl⟩,rfl,hnb,wn⟩
 rcases vI 32 line with⟨-,hn⟩|⟨words,u,rfl,hn,-⟩
 ·rw[vO _ hn]at hsp
  have hl1:[line].length=1:=rfl
  generalize [line]=L at *
  refine zY 44 bLW cD bS Tryz.func69 ?_
  simp -dsimp -implicitDefEqProofs only[go_sem,↓reduceIte,Tryz.f69]
  first|refine aH.mk (hsp) ?_|refine aG.mk (hsp) ?_|refine aH.cN (hsp) ?_|refine aG.mk (cG.fO (hsp)) ?_
  simp -dsimp -implicitDefEqProofs only[go_sem,↓reduceIte,Tryz.f69]
  exact λ_=>⟨λ_=>hbad (aVB hn),λq=>absurd q aA⟩
 ·rw[a5S hn]at hsp
  have hlo:=aVA (s:=s) (b:=b) (words:=words) hn
  have hll:words.length+1+u.length=(words++32::u).length:=by rw[tN,al6];omega
  have hsl:=aQ1 32 words
  have hmm:=aK3 (c:=32) words
  have hcan:∀ p ps,mM 32 words=p::ps->∀ w n,aWO words w n->w=p/\ps=n.map Go.Lib.itoa:=λp ps q w n hc=>by
   have h1:=aNI hc.1 (l:=n) λx hx=>(hc.2.1 x hx).1
   rw[←hc.2.2,q]at h1
   exact⟨(bM3 h1).1.symm,(bM3 h1).2⟩
  have hwd:∀ p n,mM 32 words=p::n.map Go.Lib.itoa->words=p++hU n/\(32:UInt8)∉p:=λp n q=>bEV q
  generalize hps:mM 32 words=S at *
  cases S with
  |nil=>exact absurd hps (aJD 32 words)
  |cons p ps =>
  have hln:(p::ps++[u]).length=ps.length+2:=by simp
  have hpsl:ps.length<=6001:=by have:=hsl.1;simp only[al6]at this;omega
  have hrd:=aTQ ps false aA (λx hx=>by have:=hsl.2 x (.tail _ hx);omega)
  have e1:IntKind.i64.wrap (((p::ps++[u]).length:Int)-1)=((ps.length+1:Nat):Int):=by rw[hln,IntWalk.i64_in _ aA];omega
  have e2:List.drop (Int.toNat 1) (List.take (ps.length+1) ((p::ps++[u]).map λs=>[aC.str s]))=ps.map λs=>[aC.str s]:=by
   rw[show Int.toNat 1=1 from rfl]
   simp[aAF]
  have e3:(p::ps++[u])[Int.toNat 0]?=some p:=rfl
  generalize p::ps++[u]=L at *
  refine zY 44 bLW cD bS Tryz.func69 ?_
  simp -dsimp -implicitDefEqProofs only[go_sem,↓reduceIte,Tryz.f69]
  first|refine aH.mk (hsp) ?_|refine aG.mk (hsp) ?_|refine aH.cN (hsp) ?_|refine aG.mk (cG.fO (hsp)) ?_
  simp -dsimp -implicitDefEqProofs only[go_sem,↓reduceIte,Tryz.f69,e1]
  refine λ_=>⟨λq=>absurd q aA,λ_ _=>⟨by omega,by omega,?_⟩⟩
  rw[e2]
  cases hN:rI 999999999 ps with
  |none =>
   rw[hN]at hrd
   simp only[bHF]at hrd
   first|refine aH.mk (hrd) ?_|refine aG.mk (hrd) ?_|refine aH.cN (hrd) ?_|refine aG.mk (cG.fO (hrd)) ?_
   simp -dsimp -implicitDefEqProofs only[go_sem,↓reduceIte,Tryz.f69]
   refine hbad ?_
   rw[hlo,a1B λw n q=>?_]
   ·split <;> rfl
   ·obtain⟨-,h2⟩:=hcan p ps rfl w n q
    rw[(u3 dQ).2 ⟨h2,q.2.1⟩]at hN
    cases hN
  |some n =>
   rw[hN,aXR hN]at hrd
   simp only[Option.isSome_some]at hrd
   obtain⟨rfl,hrg⟩:=(u3 dQ).1 hN
   obtain⟨hw1,hw2⟩:=hwd p n rfl
   have hap:=aM7 (s:=s) ⟨hw2,hrg,hw1⟩
   have hpl:p.length<=6000:=by have:=hsl.2 p (.head _);omega
   have hnl:n.length<=6001:=by rw[lM]at hpsl;exact hpsl
   have hlw:=bGO p n aA aA hrg
   rw[←hw1]at hlw
   have hli:=bQL b words hb aA
   first|refine aH.mk (hrd) ?_|refine aG.mk (hrd) ?_|refine aH.cN (hrd) ?_|refine aG.mk (cG.fO (hrd)) ?_
   simp -dsimp -implicitDefEqProofs only[go_sem,↓reduceIte,Tryz.f69,e3]
   refine⟨by omega,?_⟩
   first|refine aH.mk (hlw) ?_|refine aG.mk (hlw) ?_|refine aH.cN (hlw) ?_|refine aG.mk (cG.fO (hlw)) ?_
   simp -dsimp -implicitDefEqProofs only[go_sem,↓reduceIte,Tryz.f69,e3]
   first|refine aH.mk (hli) ?_|refine aG.mk (hli) ?_|refine aH.cN (hli) ?_|refine aG.mk (cG.fO (hli)) ?_
   simp -dsimp -implicitDefEqProofs only[go_sem,↓reduceIte,Tryz.f69,e3]
   have heq:(words++32::(Go.Lib.itoa (aAE b words)++[10])=words++32::u++[10])↔u=Go.Lib.itoa (aAE b words):=by
    rw[oW,List.append_cancel_left_eq]
    simp only[tE,List.cons.injEq,true_and,List.append_cancel_right_eq]
    exact eq_comm
   refine⟨by omega,λhne=>hbad (by rw[hlo,if_neg λq=>hne (heq.2 q)]),λhyes=>⟨by omega,?_⟩⟩
   rw[if_pos (heq.1 hyes),hap]at hlo
   refine aH.jP (bLV s p n hok aA h0 g nb e oe hnb wn) ?_
   rintro r h' ⟨e2,g2,hq,rfl,hg2,p5⟩
   rcases hq with⟨s',ha,rfl,oe2⟩|⟨ha,rfl⟩
   ·simp -dsimp -implicitDefEqProofs only[go_sem,↓reduceIte,Tryz.f69]
    exact⟨_,Heap.le_refl _,e2,g2,.inl ⟨s',_,by rw[hlo,ha];rfl,rfl,oe2⟩,rfl,hg2,p5⟩
   ·simp -dsimp -implicitDefEqProofs only[go_sem,↓reduceIte,Tryz.f69]
    exact⟨_,Heap.le_refl _,e2,g2,.inr ⟨by rw[hlo,ha];rfl,rfl⟩,rfl,hg2,p5⟩
theorem a5T {s s':aI} {b b':Int} {line:List UInt8} (h:aB0 s b line=some (s',b')):∃ words u,line=words++32::u/\(32:UInt8)∉u/\u=Go.Lib.itoa b':=by
 rcases vI 32 line with⟨-,hn⟩|⟨words,u,rfl,hn,-⟩
 ·rw[aVB hn]at h;cases h
 ·rw[aVA hn]at h
  split at h
  ·rename_i hu
   cases ha:aOU s words with
   |none=>rw[ha]at h;cases h
   |some y=>rw[ha]at h;cases h;exact⟨words,u,rfl,hn,hu⟩
  ·cases h
@[go_sem] def bLX:List Nat:=[0,1,4,5,6,7,8,9,10,16,22,30]
set_option maxHeartbeats 2000000 in
theorem a1F {j:dF} (hj:j.ok) (text:List UInt8) (ht:text.length<=6000):qK Tryz.prog 23 [.ip 5 [j.c] 0 0,.str text] (QA (vN (sO j) 1 (mM 10 text)).1.o (λy=>.iJ [y,I (vN (sO j) 1 (mM 10 text)).2])):=by
 have hjs:j.s<=10000:=a5Q hj
 have hnw:=bWJ j aA (by have:=(aA3 hj).2.1;omega)
 simp only[dF.aO]at hnw ⊢
 refine tA 40 bLX cD bS Tryz.func23 λh=>?_
 simp -dsimp -implicitDefEqProofs only[go_sem,↓reduceIte,Tryz.f23]
 intro n4 z4
 refine aH.wn1 hnw z4 ?_
 rintro r l_ g ⟨e,oe,rfl,rfl⟩ wn z4g
 have xJ:=oe
 obtain⟨fX,gR,hP,w7,zI,w8,w9,rfl,fL,fV,fJ,fH,fP,fM,fN⟩:=xJ
 simp -dsimp -implicitDefEqProofs only[go_sem,↓reduceIte,Tryz.f23,OV.aM,OV.aD,OV.aR,aF,aE,fL.flat,fL.one,fV.flat,fV.one,fJ.flat,fJ.one,fH.flat,fH.one,fP.flat,fP.one,fM.flat,fM.one,fN.flat,fN.one]
 intro n6 aUR
 obtain⟨oC,jC,jD,aII⟩:=cB (show ¬n6=n4 from iV aUR)
 have sN:g n6=none:=iV aUR
 refine cY bLX cD bS (λx:aI×List OV×Heap×Int×Nat×Nat=>[(1,.str text),(4,.op n4 9 0 0),(6,.op n6 9 0 0),(7,I x.2.2.2.2.1),(8,I x.2.2.2.1),(9,I x.2.2.2.2.2)]) (λx=>bL (bL x.2.2.1 n4 (.row 9 [[.v .aU,.v (I 0),.v (I 0),.v .aU,.v .aU,.v .aU,.v .aU,.v .aU,.v .aU]])) n6 (.row 9 (OV.cells [x.2.1]))) (λx=>x.1.ok/\oI x.2.2.2.1/\x.1.o x.2.1/\eO h (OV.cA x.2.1) x.2.2.1/\x.2.2.1 n4=none/\x.2.2.1 n6=none/\(x.2.2.2.2.1<=x.2.2.2.2.2/\x.2.2.2.2.2<=text.length)/\(10:UInt8)∉(text.drop x.2.2.2.2.1).take (x.2.2.2.2.2-x.2.2.2.2.1)/\vN (sO j) 1 (mM 10 text)=((vN x.1 x.2.2.2.1 (mM 10 (text.drop x.2.2.2.2.1))).1,x.2.2.2.2.1+(vN x.1 x.2.2.2.1 (mM 10 (text.drop x.2.2.2.2.1))).2)) (λx=>text.length-x.2.2.2.2.2) (sO j,[fX,.v (.int .i64 (sO j).bC.bO),.v (.int .i64 (sO j).bC.aQ),gR,hP,w7,zI,w8,w9],g,1,0,0) ⟨by simp[eE,dJ],by simp only[cP,aS,aY];exact Heap.le_refl _,a1E hj,(show oI 1 by unfold oI;omega),oe,wn,z4g,sN,⟨eV _,iF _⟩,by simp,by simp⟩ ?_
 clear oe wn z4g sN
 rintro⟨s,e,g,b,k,i⟩ ⟨hs,hb,oe,wn,z4g,z6g,⟨hk,hi⟩,hno,hrun⟩
 simp only at hs hb oe wn z4g z6g hk hi hno hrun ⊢
 rcases cX i text.length with hlt|hge
 ·have ea:text[i]?=some text[i]:=cJ hlt
  simp -dsimp -implicitDefEqProofs only[go_sem,↓reduceIte,Tryz.f23,ea]
  refine λ_=>⟨λ_=>⟨λhne=>⟨(s,e,g,b,k,i+1),⟨rfl,rfl,IntWalk.i64_in _ aA⟩,Heap.le_refl _,⟨hs,hb,oe,wn,z4g,z6g,⟨by simp only;omega,hlt⟩,aJS hk ea (λq=>hne (by rw[q];rfl)) hno,hrun⟩,by simp only;omega⟩,λh10=>?_⟩,λq=>absurd hlt q⟩
  have b40:text[i]=10:=a2F (by have:(10:UInt8).toNat=10:=rfl;omega)
  have e10:text[i]?=some 10:=by rw[ea,b40]
  have hst:=a4H hk e10 hno
  have hs3:=aIW hs
  obtain⟨m,q,hm⟩:∃ m q,mM 10 (text.drop (i+1))=m::q:=by
   cases e:mM 10 (text.drop (i+1))with
   |nil=>exact absurd e (aJD 10 _)
   |cons m q=>exact⟨m,q,rfl⟩
  have hli:List.drop k (List.take i text)=(text.drop k).take (i-k):=bMY ..
  have hll:((text.drop k).take (i-k)).length=i-k:=by rw[pN,aQG];omega
  have htk:text.take (i+1)=text.take k++((text.drop k).take (i-k)++[10]):=by
   have h1:text.take (i+1)=text.take i++[10]:=by rw[kF hlt,b40]
   rw[h1,←hli,←oW]
   congr 1
   have:=aR1 k (text.take i)
   rw[List.take_take,a2G hk]at this
   exact this.symm
  generalize (text.drop k).take (i-k)=line at *
  refine aH.wl0 (aWM s aA) (dS.cons (View.box (sz:=9) (aI.qG oe) (by rw[aE _ _ _ _ oC];exact z6g) (λp hp=>Heap.aHE (Heap.aW z4g (Heap.le_refl _)) (wn.gH p hp))) dS.nil) (QA.eQ (w:=λy=>y) (λe he=>aI.tK _ e he) (λx hx=>hx)) ?_
  rintro r l_ g1 ⟨e2,oe2,rfl,rfl⟩ p5
  have g16:=p5.keep (bB ..)
  have g14:=p5.keep (show bL (bL g n4 (.row 9 [[.v .aU,.v (I 0),.v (I 0),.v .aU,.v .aU,.v .aU,.v .aU,.v .aU,.v .aU]])) n6 (.row 9 (OV.cells [e])) n4=_ by rw[aE _ _ _ _ aII,bB])
  have oe3:=oe2
  obtain⟨b4O,b4P,b4Q,b4R,b4S,b4T,b4U,rfl,aVE,aVF,aVG,aVH,aVI,aVJ,aVK⟩:=oe3
  simp -dsimp -implicitDefEqProofs only[go_sem,↓reduceIte,Tryz.f23,OV.aM,OV.aD,OV.aR,aF,aE,aVE.flat,aVE.one,aVF.flat,aVF.one,aVG.flat,aVG.one,aVH.flat,aVH.one,aVI.flat,aVI.one,aVJ.flat,aVJ.one,aVK.flat,aVK.one,g16,g14]
  intro n10 z10
  obtain⟨bLY,a5U,a5V,b42⟩:=cB (show ¬n10=n6 from λq=>by rw[q,g16]at z10;cases z10)
  obtain⟨a5W,a5X,a5Y,b43⟩:=cB (show ¬n10=n4 from λq=>by rw[q,g14]at z10;cases z10)
  refine⟨hk,hi,?_⟩
  rw[hli]
  refine aH.jP (bQO s b line hs hb aA _ _ n10 _ oe2 z10 p5) ?_
  rintro r h' ⟨e3,g3,hq,rfl,hg3,wn3⟩
  have g36:=wn3.keep (bB ..)
  have xJ:=oe
  obtain⟨aBT,aBU,aD2,aC9,aDA,aDB,aDC,rfl,gJ,gK,gL,gN,gO,gP,gQ⟩:=xJ
  rw[hst,hm]at hrun
  rcases hq with⟨s2,b2,hlo,rfl,oe3⟩|⟨hlo,rfl⟩
  ·obtain⟨words,u,rfl,hu,rfl⟩:=a5T hlo
   obtain⟨aZJ,mL⟩:=aVC hb hlo
   have hr2:s5 999999999 (Go.Lib.itoa b2):=(aNH mL.1 (by have:=mL.2;omega)).2 (by have:=mL.2;omega)
   have hwl:(words++32::Go.Lib.itoa b2).length=words.length+1+(Go.Lib.itoa b2).length:=by rw[tN,al6];omega
   have hla:=bQM (text.take k++words) (Go.Lib.itoa b2) hu hr2 (by rw[tN,pN];omega)
   rw[show text.take k++words++32::(Go.Lib.itoa b2++[10])=text.take (i+1)by rw[htk];simp,aRV mL.1 (by have:=mL.2;omega)]at hla
   have ew:IntKind.i64.wrap ((i:Int)+1)=((i+1:Nat):Int):=IntWalk.i64_in _ aA
   have oe4:=oe3
   obtain⟨b9J,b9K,b9L,b9M,b9N,b9O,b9P,rfl,b44,b45,b46,b47,b48,b49,b5A⟩:=oe4
   simp -dsimp -implicitDefEqProofs only[go_sem,↓reduceIte,Tryz.f23,OV.aM,OV.aD,OV.aR,aF,aE,gJ.flat,gJ.one,gK.flat,gK.one,gL.flat,gL.one,gN.flat,gN.one,gO.flat,gO.one,gP.flat,gP.one,gQ.flat,gQ.one,aVE.flat,aVE.one,aVF.flat,aVF.one,aVG.flat,aVG.one,aVH.flat,aVH.one,aVI.flat,aVI.one,aVJ.flat,aVJ.one,aVK.flat,aVK.one,b44.flat,b44.one,b45.flat,b45.one,b46.flat,b46.one,b47.flat,b47.one,b48.flat,b48.one,b49.flat,b49.one,b5A.flat,b5A.one,g36,jD,a5Y,jC,a5V,a5X,a5U,cP,aS,aY,ew]
   refine⟨hlt,?_⟩
   first|refine aH.mk (hla) ?_|refine aG.mk (hla) ?_|refine aH.cN (hla) ?_|refine aG.mk (cG.fO (hla)) ?_
   simp -dsimp -implicitDefEqProofs only[go_sem,↓reduceIte,Tryz.f23,ew]
   obtain⟨g4,rfl,wn4,z44,z64⟩:=wn3.un2 z4g ⟨oC,z6g⟩
   obtain⟨g5,aOE,wn5⟩:=wn.next wn4
   rw[aE _ _ _ _ bLY,aE _ _ _ _ a5W]at hg3
   refine⟨(s2,[b9J,.v (.int .i64 s2.bC.bO),.v (.int .i64 s2.bC.aQ),b9K,b9L,b9M,b9N,b9O,b9P],g5,b2,i+1,i+1),⟨rfl,rfl,rfl⟩,?_,⟨aZJ hs,mL,oe3,wn5,Heap.le_none aOE z44,Heap.le_none aOE z64,⟨eV _,hlt⟩,by simp,?_⟩,by simp only;omega⟩
   ·simp only[cP,aS,aY,OV.aR]
    exact Heap.b5 (Heap.aW (by rw[aE _ _ _ _ a5W];exact Heap.le_none aOE hg3) (Heap.aW (by rw[aE _ _ _ _ oC];exact Heap.le_none aOE z64) (Heap.b5 aOE)))
   ·simp only
    rw[hrun,bEG hlo,hm]
    exact Prod.ext rfl (by simp only;omega)
  ·have g34:=wn3.keep (show bL (bL g n4 (.row 9 [[.v .aU,.v (I 0),.v (I 0),.v .aU,.v .aU,.v .aU,.v .aU,.v .aU,.v .aU]])) n6 _ n4=_ by rw[aE _ _ _ _ aII,bB])
   simp -dsimp -implicitDefEqProofs only[go_sem,↓reduceIte,Tryz.f23,OV.aM,OV.aD,OV.aR,aF,aE,gJ.flat,gJ.one,gK.flat,gK.one,gL.flat,gL.one,gN.flat,gN.one,gO.flat,gO.one,gP.flat,gP.one,gQ.flat,gQ.one,aVE.flat,aVE.one,aVF.flat,aVF.one,aVG.flat,aVG.one,aVH.flat,aVH.one,aVI.flat,aVI.one,aVJ.flat,aVJ.one,aVK.flat,aVK.one,g36,g34,jD,a5Y,jC,a5V,a5X,a5U,cP,aS,aY]
   rw[hrun,aM8 hlo]
   have yS:g.le g3:=Heap.le_trans (Heap.aW z6g (Heap.aW z4g (Heap.le_refl _))) wn3.le
   exact aBL (w:=λy=>.iJ [y,I k]) aF1 oe wn (Heap.aW z4g (Heap.aW (Heap.le_none yS hg3) yS))
 ·obtain rfl:i=text.length:=by omega
  have xJ:=oe
  obtain⟨aBT,aBU,aD2,aC9,aDA,aDB,aDC,rfl,gJ,gK,gL,gN,gO,gP,gQ⟩:=xJ
  simp -dsimp -implicitDefEqProofs only[go_sem,↓reduceIte,Tryz.f23,OV.aM,OV.aD,OV.aR,aF,aE,gJ.flat,gJ.one,gK.flat,gK.one,gL.flat,gL.one,gN.flat,gN.one,gO.flat,gO.one,gP.flat,gP.one,gQ.flat,gQ.one,cO,eK,cP,aS,aY,jD,jC]
  intro _
  have hno':(10:UInt8)∉text.drop k:=by
   have h1:text.length-k=(text.drop k).length:=List.length_drop.symm
   rwa [h1,eJ]at hno
  rw[hrun,vO _ hno']
  exact aBL (w:=λy=>.iJ [y,I k]) aF1 oe wn (by repeat'(first|exact Heap.le_refl _|refine Heap.b5 ?_|refine Heap.aW kR ?_))
@[go_sem] def b5B:List Nat:=[0,1,2,4,5,6,7,8,10,14]
theorem aVQ (j:dF) (text:List UInt8) (hs:j.s<=1048576) (ht:text.length<=1048576):qK Tryz.prog 6 [.agg j.c,.str text] (QA (dZ j text).1.o (λy=>.iJ [y,I (dZ j text).2.1,I (dZ j text).2.2])):=by
 have hs':=j.gB
 try simp only[gI]at hs'
 have hok:=bVU j aA
 have hrp:=λhj ht=>a1F (j:=j) hj text ht
 simp only[dF.aO]at hok hrp ⊢
 refine tA 23 b5B aAO bS Tryz.func6 λh=>?_
 simp -dsimp -implicitDefEqProofs only[go_sem,↓reduceIte,Tryz.f6]
 intro n4 z4
 first|refine aH.mk (hok) ?_|refine aG.mk (hok) ?_|refine aH.cN (hok) ?_|refine aG.mk (cG.fO (hok)) ?_
 simp -dsimp -implicitDefEqProofs only[go_sem,↓reduceIte,Tryz.f6]
 refine⟨λhn=>?_,λhy _=>⟨λhl=>?_,λhl=>?_⟩⟩
 ·rw[aOV hn]
  exact n9 kK (jF [] [_,_]) (by repeat'(first|exact Heap.le_refl _|refine Heap.b5 ?_|refine Heap.aW kR ?_))
 ·rw[aOW (t:=text) hy aA]
  exact n9 kK (jF [] [_,_]) (by repeat'(first|exact Heap.le_refl _|refine Heap.b5 ?_|refine Heap.aW kR ?_))
 ·rw[aK1 (t:=text) hy aA]
  refine aH.wn1 (hrp hy aA) z4 ?_
  generalize vN (sO j) 1 (mM 10 text)=X
  obtain⟨x,k⟩:=X
  rintro r_ l_ g ⟨e,oe,rfl,rfl⟩ wn z4g
  have xJ:=oe
  obtain⟨aBT,aBU,aD2,aC9,aDA,aDB,aDC,rfl,gJ,gK,gL,gN,gO,gP,gQ⟩:=xJ
  simp -dsimp -implicitDefEqProofs only[go_sem,↓reduceIte,Tryz.f6,OV.aM,OV.aD,OV.aR,aF,aE,gJ.flat,gJ.one,gK.flat,gK.one,gL.flat,gL.one,gN.flat,gN.one,gO.flat,gO.one,gP.flat,gP.one,gQ.flat,gQ.one]
  intro n7 bLT
  obtain⟨bDJ,aFM,aFN,bDK⟩:=cB (show ¬n7=n4 from iV bLT)
  have b9G:g n7=none:=iV bLT
  simp -dsimp -implicitDefEqProofs only[go_sem,↓reduceIte,Tryz.f6,OV.aM,OV.aD,OV.aR,aF,aE,gJ.flat,gJ.one,gK.flat,gK.one,gL.flat,gL.one,gN.flat,gN.one,gO.flat,gO.one,gP.flat,gP.one,gQ.flat,gQ.one,aFN,aFM,cP,aS,aY]
  exact aBL (w:=λy=>.iJ [y,I k,I 0]) aF1 oe wn (by repeat'(first|exact Heap.le_refl _|refine Heap.b5 ?_|refine Heap.aW kR ?_))
theorem bLZ {j:dF} (h:j.ok) (L:List (List UInt8)):(vN (sO j) 1 L).1.ok:=bEF L (a1E h) wN
theorem bGP (j:dF) (t:List UInt8):(dZ j t).1.s<=10000:=by
 have hz:iH.s=0:=rfl
 by_cases h:j.ok
 ·by_cases h2:t.length<=6000
  ·rw[aK1 h h2];exact aIW (bLZ h _)
  ·rw[aOW h h2];show iH.s<=_;omega
 ·rw[aOV h];show iH.s<=_;omega
@[go_sem] def bEK:List Nat:=[0,2,3,5,7]
@[go_sem] def bUF:List Nat:=[12]
theorem aVR (k:Int) (h1:k<=4611686018427387904):fQ Tryz.prog 137 [I k] (.str (aI8 k)):=by
 refine eG 20 bEK bUF bS Tryz.func137 λh=>?_
 simp -dsimp -implicitDefEqProofs only[go_sem,↓reduceIte,Tryz.f137]
 repeat'(with_reducible first|intro _|refine And.intro ?_ ?_)
 ·simp[aI8, *]
 have hd:=a7D k.toNat
 refine cY bEK bUF bS (λx:Int×List UInt8=>[(0,I x.1),(3,.str x.2)]) (λ_=>h) (λx=>0<=x.1/\x.1<=k/\aC7 k.toNat=aC7 x.1.toNat++x.2) (λx=>x.1.toNat) (k,[]) (by refine⟨by simp[eE,dJ],Heap.le_refl _,by simp;omega⟩) ?_
 rintro⟨j,out⟩ ⟨hj,hjk,he⟩
 simp only at hj hjk he
 have hol:out.length<=k.toNat:=by rw[he,tN]at hd;omega
 simp -dsimp -implicitDefEqProofs only[go_sem,↓reduceIte,Tryz.f137]
 repeat'(with_reducible first|intro _|refine And.intro ?_ ?_)
 all_goals try omega
 all_goals try(simp;done)
 ·rw[a2E aA,aGK aA,IntWalk.i64_in (j / 10) aA,IntWalk.i64_in (48+j%10) aA,IntWalk.u8_in (48+j%10) aA]
  refine⟨(j / 10,_),⟨rfl,rfl⟩,⟨by omega,by omega,?_⟩,by omega⟩
  rw[he,aTL aA,oW]
  have e1:j.toNat / 10=(j / 10).toNat:=by omega
  have e2:48+j.toNat%10=(48+j%10).toNat:=by omega
  rw[e1,e2];rfl
 all_goals
  have hj0:j=0:=by omega
  subst hj0
  rw[show(0:Int).toNat=0 from rfl,aPR,pR]at he
  simp[aI8, *]
end Go.Hl

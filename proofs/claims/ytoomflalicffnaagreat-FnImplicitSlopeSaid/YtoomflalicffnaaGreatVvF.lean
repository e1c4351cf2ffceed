/-
  Contracts of functions and laws of the layer over the walk.
-/
import Derived.Test.YtoomflalicffnaaGreatVvE
import Derived.Test.YtoomflalicffnaaGreatVvD
import Derived.Test.YtoomflalicffnaaGreatVvA
import Derived.Test.YtoomflalicffnaaGreatVvC
import Derived.Test.YtoomflalicffnaaGreatVvB
namespace Go.Hl
set_option maxRecDepth 100000
open Go.Proofs
set_option linter.unusedVariables false
set_option linter.unusedSimpArgs false
abbrev rM (l:List (List (List Int))):aE:=gF 1 (λs=>[bW s]) l
@[go_sem] def aZE:List Nat:=[0,1,4,5,7,9,10,11,12]
@[go_sem] def bD6:List Nat:=[8,20]
theorem a50 (rg:List (List Int)) (L:List Int) (hr:∀ r∈L,0<=r/\r<rg.length) (hl:L.length<=1048576):fE Tryz.prog 140 [bW rg,ints L] (bW (L.map λr=>rg.getD r.toNat [])):=by
 refine lS 24 aZE bD6 cF Tryz.func140 λh=>?_
 simp -dsimp -implicitDefEqProofs only[go_sem,↓reduceIte,Tryz.f140]
 refine⟨bD,λ_=>?_⟩
 refine cM aZE bD6 cF (λx:Nat×Option Nat=>[(0,bW rg),(5,fT 1 ((L.map λr=>rg.getD r.toNat []).take x.1).length x.2),(9,ints L),(10,I L.length),(11,I x.1)]) (λx=>cP h (.row 1 ((((L.map λr=>rg.getD r.toNat []).take x.1).map λs=>[ints s]).map (List.map .v))) x.2) (λx=>x.1<=L.length/\eM h ((L.map λr=>rg.getD r.toNat []).take x.1) x.2) (λx=>L.length-x.1) (0,none) ⟨by simp[cR,b6,fT],by simp only[aL];exact aB.le_refl _,eF _,by simp[eM]⟩ ?_
 rintro⟨k,o⟩ ⟨hk,hos⟩
 simp only at hk hos ⊢
 rcases bT k L.length with hlt|hge
 ·have ea:L[k]?=some L[k]:=eY hlt
  have hr0:=hr _ (kM hlt)
  have eg:rg[L[k].toNat]?=some (rg.getD L[k].toNat []):=s6 aA
  have hy:(L.map λr=>rg.getD r.toNat []).take (k+1)=(L.map λr=>rg.getD r.toNat []).take k++[rg.getD L[k].toNat []]:=by
   rw[jF (by rw[gT];exact hlt),rU]
  have hlk:((L.map λr=>rg.getD r.toNat []).take k).length=k:=by rw[mX,gT];omega
  generalize rg.getD L[k].toNat []=s at *
  cases o with
  |none =>
   rw[aY]at hos
   rw[hos]at hy ⊢
   simp -dsimp -implicitDefEqProofs only[go_sem,↓reduceIte,Tryz.f140,bE,aL,hlt,ea,eg]
   refine⟨hr0.1,hr0.2,?_⟩
   repeat'(with_reducible first|intro _|refine And.intro ?_ ?_)
   all_goals try(first|omega|decide)
   rename_i b hb
   refine⟨(k+1,some b),?_⟩
   simp only[hy]
   refine⟨⟨rfl,?_⟩,aB.le_refl _,⟨by omega,hb⟩,by omega⟩
   rw[IntWalk.i64_in _ aA];rfl
  |some n =>
   rw[aQ]at hos
   simp -dsimp -implicitDefEqProofs only[go_sem,↓reduceIte,Tryz.f140,aR,aJ,hlt,ea,eg]
   refine⟨hr0.1,hr0.2,?_⟩
   repeat'(with_reducible first|intro _|refine And.intro ?_ ?_)
   all_goals try(first|omega|decide|exact bX _)
   rename_i b hb
   refine⟨(k+1,some b),?_⟩
   simp only[hy,aJ,aR,aQ]
   refine⟨⟨by rw[gD];rfl,?_⟩,?_,⟨by omega,hb.2⟩,by omega⟩
   ·rw[IntWalk.i64_in _ aA];rfl
   ·rw[←dZ];exact jC hos
 ·have hk':k=L.length:=by omega
  subst hk'
  rw[nI aWH]at hos ⊢
  cases o with
  |none =>
   rw[aY]at hos
   simp -dsimp -implicitDefEqProofs only[go_sem,↓reduceIte,Tryz.f140,bE,aL,bU,cT]
   rw[hos]
   exact Shift.of (Sub.loose _ _ _) (aB.le_refl _)
  |some n =>
   rw[aQ]at hos
   simp -dsimp -implicitDefEqProofs only[go_sem,↓reduceIte,Tryz.f140,aR,aJ,bU,cT]
   exact lG _ hos (aB.le_refl _) (gT _).symm
def uQ (code:List bH) (L:List Int) (rg:List (List Int)) (sz inp o:Nat):List (List Int):=byK code (mG code rg (pA L (eQ L.length o) (List.replicate code.length (u3 sz)) L.length) code.length 0) sz inp code.length
def tC (code:List bH) (L:List Int) (rg:List (List Int)) (sz inp:Nat):List (List (List Int)):=(List.range L.length).map λo=>uQ code L rg sz inp o
@[go_sem] def aVA:List Nat:=[0,1,2,3,6,7,8,9,10,11,12,13,23,34,39,40,41]
@[go_sem] def bHI:List Nat:=[3,36,51,55]
@[go_sem] def bHJ:Marks:=λid=>match id with|1=>([8,9],(.op 0 (.op 1 (.op 2 (.op 3 (.op 4 (.op 5 (.op 6 (.op 7 (.op 8 (.op 9 (.op 10 .nil))))))))))),[])|4=>([0],(.op 1 (.op 2 (.op 3 (.op 0 (.op 4 (.op 5 (.op 6 (.op 7 (.op 8 (.op 9 .nil)))))))))),[])|11=>([1,2,5,13],(.op 0 (.op 3 (.op 4 (.op 7 (.op 8 (.op 1 (.op 2 (.op 5 (.op 6 (.op 9 (.op 10 (.op 11 (.op 12 (.op 13 (.op 14 .nil))))))))))))))),[])|_=>([],.nil,[])
theorem bHK {p:aG} (hp:p.ok) (hps:p.s<=4194304) {sz:Nat} (hsz:1<=sz/\sz<=1048576) (f:Int) (hf:0<=f/\f<p.aK.length) {start L:List Int} {F:dO} {u:Nat} (ns:dW start) (hs:1<=start.length/\start.length<=12) (hl:∀ F,p.aK[f.toNat]?=some F->(start.length:Int)=F.aW) (hr:oE p f start=.ok ((L,F),u)) (T:aMX p f start L F u) {X:List (List Int)} (hX:St start sz X) :
  fE Tryz.prog 58 [.agg p.c,I f,bW X] (.gU [bW (L.map λr=>lR sz X F.code r.toNat),rM (tC F.code L (iD sz X F.code F.code.length) sz start.length),I 0]):=by
 have hfi:=aUL X (by rw[hX.1.1];omega) (λs hs'=>by rw[(hX.1.2 s hs').1];exact hsz.1)
 have hfe:X.map (·.getD 0 0)=start:=by
  apply u4
  ·rw[gT,hX.1.1]
  ·intro i a b
   have:=hX.2 i b
   rw[gT]at a
   have h1:X[i]=X.getD i []:=by rw[gG,eY a];rfl
   have h2:start[i]=start.getD i 0:=by rw[gG,eY b];rfl
   rw[rU,h1,h2];exact this
 rw[hfe]at hfi
 have hrc:=aUP hp hps f hf start ns aA hl
 rw[show oZ p f start=(⟨start.length,F.code,F.guards,L⟩,0)by rw[oZ,hr]]at hrc
 have ho:=aPA hX.1 hs.1
 have hrg:=aMM ⟨start.length,F.code,F.guards,L⟩ hsz T.ins T.cap X hX.1.2 (by rw[hX.1.1]) (T.nz sz X hsz.1 hX)
 have hsr:dH sz F.code.length (iD sz X F.code F.code.length):=⟨lC _ _ _ _,λs hs'=>by
  obtain⟨i,hi,rfl⟩:=wM.1 hs'
  rw[lC]at hi
  have h:=s9 (sz:=sz) T.ins hX.1.2 (by rw[hX.1.1]) i hi
  rwa [lR,gG,eY aWT]at h⟩
 have bN2:L.length<=100:=by
  have:=T.ok.lens
  simp only at this
  omega
 simp only[aG.aZ,iM.aZ]at hrc hrg ⊢
 refine lS 63 aVA bHI bHJ Tryz.func58 λh=>?_
 simp -dsimp -implicitDefEqProofs only[go_sem,↓reduceIte,Tryz.f58]
 first|refine aH.mk (hfi) ?_|refine aF.mk (hfi) ?_|refine aH.bI (hfi) ?_|refine aF.mk (bC.dI (hfi)) ?_
 simp -dsimp -implicitDefEqProofs only[go_sem,↓reduceIte,Tryz.f58]
 first|refine aH.mk (hrc) ?_|refine aF.mk (hrc) ?_|refine aH.bI (hrc) ?_|refine aF.mk (bC.dI (hrc)) ?_
 simp -dsimp -implicitDefEqProofs only[go_sem,↓reduceIte,Tryz.f58]
 refine λn zn=>?_
 try simp -dsimp -implicitDefEqProofs only[go_sem,↓reduceIte,Tryz.f58,aO]
 first|refine aH.mk (ho) ?_|refine aF.mk (ho) ?_|refine aH.bI (ho) ?_|refine aF.mk (bC.dI (ho)) ?_
 simp -dsimp -implicitDefEqProofs only[go_sem,↓reduceIte,Tryz.f58]
 first|refine aH.mk (hrg) ?_|refine aF.mk (hrg) ?_|refine aH.bI (hrg) ?_|refine aF.mk (bC.dI (hrg)) ?_
 simp -dsimp -implicitDefEqProofs only[go_sem,↓reduceIte,Tryz.f58]
 refine⟨bD,λ_=>?_⟩
 rw[aO]
 generalize hgB:aU h n (.row 4 [[.v (I start.length),.v (gF 4 bH.c F.code),.v (gF 2 gA.c F.guards),.v (ints L)]])=hB
 have hBn:hB n=some (.row 4 [[.v (I start.length),.v (gF 4 bH.c F.code),.v (gF 2 gA.c F.guards),.v (ints L)]]):=by rw[←hgB,aI]
 have hBl:h.le hB:=by rw[←hgB];exact aB.bM zn (aB.le_refl _)
 generalize hgr:iD sz X F.code F.code.length=rg at *
 have hsl:(tC F.code L rg sz start.length).length=L.length:=by simp[tC]
 have hpk:=a50 rg L (λr hr'=>by have:=T.outs r hr';rw[hsr.1];exact this) aA
 have hpe:(L.map λr=>rg.getD r.toNat [])=L.map λr=>lR sz X F.code r.toNat:=zE λr _=>by rw[lR,hgr]
 rw[hpe]at hpk
 refine cM aVA bHI bHJ (λx:Nat×Option Nat=>[(2,bW X),(9,.op n 4 0 0),(11,bW rg),(12,fT 1 ((tC F.code L rg sz start.length).take x.1).length x.2),(39,I L.length),(40,I x.1)]) (λx=>cP hB (.row 1 ((((tC F.code L rg sz start.length).take x.1).map λs=>[bW s]).map (List.map .v))) x.2) (λx=>x.1<=L.length/\eM hB ((tC F.code L rg sz start.length).take x.1) x.2) (λx=>L.length-x.1) (0,none) ⟨by simp[cR,b6,fT],by simp only[aL];exact aB.le_refl _,eF _,by simp[eM]⟩ ?_
 rintro⟨k,o⟩ ⟨hk,hos⟩
 simp only at hk hos ⊢
 rcases bT k L.length with hlt|hge
 ·have hy:(tC F.code L rg sz start.length).take (k+1)=(tC F.code L rg sz start.length).take k++[uQ F.code L rg sz start.length k]:=by
   rw[jF aA];simp[tC]
  have hlk:((tC F.code L rg sz start.length).take k).length=k:=by rw[mX];omega
  have hu:=bMP L.length k aA hlt
  have had:=aSF ⟨start.length,F.code,F.guards,L⟩ hsz T.ins ⟨T.one,T.cap⟩ rg hsr (eQ L.length k) (by simp[eQ]) (nS _ _) bN2 T.outs
  have hA0:=r7 (sz:=sz) hsz.1 T.outs (nS L.length k) L.length (bX _)
  have hA:=pB hsz T.ins hsr hA0 F.code.length 0 rfl
  have hby:=aSG ⟨start.length,F.code,F.guards,L⟩ hsz rfl hs.2 T.ins ⟨T.one,T.cap⟩ _ hA
  have heB:uQ F.code L rg sz start.length k=byK F.code (mG F.code rg (pA L (eQ L.length k) (List.replicate F.code.length (u3 sz)) L.length) F.code.length 0) sz start.length F.code.length:=rfl
  simp only[iM.aZ]at had hby
  rw[←heB]at hby
  generalize uQ F.code L rg sz start.length k=s at *
  cases o with
  |none =>
   rw[aY]at hos
   rw[hos]at hy ⊢
   simp -dsimp -implicitDefEqProofs only[go_sem,↓reduceIte,Tryz.f58,bE,aL,hlt,hBn]
   refine⟨by decide,by decide,?_⟩
   first|refine aH.mk (hu) ?_|refine aF.mk (hu) ?_|refine aH.bI (hu) ?_|refine aF.mk (bC.dI (hu)) ?_
   simp -dsimp -implicitDefEqProofs only[go_sem,↓reduceIte,Tryz.f58]
   first|refine aH.mk (had) ?_|refine aF.mk (had) ?_|refine aH.bI (had) ?_|refine aF.mk (bC.dI (had)) ?_
   simp -dsimp -implicitDefEqProofs only[go_sem,↓reduceIte,Tryz.f58]
   first|refine aH.mk (hby) ?_|refine aF.mk (hby) ?_|refine aH.bI (hby) ?_|refine aF.mk (bC.dI (hby)) ?_
   simp -dsimp -implicitDefEqProofs only[go_sem,↓reduceIte,Tryz.f58]
   repeat'(with_reducible first|intro _|refine And.intro ?_ ?_)
   all_goals try(first|omega|decide)
   rename_i b hb
   refine⟨(k+1,some b),?_⟩
   simp only[hy]
   refine⟨⟨rfl,?_⟩,aB.le_refl _,⟨by omega,hb⟩,by omega⟩
   rw[IntWalk.i64_in _ aA];rfl
  |some m =>
   rw[aQ]at hos
   obtain⟨yZ,kW,kX,aGA⟩:=cW (show ¬m=n from λe=>by rw[e,hBn]at hos;cases hos)
   simp -dsimp -implicitDefEqProofs only[go_sem,↓reduceIte,Tryz.f58,aR,aJ,hlt,kW,kX,aC,hBn]
   refine⟨by decide,by decide,?_⟩
   first|refine aH.mk (hu) ?_|refine aF.mk (hu) ?_|refine aH.bI (hu) ?_|refine aF.mk (bC.dI (hu)) ?_
   simp -dsimp -implicitDefEqProofs only[go_sem,↓reduceIte,Tryz.f58]
   first|refine aH.mk (had) ?_|refine aF.mk (had) ?_|refine aH.bI (had) ?_|refine aF.mk (bC.dI (had)) ?_
   simp -dsimp -implicitDefEqProofs only[go_sem,↓reduceIte,Tryz.f58]
   first|refine aH.mk (hby) ?_|refine aF.mk (hby) ?_|refine aH.bI (hby) ?_|refine aF.mk (bC.dI (hby)) ?_
   simp -dsimp -implicitDefEqProofs only[go_sem,↓reduceIte,Tryz.f58]
   repeat'(with_reducible first|intro _|refine And.intro ?_ ?_)
   all_goals try(first|omega|decide|exact bX _)
   rename_i b hb
   refine⟨(k+1,some b),?_⟩
   simp only[hy,aJ,aR,aQ]
   refine⟨⟨by rw[gD];rfl,?_⟩,?_,⟨by omega,hb.2⟩,by omega⟩
   ·rw[IntWalk.i64_in _ aA];rfl
   ·rw[←dZ];exact jC hos
 ·have hk':k=L.length:=by omega
  subst hk'
  rw[nI aA]at hos ⊢
  cases o with
  |none =>
   rw[aY]at hos
   simp -dsimp -implicitDefEqProofs only[go_sem,↓reduceIte,Tryz.f58,bE,aL,bU,cT,hBn]
   first|refine aH.mk (hpk) ?_|refine aF.mk (hpk) ?_|refine aH.bI (hpk) ?_|refine aF.mk (bC.dI (hpk)) ?_
   simp -dsimp -implicitDefEqProofs only[go_sem,↓reduceIte,Tryz.f58]
   rw[hos]
   exact Shift.of (Sub.gU (.cons (.refl _) (.cons (Sub.loose _ _ _) (.cons (.refl _) .nil)))) hBl
  |some m =>
   rw[aQ]at hos
   obtain⟨yZ,kW,kX,aGA⟩:=cW (show ¬m=n from λe=>by rw[e,hBn]at hos;cases hos)
   simp -dsimp -implicitDefEqProofs only[go_sem,↓reduceIte,Tryz.f58,aR,aJ,bU,cT,kW,kX,aC,hBn]
   first|refine aH.mk (hpk) ?_|refine aF.mk (hpk) ?_|refine aH.bI (hpk) ?_|refine aF.mk (bC.dI (hpk)) ?_
   simp -dsimp -implicitDefEqProofs only[go_sem,↓reduceIte,Tryz.f58]
   refine Shift.trans (kS ((tC F.code L rg sz start.length).map λs=>[bW s]) hos (aB.le_refl _) aH3 ?_) (eK hBl)
   simp[aE.fG,l5,nI]
theorem a51 {h:aB} {n:Nat} {l:List Int} {k:Nat} (hk:k=l.length) (hn:h n=some (mE l)):View h (.os n 1 0 k) (ints l):=by
 have h1:=View.ovD (h:=h) (d:=ints l) (OV.sl n 1 (l.map λx=>[.v (I x)])) (OS.qG (c:=λn=>[I n]) (R:=oP I) (λ_ _ q=>aNU q) (OS.mk (zY l))) (λp hp=>by
  rw[OV.eD,gP,fQ,jL]at hp
  rw[hp];exact hn)
 rw[OV.iZ]at h1
 rwa [hk]
theorem LLG.keep {h:aB} {L:List (List Int)} {x:LLx} (H:LLG h L x) {q:Nat} {o:bV} (hq:h q=some o):LLH x q=some o:=by
 obtain⟨op,es,g⟩:=x
 have h1:g q=some o:=H.2.1.keep hq
 cases op with
 |none=>exact h1
 |some n =>
  have h2:g n=none:=H.2.2
  have h3:¬q=n:=λe=>by rw[e,h2]at h1;cases h1
  rw[LLH,aJ,aC _ _ _ _ h3];exact h1
theorem bHL {h g:aB} {Z:List (List Int)} {n sz b:Nat} {es:List (List OV)} (hes:OR (oL I) Z es) (hnw:fH h (OV.bY [OV.sl b 1 es]) g) (hZ:dH sz n Z) (hsz:1<=sz) {k:Nat} (hk:k<n) :
  ∃ m,es[k]?=some (oI m (Z.getD k []))/\(OV.cells es)[k]?=some [.v (.os m 1 0 sz)]/\g m=some (mE (Z.getD k []))/\¬m=b:=by
 have hz:=hZ.get hk
 obtain⟨e,he,y,rfl,hy⟩:=hes.a8S k _ hz.1
 rcases hy.y5 with⟨rfl,h0⟩|⟨m,rfl⟩
 ·have:=hz.2.1
  rw[h0]at this;simp at this;omega
 ·have hr:=hnw.bDJ he
  refine⟨m,he,?_,hr.1,hr.2⟩
  have:=aE9 he
  rw[this,aP8,OV.iZ,hz.2.1]
theorem aAN {code:List bH} {L:List Int} {rg:List (List Int)} {sz inp i:Nat} (hsz:1<=sz/\sz<=1048576) (hins:∀ i c,code[i]?=some c->bZ inp i c) (hsr:dH sz code.length rg) (ho:∀ r∈L,0<=r/\r<code.length):dH sz inp (uQ code L rg sz inp i) :=
 vR hins (pB hsz hins hsr (r7 hsz.1 ho (nS L.length i) L.length (bX _)) code.length 0 rfl) code.length (bX _)
theorem uR {sz:Nat} {X:List (List Int)} {code:List bH} {inp:Nat} (hins:∀ i c,code[i]?=some c->bZ inp i c) (hX:dH sz inp X):dH sz code.length (iD sz X code code.length):=⟨lC _ _ _ _,λs hs'=>by
 obtain⟨i,hi,rfl⟩:=wM.1 hs'
 rw[lC]at hi
 have h:=s9 (sz:=sz) hins hX.2 (by rw[hX.1]) i hi
 rwa [lR,gG,eY aWT]at h⟩
@[go_sem] def bUD:List Nat:=[0,1,2,3,4,5,10,11,12,13,14,16,17,18,19,20,21,22,23,24,33,44,55,60,61,62,64,65,66,67,74,75,76,77]
@[go_sem] def bZC:List Nat:=[5,30,63,100]
theorem bD7:∀ {l:List Int} {X:List (List Int)},X.length=l.length->(∀ s∈X,1<=s.length)->(∀ i,i<l.length->(X.getD i []).getD 0 0=l.getD i 0)->eR (l.map λn=>[n]) X
 | [],[],_,_,_=>trivial
 |a::l,[]::X,_,h,_=>by have:=h [] zD;simp at this
 |a::l,(b::s)::X,hl,h,h0=>by
  have h1:=h0 0 dG
  simp at h1
  subst h1
  exact⟨.inr ⟨b,[],s,rfl,rfl⟩,bD7 aQG (λs hs=>h s (v9 _ hs)) λi hi=>by simpa using h0 (i+1) sP⟩
 | [],_::_,h,_,_=>by simp at h
 | _::_,[],h,_,_=>by simp at h
theorem aEE {p:aG} (hp:p.ok) {f:Int} (hf:0<=f/\f<p.aK.length) {start:List Int} (ns:dW start) (hl:∀ F,p.aK[f.toNat]?=some F->(start.length:Int)=F.aW) {c:Int} (h:oE p f start=.error c) :
  evF p 1 f (start.map λn=>[n])=.error c/\∀ sz X,1<=sz->St start sz X->evF p sz f X=.error c:=by
 have h1:=(aHE hp f hf start ns hl).2
 rw[h]at h1
 cases hX:evF p 1 f (start.map λn=>[n])with
 |ok q=>rw[hX]at h1;exact h1.elim
 |error d =>
  rw[hX]at h1
  have h2:c=d:=h1
  subst h2
  refine⟨rfl,λsz X hsz hX'=>?_⟩
  have h3:=aR0 p 0 (sz-1) f _ _ (bD7 hX'.1.1 (λs hs=>by rw[(hX'.1.2 s hs).1];exact hsz) hX'.2)
  rw[Nat.sub_add_cancel hsz,hX]at h3
  cases hY:evF p sz f X with
  |ok q=>rw[hY]at h3;exact h3.elim
  |error d =>
   rw[hY]at h3
   have h4:c=d:=h3
   rw[h4]
theorem a52 (p:aG) (hps:p.s<=4194304) (f:Int):fE Tryz.prog 161 [.ip 1 [p.c] 0 0,I f] (I (if p.ok then if 0<=f/\f<=(p.aK.length:Int)-1 then 0 else 2 else 1)):=by
 have hok:=bDC p hps
 have hl:=p.aMD
 rw[aG.aZ]at hok ⊢
 refine fU 17 bAF cU cF Tryz.func161 λh=>?_
 simp -dsimp -implicitDefEqProofs only[go_sem,↓reduceIte,Tryz.f161]
 refine aH.mk hok ?_
 simp -dsimp -implicitDefEqProofs only[go_sem,↓reduceIte,Tryz.f161]
 rw[IntWalk.i64_in ((p.aK.length:Int)-1) aA]
 refine⟨λq=>by rw[if_neg q],λq _=>?_⟩
 first|refine aH.mk (fF f 0 ((p.aK.length:Int)-1)) ?_|refine aF.mk (fF f 0 ((p.aK.length:Int)-1)) ?_|refine aH.bI (fF f 0 ((p.aK.length:Int)-1)) ?_|refine aF.mk (bC.dI (fF f 0 ((p.aK.length:Int)-1))) ?_
 simp -dsimp -implicitDefEqProofs only[go_sem,↓reduceIte,Tryz.f161]
 refine⟨λh=>by rw[if_pos q,if_neg h],λh=>by rw[if_pos q,if_pos h]⟩
@[go_sem] def bQT:List Nat:=[0,1,2,6,7,45]
@[go_sem] def bXK:Marks:=λid=>match id with|2=>([12,23],(.op 0 (.op 1 (.op 2 (.op 3 (.op 4 (.op 5 (.op 6 (.op 7 (.op 8 (.op 9 (.op 10 (.op 11 (.op 12 (.op 13 (.op 14 (.op 15 (.op 16 (.op 17 (.op 18 (.op 19 (.op 20 (.op 21 (.op 22 (.op 24 (.op 25 (.op 26 (.op 27 (.op 28 (.op 29 (.op 30 (.op 31 (.op 23 (.op 32 (.op 33 (.op 34 .nil))))))))))))))))))))))))))))))))))),[])|_=>([],.nil,[])
theorem yG (l:List Int) (n:Int):fE Tryz.prog 48 [ints l,I n] (.bool (decide ((l.length:Int)=n/\dW l))):=by
 refine fU 13 zX cU cF Tryz.func48 λh=>?_
 simp -dsimp -implicitDefEqProofs only[go_sem,↓reduceIte,Tryz.f48]
 refine λ_=>⟨λh=>?_,λh=>(decide_eq_false λz=>h z.1).symm⟩
 first|refine aH.mk (x6 l) ?_|refine aF.mk (x6 l) ?_|refine aH.bI (x6 l) ?_|refine aF.mk (bC.dI (x6 l)) ?_
 simp -dsimp -implicitDefEqProofs only[go_sem,↓reduceIte,Tryz.f48]
 by_cases hn:dW l
 ·rw[decide_eq_true hn,decide_eq_true ⟨h,hn⟩]
 ·rw[decide_eq_false hn,decide_eq_false λz=>hn z.2]
@[go_sem] def bUE:List Nat:=[0,1,2,3,8,9,32]
@[go_sem] def bN3:List Nat:=[7,22]
theorem bAL (Y:List (List Int)) {sz k:Nat} (hY:∀ s∈Y,bJ sz s) (hk:1<=k/\k<=sz) (hsz:sz<=1048576) (hl:Y.length<=1048576):FnN Tryz.prog 53 [bW Y,I k] (QS (OS (oL I) 1 (Y.map λs=>s.take k))):=by
 have hel:(Y.map λs=>s.take k).length=Y.length:=gT _
 refine aBE 25 aK9 bN3 cF Tryz.func53 λh=>?_
 simp -dsimp -implicitDefEqProofs only[go_sem,↓reduceIte,Tryz.f53]
 refine⟨bD,?_⟩
 refine cM aK9 bN3 cF (λx:Nat×LLx=>[(0,bW Y),(1,I k),(5,fT 1 x.1 x.2.1),(6,I x.1)]) (λx=>LLH x.2) (λx=>x.1<=Y.length/\LLG h ((Y.map λs=>s.take k).take x.1) x.2) (λx=>Y.length-x.1) (0,none,[],h) ⟨by simp[cR,b6,fT],aB.le_refl _,eF _,LLG.init _⟩ ?_
 rintro⟨j,op,es,g⟩ ⟨hj,H⟩
 simp only at hj H ⊢
 rcases bT j Y.length with hlt|hge
 ·have ea:Y[j]?=some Y[j]:=eY hlt
  have hs:=hY _ (kM hlt)
  have hsl:=hs.1
  have hy:(Y.map λs=>s.take k).take (j+1)=(Y.map λs=>s.take k).take j++[Y[j].take k]:=by
   rw[jF aA,rU]
  have hlk:((Y.map λs=>s.take k).take j).length=j:=by rw[mX];omega
  have r8:=H.len
  simp only[hlk]at r8
  have hown:=aUH (Y[j].take k) (by rw[mX];omega)
  have hc:(Y[j].take k).length=k:=by rw[mX];omega
  cases op with
  |none =>
   obtain⟨h1,rfl,rfl⟩:=H.nil
   obtain rfl:j=0:=by rw[←hlk,h1];rfl
   simp -dsimp -implicitDefEqProofs only[go_sem,↓reduceIte,Tryz.f53,hlt,ea,bE,LLH,aL,hsl]
   rw[←List.map_take]
   refine λ_=>⟨by omega,hk.2,?_⟩
   refine aH.wn0 (hown) ?_
   rintro r_ l_ g ⟨y_,oy_,rfl,rfl⟩ wn_
   rcases oy_.y5 with⟨_,q_⟩|⟨m,rfl⟩
   ·rw[q_]at hc;simp at hc;omega
   rw[OV.iZ]
   rw[OV.eD,gP,fQ]at wn_
   obtain⟨zm,rfl⟩:=wn_.rL
   simp -dsimp -implicitDefEqProofs only[go_sem,↓reduceIte,Tryz.f53,hc,bE]
   refine⟨bD,bD,bD,λb ⟨b1,b2⟩=>?_⟩
   obtain⟨x',e',H',L'⟩:=H.fin (m:=m) (b:=b) (s:=Y[0].take k) (hc) zm b2 b1 (aB.le_refl _)
   refine⟨(1,x'),⟨by simp only[e'];rfl,IntWalk.i64_in _ aA⟩,L',⟨hlt,by simp only;rw[hy];exact H'⟩,by simp only;omega⟩
  |some n =>
   simp -dsimp -implicitDefEqProofs only[go_sem,↓reduceIte,Tryz.f53,hlt,ea,aR,LLH,aJ,cO,r8,hsl]
   rw[←List.map_take]
   refine λ_=>⟨by omega,hk.2,?_⟩
   refine aH.wn1 (hown) H.2.2 ?_
   rintro r_ l_ g' ⟨y_,oy_,rfl,rfl⟩ wn_ zn
   rcases oy_.y5 with⟨_,q_⟩|⟨m,rfl⟩
   ·rw[q_]at hc;simp at hc;omega
   rw[OV.iZ]
   rw[OV.eD,gP,fQ]at wn_
   obtain⟨zm,rfl⟩:=wn_.rL
   obtain⟨yZ,kW,kX,aGA⟩:=cW (show ¬m=n from λe=>by rw[e,aI]at zn;cases zn)
   simp -dsimp -implicitDefEqProofs only[go_sem,↓reduceIte,Tryz.f53,hc,kW,kX,aC,cO,r8,aR]
   refine⟨bD,bD,bD,bX _,by omega,by omega,λb ⟨bn,bm,bz⟩=>?_⟩
   rw[show List.take j (OV.cells es)=OV.cells es from r8▸eH es]
   refine⟨(j+1,some b,es++[oI m (Y[j].take k)],aU g m (mE (Y[j].take k))),⟨rfl,IntWalk.i64_in _ aA⟩,?_,⟨hlt,by simp only;rw[hy];exact H.snoc (Y[j].take k) zm bz bm⟩,by simp only;omega⟩
   show(LLH (some b,es++[oI m (Y[j].take k)],aU g m (mE (Y[j].take k)))).le _
   rw[LLH.snoc,show List.length (Y[j].take k)=_ from hc]
   exact aO9 H.2.2 yZ bn (λq hq=>by simp only[gB,if_neg hq];(repeat' split) <;> first|rfl|contradiction)
 ·have hk':j=Y.length:=by omega
  subst hk'
  simp -dsimp -implicitDefEqProofs only[go_sem,↓reduceIte,Tryz.f53,bU,cT]
  intro _
  rw[nI aA]at H
  obtain⟨y,hy,hv,hw⟩:=H.done
  rw[hel]at hv
  exact⟨_,_,_,cD _ _,⟨y,hy,hv.symm,rfl⟩,hw⟩
@[go_sem] def bQU:List Nat:=[0,1,2,6,7,8,9,10,11,19,31,39,52,59,65,78,91,104]
@[go_sem] def bXL:List Nat:=[12,29,40,115]
@[go_sem] def bXM:Marks:=λid=>match id with|10=>([2,4,7,9],(.op 0 (.op 1 (.op 5 (.op 6 (.op 2 (.op 3 (.op 4 (.op 7 (.op 8 (.op 9 (.op 10 (.op 11 .nil)))))))))))),[])|16=>([2,4,7,9],(.op 0 (.op 1 (.op 5 (.op 6 (.op 2 (.op 3 (.op 4 (.op 7 (.op 8 (.op 9 (.op 10 (.op 11 .nil)))))))))))),[])|18=>([2,4,7,9],(.op 0 (.op 1 (.op 5 (.op 6 (.op 2 (.op 3 (.op 4 (.op 7 (.op 8 (.op 9 (.op 10 (.op 11 .nil)))))))))))),[])|20=>([2,4,7,9],(.op 0 (.op 1 (.op 5 (.op 6 (.op 2 (.op 3 (.op 4 (.op 7 (.op 8 (.op 9 (.op 10 (.op 11 .nil)))))))))))),[])|_=>([],.nil,[])
@[go_sem] def bUF:List Nat:=[0,1,2,3,8,9,11,12,13,14,15,30,41,67,78,85,101,117,145,163]
@[go_sem] def bZD:List Nat:=[23,65,76,83,99,115,143,154,156,178]
@[go_sem] def bZE:Marks:=λid=>match id with|8=>([3,5,12,14,19,24],(.op 0 (.op 1 (.op 2 (.op 6 (.op 7 (.op 8 (.op 9 (.op 10 (.op 11 (.op 17 (.op 18 (.op 3 (.op 4 (.op 5 (.op 12 (.op 13 (.op 14 (.op 15 (.op 16 (.op 19 (.op 20 (.op 21 (.op 22 (.op 23 (.op 24 (.op 25 .nil)))))))))))))))))))))))))),[])|14=>([3,5,8,10,13],(.op 0 (.op 1 (.op 2 (.op 6 (.op 7 (.op 3 (.op 4 (.op 5 (.op 8 (.op 9 (.op 10 (.op 11 (.op 12 (.op 13 (.op 14 .nil))))))))))))))),[])|16=>([3,5,8,10,13],(.op 0 (.op 1 (.op 2 (.op 6 (.op 7 (.op 3 (.op 4 (.op 5 (.op 8 (.op 9 (.op 10 (.op 11 (.op 12 (.op 13 (.op 14 .nil))))))))))))))),[])|18=>([3,5,8,14,19,21,25],(.op 0 (.op 1 (.op 2 (.op 6 (.op 7 (.op 12 (.op 13 (.op 17 (.op 18 (.op 3 (.op 4 (.op 5 (.op 8 (.op 9 (.op 10 (.op 11 (.op 14 (.op 15 (.op 16 (.op 19 (.op 20 (.op 21 (.op 22 (.op 23 (.op 24 (.op 25 (.op 26 .nil))))))))))))))))))))))))))),[])|_=>([],.nil,[])
theorem fH.bN4 {h g:aB} {b k m:Nat} {es:List (List OV)} {l:List Int} (l':List Int) (X:fH h (OV.bY [OV.sl b 1 es]) g) (hk:es[k]?=some (oI m l)) (hl:l'.length=l.length):fH h (OV.bY [OV.sl b 1 (es.set k (oI m l'))]) (aU g m (mE l'))/\OV.cells (es.set k (oI m l'))=OV.cells es:=by
 obtain⟨hlt,he⟩:=iO.1 hk
 obtain⟨A,B,rfl,rfl⟩:∃ A B,es=A++oI m l::B/\k=A.length:=⟨es.take k,es.drop (k+1),by rw[←he,List.getElem_cons_drop,bEM],by rw[mX];omega⟩
 have hset:(A++oI m l::B).set A.length (oI m l')=A++oI m l'::B:=by rw[List.set_append_right _ _ (bX _),sU];rfl
 have hrw:∀ s,OV.bY [OV.sl b 1 (A++oI m s::B)]=((b,bV.row 1 (OV.cells (A++oI m s::B)))::OV.bG A)++(m,mE s)::OV.bG B:=λs=>by
  rw[OV.eC,OV.hJ,dP,OV.eD,OV.k7,mQ,oI,OV.eC,OV.hJ,dP,OV.eD,gP,fQ];rfl
 have hce:OV.cells (A++oI m l'::B)=OV.cells (A++oI m l::B):=by
  have h1:∀ s,OV.cells (A++oI m s::B)=OV.cells A++[.v (.os m 1 0 s.length)]::OV.cells B:=λs=>by
   rw[qL,show oI m s::B=[oI m s]++B from rfl,qL,kK,aZD];rfl
  rw[h1,h1,hl]
 rw[hset]
 refine⟨?_,hce⟩
 rw[hrw]at X ⊢
 rw[hce]
 exact((X.perm List.perm_middle).set).perm List.perm_middle.symm
theorem aMY (n:Int) {sz:Nat} (hs:1<=sz/\sz<=1048576):FnN Tryz.prog 51 [I n,I sz] (QS (OS (oP I) 1 (cS n sz))):=by
 have e2:=aDW (x:=[aE.int .i64 0]) hs.1
 refine aBE 14 aOI cU cF Tryz.func51 λh=>?_
 simp -dsimp -implicitDefEqProofs only[go_sem,↓reduceIte,Tryz.f51,tX,e2]
 refine⟨bD,bX _,by omega,by omega,λm hm=>⟨λ_=>⟨by omega,?_⟩,λq=>absurd q aA⟩⟩
 rw[aO,show Int.toNat 0=0 from rfl,aAD]
 have:=vE (c:=I) (l:=cS n sz) (sz:=1) hm
 rwa [pL]at this
theorem a1K {h g:aB} {b len:Nat} {es:List (List OV)} {L:List (List Int)} (hes:OR (oL I) L es) (hnw:fH h (OV.bY [OV.sl b 1 es]) g) (hl:len=L.length):View g (.os b 1 0 len) (bW L):=by
 have h1:=View.ovD (h:=g) (d:=bW L) (OV.sl b 1 es) (xL (OS.mk hes)) (by
  have:=hnw.oY
  rw[OV.eC,OV.hJ,dP]at this
  exact this)
 rw[OV.z7,←hes.length]at h1
 rwa [hl]
theorem a53 {vs:List (List Int)} {u:Nat}:sT (.ok (vs,u))=(vs.map (·.getD 0 0),(u:Int),0):=rfl
@[go_sem] def bUG:List Nat:=[0,1,2,3,8,9,12,13,14,15,16,18,28,35,50,68]
@[go_sem] def bZF:List Nat:=[29,31,46]
@[go_sem] def bZG:Marks:=λid=>match id with|16=>([3,18],(.op 0 (.op 1 (.op 2 (.op 4 (.op 5 (.op 6 (.op 7 (.op 8 (.op 9 (.op 10 (.op 11 (.op 12 (.op 13 (.op 14 (.op 15 (.op 16 (.op 3 (.op 17 (.op 18 .nil))))))))))))))))))),[])|_=>([],.nil,[])
def iS {α:Type} (c:α->aE) (s:List α):bV:=.row 1 ((s.map λx=>[c x]).map (List.map .v))
def iN {α:Type} (w:Nat) (a:Nat->α):List α:=(List.range w).map a
def uS (w:Nat) (N:List Nat):List (List Cell):=(N.map λn=>[aE.os n 1 0 w]).map (List.map .v)
theorem cX {α:Type} (w:Nat) (a:Nat->α):(iN w a).length=w:=by simp[iN]
theorem gO {α:Type} {w:Nat} (a:Nat->α) {k:Nat} (h:k<w):(iN w a)[k]?=some (a k):=by rw[iN,qR,al9 h];rfl
theorem eW {α:Type} {w:Nat} {a b:Nat->α} (h:∀ k,k<w->a k=b k):iN w a=iN w b:=zE λk hk=>h k (aGK.1 hk)
theorem aHO {α:Type} {w:Nat} (a:Nat->α) (k:Nat) (v:α):(iN w a).set k v=iN w λq=>if q=k then v else a q:=by
 apply u4
 ·simp[iN]
 ·intro i h1 h2
  rw[aCS]
  simp only[iN,rU,aLQ]
  by_cases e:k=i
  ·rw[if_pos e,if_pos e.symm]
  ·rw[if_neg e,if_neg (iK e)]
theorem dJ {w:Nat} {N:List Nat} {k n:Nat} (h:N[k]?=some n):(uS w N)[k]?=some [.v (.os n 1 0 w)]:=by rw[uS,qR,qR,h];rfl
theorem dU (w:Nat) (N:List Nat):(uS w N).length=N.length:=by simp[uS]
theorem aMZ (w:Nat) (N:List Nat) (n:Nat):uS w (N++[n])=uS w N++[[.v (.os n 1 0 w)]]:=by simp[uS]
theorem aAO (w:Nat) (N:List Nat) (k n:Nat):(uS w N).set k [.v (.os n 1 0 w)]=uS w (N.set k n):=by simp[uS,aHZ]
structure OM {α:Type} (c:α->aE) (h:aB) (b w:Nat) (N:List Nat) (A:Nat->Nat->α) (g:aB):Prop where
 nodup:N.Nodup
 out:∀ n∈N,¬n=b/\h n=none
 get:∀ k n,N[k]?=some n->g n=some (iS c (iN w (A k)))
 bk:g b=some (.row 1 (uS w N))
 keep:∀ q o,h q=some o->g q=some o
 bn:h b=none
theorem OM.le {α:Type} {c:α->aE} {h g:aB} {b w:Nat} {N:List Nat} {A:Nat->Nat->α} (H:OM c h b w N A g):h.le g:=λq=>by
 cases e:h q with
 |none=>exact .inl rfl
 |some o=>exact .inr (H.keep q o e).symm
theorem OM.apart {α:Type} {c:α->aE} {h g:aB} {b w:Nat} {N:List Nat} {A:Nat->Nat->α} (H:OM c h b w N A g) {i j n m:Nat} (hi:N[i]?=some n) (hj:N[j]?=some m) (hne:¬i=j):¬n=m:=λe=>hne ((aV6 (iO.1 hi).1 H.nodup).1 (by rw[hi,hj,e]))
theorem OM.free {α:Type} {c:α->aE} {h g:aB} {b w:Nat} {N:List Nat} {A:Nat->Nat->α} (H:OM c h b w N A g) {n:Nat} (hn:g n=none):¬n=b/\n∉N/\h n=none:=by
 refine⟨(λe=>by rw[e,H.bk]at hn;cases hn),λe=>?_,?_⟩
 ·obtain⟨k,hk,ek⟩:=wM.1 e
  have:=H.get k n (by rw[eY hk,ek])
  rw[this]at hn;cases hn
 ·cases hq:h n with
  |none=>rfl
  |some o=>rw[H.keep n o hq]at hn;cases hn
theorem OM.set {α:Type} {c:α->aE} {h g:aB} {b w:Nat} {N:List Nat} {A B:Nat->Nat->α} (H:OM c h b w N A g) {r n:Nat} (hr:N[r]?=some n) (hB:∀ i,¬i=r->∀ k,k<w->B i k=A i k):OM c h b w N B (aU g n (iS c (iN w (B r)))):=by
 have ho:=H.out n (rS hr)
 refine⟨H.nodup,H.out,λk m hk=>?_,?_,λq o hq=>?_,H.bn⟩
 ·by_cases e:k=r
  ·subst e
   rw[hr]at hk
   cases hk
   rw[aI]
  ·have hne:¬m=n:=λq=>by
    subst q
    have hkl:k<N.length:=(iO.1 hk).1
    exact e ((aV6 hkl H.nodup).1 (hk.trans hr.symm))
   rw[aC _ _ _ _ hne,H.get k m hk,eW (hB k e)]
 ·rw[aC _ _ _ _ (iK ho.1)];exact H.bk
 ·rw[aC _ _ _ _ (λe=>by rw[e,ho.2]at hq;cases hq)];exact H.keep q o hq
theorem OM.congr {α:Type} {c:α->aE} {h g:aB} {b w:Nat} {N:List Nat} {A B:Nat->Nat->α} (H:OM c h b w N A g) (hB:∀ i,i<N.length->∀ k,k<w->B i k=A i k):OM c h b w N B g :=
 ⟨H.nodup,H.out,λk n hk=>by rw[H.get k n hk,eW (hB k (iO.1 hk).1)],H.bk,H.keep,H.bn⟩
theorem OM.more {α:Type} {c:α->aE} {h g F:aB} {b b2 w n:Nat} {N:List Nat} {A:Nat->Nat->α} (H:OM c h b w N A g) (hn:g n=none) (hb:g b2=none) (hnb:¬n=b2) (h1:F n=some (iS c (iN w (A N.length)))) (h2:F b2=some (.row 1 (uS w (N++[n])))) (h3:∀ q,¬q=n->¬q=b2->¬q=b->∀ o,g q=some o->F q=some o):OM c h b2 w (N++[n]) A F:=by
 obtain⟨f1,f2,f3⟩:=H.free hn
 obtain⟨e1,e2,e3⟩:=H.free hb
 refine⟨?_,λm hm=>?_,λk m hk=>?_,h2,λq o hq=>?_,e3⟩
 ·rw[wK]
  exact⟨H.nodup,by simp,λx hx y hy e=>by rw[jL.1 hy]at e;exact f2 (e▸hx)⟩
 ·rcases oW.1 hm with hm|hm
  ·exact⟨λe=>e2 (e▸hm),(H.out m hm).2⟩
  ·rw[jL.1 hm];exact⟨hnb,f3⟩
 ·rcases bT k N.length with hl|hl
  ·rw[tU hl]at hk
   have hmem:=rS hk
   exact h3 m (λe=>f2 (e▸hmem)) (λe=>e2 (e▸hmem)) (H.out m hmem).1 _ (H.get k m hk)
  ·rw[v8 hl]at hk
   have h2:k-N.length=0:=by
    rcases a0A (k-N.length)with q|q
    ·exact q
    ·rw[aNC (by rw[nA];exact q)]at hk;cases hk
   rw[h2]at hk
   cases hk
   rw[show k=N.length by omega];exact h1
 ·exact h3 q (λe=>by rw[e,f3]at hq;cases hq) (λe=>by rw[e,e3]at hq;cases hq) (λe=>by rw[e,H.bn]at hq;cases hq) o (H.keep q o hq)
theorem OM.one {α:Type} {c:α->aE} {h F:aB} {b w n:Nat} {A:Nat->Nat->α} (hn:h n=none) (hb:h b=none) (hnb:¬n=b) (h1:F n=some (iS c (iN w (A 0)))) (h2:F b=some (.row 1 (uS w [n]))) (h3:∀ q o,h q=some o->F q=some o):OM c h b w [n] A F :=
 ⟨by simp,λm hm=>(by rw[jL.1 hm];exact⟨hnb,hn⟩),λk m hk=>(by
  cases k with
  |zero=>cases hk;exact h1
  |succ k=>cases hk),h2,h3,hb⟩
theorem aM0 {N:List Nat} (h:N.Nodup) {c r nc nr:Nat} (hc:N[c]?=some nc) (hr:N[r]?=some nr):((N.set c nr).set r nc).Nodup:=by
 obtain⟨c1,c2⟩:=iO.1 hc
 obtain⟨r1,r2⟩:=iO.1 hr
 rw[a2O,a2P]at h ⊢
 have hx:∀ i (hi:i<N.length) j (hj:j<N.length),N[i]=N[j]->i=j:=λi hi j hj e=>by
  rcases Nat.lt_trichotomy i j with q|q|q
  ·exact absurd e (h i j hi hj q)
  ·exact q
  ·exact absurd e.symm (h j i hj hi q)
 intro i j hi hj hij e
 simp only[tW]at hi hj
 rw[aCS,aCS,aCS,aCS]at e
 subst c2 r2
 split at e <;> split at e <;> (try split at e) <;> (try split at e) <;> first|omega|(have:=hx _ _ _ _ e;omega)
theorem OM.swap {α:Type} {c:α->aE} {h g:aB} {b w:Nat} {N:List Nat} {A:Nat->Nat->α} (H:OM c h b w N A g) {i j ni nj:Nat} (hi:N[i]?=some ni) (hj:N[j]?=some nj):OM c h b w ((N.set i nj).set j ni) (mV A i j) (aU g b (.row 1 (uS w ((N.set i nj).set j ni)))):=by
 have hil:=(iO.1 hi).1
 have hjl:=(iO.1 hj).1
 have hmem:∀ m,m∈(N.set i nj).set j ni->m∈N:=λm hm=>by
  rcases wJ hm with hm|rfl
  ·rcases wJ hm with hm|rfl
   ·exact hm
   ·exact rS hj
  ·exact rS hi
 refine⟨aM0 H.nodup hi hj,λm hm=>H.out m (hmem m hm),λk m hk=>?_,aI _ _ _,λq o hq=>?_,H.bn⟩
 ·rw[aC _ _ _ _ (H.out m (hmem m (rS hk))).1]
  by_cases e1:k=j
  ·subst e1
   rw[qT (by rw[tW];exact hjl)]at hk
   cases hk
   rw[H.get i _ hi]
   congr 2
   refine eW λq _=>?_
   unfold mV
   by_cases e2:k=i
   ·rw[if_pos e2,e2]
   ·rw[if_neg e2,if_pos rfl]
  ·rw[rT (iK e1)]at hk
   by_cases e2:k=i
   ·subst e2
    rw[qT hil]at hk
    cases hk
    rw[H.get j _ hj]
    congr 2
    refine eW λq _=>?_
    rw[mV,if_pos rfl]
   ·rw[rT (iK e2)]at hk
    rw[H.get k _ hk]
    congr 2
    refine eW λq _=>?_
    rw[mV,if_neg e2,if_neg e1]
 ·rw[aC _ _ _ _ (λe=>by rw[e,H.bn]at hq;cases hq)];exact H.keep q o hq
theorem bAM (l:List (List Int)) (hl:l.length<=1048576):FnN Tryz.prog 170 [bW l] (QS (OS (oP ints) 1 l)):=by
 refine aBE 8 bCX bL9 cF Tryz.func170 λh=>?_
 simp -dsimp -implicitDefEqProofs only[go_sem,↓reduceIte,Tryz.f170]
 repeat'(with_reducible first|intro _|refine And.intro ?_ ?_)
 all_goals try(first|exact aXP lB|exact aXQ lB|exact vE lB|omega)
theorem aS0 {α:Type} {F:Ops α} {n:Nat} {M:Nat->Nat->α} {c:Nat} (h:sO F n M c=none):∀ d,sO F n M (c+d)=none
 |0=>h
 |d+1=>by rw[←aTT,sO,aS0 h d]
theorem aS1 {α:Type} {F:Ops α} {n:Nat} {M A:Nat->Nat->α} {c:Nat} (hc:c<n) (h:sO F n M c=some A) (hp:rQ F.z A c n (n-c)=n):sO F n M n=none:=by
 have h1:sO F n M (c+1)=none:=by rw[sO,h];simp only[if_pos hp]
 have:=aS0 h1 (n-(c+1))
 rwa [show c+1+(n-(c+1))=n by omega]at this
theorem a54 {α:Type} {F:Ops α} {n:Nat} {M A:Nat->Nat->α} {c r:Nat} (h:sO F n M c=some A) (hr:r<n) (hp:rQ F.z A c n (n-c)=r):sO F n M (c+1)=some (zB F (mV A c r) c):=by
 rw[sO,h]
 simp only[hp]
 rw[if_neg aA]
def aS2 (n:Nat) (M:Nat->Nat->List Int):List (List Int)×Bool:=match sO p0 n M n with
 |some A=>(iN n λi=>A i n,true)
 |none=>([],false)
theorem OM.app {α:Type} {c:α->aE} {h g:aB} {b b2 w m n k:Nat} {N:List Nat} {A:Nat->Nat->α} (H:OM c h b w N A g) (hN:N.length=k) (zm:g m=none) (hn:g n=none) (hb:g b2=none) (hnb:¬n=b2) (hnm:¬n=m) {X Y:bV}:OM c h b2 w (N++[n]) A (aU (aU (aU (aU (aU g m X) m Y) n (.row 1 (((iN w (A k)).map λx=>[c x]).map (List.map .v)))) b .gone) b2 (.row 1 (List.take k (uS w N)++[[.v (.os n 1 0 w)]]))):=by
 have aUY:¬n=b:=λe=>by rw[e,H.bk]at hn;cases hn
 refine OM.more H hn hb hnb ?_ ?_ λq q1 q2 q3 o ho=>?_
 ·rw[aC _ _ _ _ hnb,aC _ _ _ _ aUY,aI,hN];rfl
 ·rw[aI,aMZ,nI (by rw[dU,hN];exact bX _)]
 ·have q4:¬q=m:=λe=>by rw[e,zm]at ho;cases ho
  rw[aC _ _ _ _ q2,aC _ _ _ _ q3,aC _ _ _ _ q1,aC _ _ _ _ q4,aC _ _ _ _ q4];exact ho
@[go_sem] def aAP:List Nat:=[0,1,4,5,6,7,8,9,10,11,12,13,14,15,16,17,19,23,24,25,26,42,43,44,61,66,92,93,94,112,113,114,118,130,131,132,161,162,163,164]
@[go_sem] def aS3:List Nat:=[37,39,160,172]
@[go_sem] def aS4:Marks:=λid=>match id with|5=>([2,8,10],(.op 0 (.op 1 (.op 3 (.op 4 (.op 5 (.op 6 (.op 7 (.op 2 (.op 8 (.op 9 (.op 10 (.op 11 .nil)))))))))))),[])|15=>([7,11,13,15],(.op 0 (.op 1 (.op 2 (.op 3 (.op 4 (.op 5 (.op 6 (.op 8 (.op 9 (.op 10 (.op 7 (.op 11 (.op 12 (.op 13 (.op 14 (.op 15 .nil)))))))))))))))),[])|20=>([3,8,11,15],(.op 0 (.op 1 (.op 2 (.op 4 (.op 5 (.op 6 (.op 7 (.op 9 (.op 12 (.op 3 (.op 8 (.op 10 (.op 11 (.op 13 (.op 14 (.op 15 .nil)))))))))))))))),[])|30=>([3,8,11,16,19,23],(.op 0 (.op 1 (.op 2 (.op 4 (.op 5 (.op 6 (.op 7 (.op 9 (.op 12 (.op 13 (.op 14 (.op 15 (.op 17 (.op 3 (.op 8 (.op 10 (.op 11 (.op 16 (.op 18 (.op 19 (.op 20 (.op 21 (.op 22 (.op 23 .nil)))))))))))))))))))))))),[])|_=>([],.nil,[])
set_option maxHeartbeats 4000000 in
theorem solved {n sz:Nat} (hn:1<=n/\n<=12) (hsz:1<=sz/\sz<=1048576) {a:List (List (List Int))} {b:List (List Int)} (hal:a.length=n) (ha:∀ i,i<n->dH sz n (a.getD i [])) (hb:dH sz n b) {M:Nat->Nat->List Int} (hM:M=qQ n (λi k=>(a.getD i []).getD k []) λi=>b.getD i []) :
  fE Tryz.prog 98 [rM a,bW b] (.gU [bW (aS2 n M).1,.bool (aS2 n M).2]):=by
 have hMok:okM (bJ sz) n M:=λi hi k hk=>by
  rw[hM];unfold qQ
  split
  ·exact((ha i hi).get lB).2
  ·exact(hb.get hi).2
 have hrow:∀ i,i<n->iN (n+1) (M i)=a.getD i []++[b.getD i []]:=λi hi=>by
  rw[hM]
  apply u4
  ·rw[cX,gD,(ha i hi).1];rfl
  ·intro k h1 h2
   rw[cX]at h1
   simp only[iN,rU,aLQ,qQ]
   rcases bT k n with h3|h3
   ·rw[if_pos h3,a2Q (by rw[(ha i hi).1];exact h3),gG,eY (by rw[(ha i hi).1];exact h3)];rfl
   ·rw[if_neg aA]
    have:k=n:=by omega
    subst this
    rw[a2R (by rw[(ha i hi).1];exact bX _)]
    simp[(ha i hi).1]
 refine lS 176 aAP aS3 aS4 Tryz.func98 λh=>?_
 simp -dsimp -implicitDefEqProofs only[go_sem,↓reduceIte,Tryz.f98,hal]
 refine λ_=>⟨by decide,λb0 hb0 _=>?_⟩
 refine cM aAP aS3 aS4 (λx:Nat×Nat×List Nat×aB=>[(0,rM a),(1,bW b),(6,I n),(7,.os x.2.1 1 0 x.1),(23,rM a),(24,I n),(25,I x.1)]) (λx=>x.2.2.2) (λx=>x.1<=n/\x.2.2.1.length=x.1/\OM ints h x.2.1 (n+1) x.2.2.1 M x.2.2.2) (λx=>n-x.1) (0,b0,[],aU h b0 (.row 1 [])) ⟨by simp[cR,b6],aB.le_refl _,eF _,rfl,⟨by simp,by simp,by simp,aI _ _ _,λq o hq=>(aC _ _ _ _ (λe=>by rw[e,hb0]at hq;cases hq)).trans hq,hb0⟩⟩ ?_
 rintro⟨k,bb,N,g⟩ ⟨hk,hN,H⟩
 simp only at hk hN H ⊢
 rcases bT k n with hlt|hge
 ·have ea:a[k]?=some (a.getD k []):=by rw[gG,eY aA];rfl
  have eb:=hb.get hlt
  have har:=(ha k hlt).1
  have hcl:=bAM (a.getD k []) aA
  have hr:=hrow k hlt
  have hgb:=H.bk
  simp -dsimp -implicitDefEqProofs only[go_sem,↓reduceIte,Tryz.f98,hlt,ea,hal,eb.1,hb.1]
  refine⟨bD,bD,aH.wn0 hcl ?_⟩
  rintro r l g2 ⟨y,oy,rfl,rfl⟩ wn
  rcases oy.y5 with⟨_,q⟩|⟨m,rfl⟩
  ·rw[q]at har;simp at har;omega
  rw[OV.iZ]
  rw[OV.eD,gP,fQ]at wn
  obtain⟨zm,rfl⟩:=wn.rL
  obtain⟨bHM,aPB,aPC,bHN⟩:=cW (show ¬m=bb from λe=>by rw[e,hgb]at zm;cases zm)
  simp -dsimp -implicitDefEqProofs only[go_sem,↓reduceIte,Tryz.f98,har,eb.1,hb.1,hlt,aPB,aPC,aC,hgb,dU,hN]
  have bUH:List.take n (List.map (List.map Cell.v) (List.map (λs=>[ints s]) (a.getD k [])))++[[Cell.v (ints (b.getD k []))]]=((iN (n+1) (M k)).map λs=>[ints s]).map (List.map .v):=by rw[hr,←dZ ints,har]
  refine⟨bD,bX _,by omega,by omega,λm2 ⟨m3,zm2⟩=>⟨bD,bD,bD,?_⟩⟩
  obtain⟨a55,aJ6,aJ7,bHP⟩:=cW (show ¬m2=m from m3)
  obtain⟨bAN,aPD,aPE,bAO⟩:=cW (show ¬m2=bb from λe=>by rw[e,hgb]at zm2;cases zm2)
  rw[bUH]
  simp -dsimp -implicitDefEqProofs only[go_sem,↓reduceIte,Tryz.f98,aPB,aJ7,aPC,aPE,aJ6,aPD,aC,hgb,dU,hN]
  refine⟨bX _,by omega,by omega,λb' ⟨b1,b2,_,b4⟩=>?_⟩
  have HF:=OM.app (X:=.row 1 (((a.getD k []).map λs=>[ints s]).map (List.map .v))) (Y:=.gone) H hN zm zm2 b4 (iK b1) a55
  generalize hF:aU (aU _ bb bV.gone) b' _=F at HF ⊢
  exact⟨(k+1,b',N++[m2],F),⟨rfl,IntWalk.i64_in _ aA⟩,aB.le_refl _,⟨hlt,by simp[hN],HF⟩,by simp only;omega⟩
 ·obtain rfl:k=n:=by omega
  simp -dsimp -implicitDefEqProofs only[go_sem,↓reduceIte,Tryz.f98,bU,cT]
  refine cM aAP aS3 aS4 (λx:Nat×(Nat->Nat->List Int)×List Nat×aB=>[(6,I k),(7,.os bb 1 0 k),(42,I k),(43,I x.1)]) (λx=>x.2.2.2) (λx=>x.1<=k/\x.2.2.1.length=k/\sO p0 k M x.1=some x.2.1/\okM (bJ sz) k x.2.1/\OM ints h bb (k+1) x.2.2.1 x.2.1 x.2.2.2) (λx=>k-x.1) (0,M,N,g) ⟨by simp[cR,b6],aB.le_refl _,eF _,hN,rfl,hMok,H⟩ ?_
  rintro⟨c,A,N,g⟩ ⟨hc,hN,hgj,hA,H⟩
  simp only at hc hN hgj hA H ⊢
  have hgb:=H.bk
  rcases bT c k with hlt|hge
  ·simp -dsimp -implicitDefEqProofs only[go_sem,↓reduceIte,Tryz.f98,hlt]
   refine sM aAP aS3 aS4 (λr:Nat=>[(6,I k),(7,.os bb 1 0 k),(10,I c),(11,I r),(42,I k),(43,I c)]) (λr=>r<=k/\c<=r/\rQ p0.z A c k (k-r)=rQ p0.z A c k (k-c)) (λr=>k-r) c ⟨by simp[cR,b6],by omega,bX _,rfl⟩ ?_
   rintro r ⟨hr,hcr,hpv⟩
   rcases bT r k with hrk|hrk
   ·obtain⟨nr,hnr⟩:∃ nr,N[r]?=some nr:=⟨_,eY aA⟩
    obtain⟨nc,hnc⟩:∃ nc,N[c]?=some nc:=⟨_,eY aA⟩
    have hpr:rQ p0.z A c k (k-r)=if p0.z (A r c)=true then rQ p0.z A c k (k-(r+1))else r:=by
     rw[show k-r=(k-(r+1))+1 by omega,rQ,show k-(k-(r+1)+1)=r by omega]
    have hgr:=H.get r nr hnr
    have hAr:=hA r hrk c aA
    have e0:(A r c)[Int.toNat 0]?=some ((A r c).getD 0 0):=cQ (l:=A r c) (i:=0) (by rw[hAr.1];exact hsz.1)
    have e0l:=hAr.1
    have bN5:c=r->nc=nr:=λe=>by rw[e,hnr]at hnc;exact(gH hnc).symm
    have hx1:(N.set c nr)[r]?=some nr:=by
     by_cases e:c=r
     ·rw[e,qT aA]
     ·rw[rT e];exact hnr
    have hx2:((N.set c nr).set r nc)[c]?=some nr:=by
     by_cases e:c=r
     ·rw[bN5 e,←e,qT (by rw[tW];omega)]
     ·rw[rT (iK e),qT aA]
    obtain⟨bQW,bAP,bAQ,bQX⟩:=cW (show ¬nr=bb from(H.out nr (rS hnr)).1)
    simp -dsimp -implicitDefEqProofs only[go_sem,↓reduceIte,Tryz.f98,hrk,hgb,dJ hnr,dU,hN,hgr,iS,cX,gO (A r) (show c<k+1 by omega),e0,e0l,dJ hnc,aAO,dJ hx1,dJ hx2,tW,bAP,bAQ,aC]
    refine⟨by omega,by omega,λq=>⟨r+1,IntWalk.i64_in _ aA,⟨hrk,by omega,?_⟩,by omega⟩,λq=>⟨λe=>absurd e aA,λ_=>⟨hlt,?_⟩⟩⟩
    ·rw[←hpv,hpr,if_pos (show p0.z (A r c)=true from decide_eq_true q)]
    rw[hpr,if_neg (show ¬p0.z (A r c)=true from λe=>q (of_decide_eq_true e))]at hpv
    have hgo:=a54 hgj hrk hpv.symm
    have HS:=H.swap hnc hnr
    have hN2:((N.set c nr).set r nc).length=k:=by simp[hN]
    have hB:okM (bJ sz) k (mV A c r):=aU6 hlt hrk hA
    refine⟨hlt,hlt,by omega,hlt,λ_=>?_⟩
    rw[aO]
    generalize bZH:(N.set c nr).set r nc=N2 at *
    generalize aU g bb (.row 1 (uS (k+1) N2))=G at HS ⊢
    have hd0:A r c=mV A c r c c:=by rw[mV,if_pos rfl]
    rw[hd0]
    have hdz:¬(mV A c r c c).getD 0 0=0:=by rw[←hd0];exact q
    generalize mV A c r=B at *
    clear hx1 bN5 hgr hAr e0 e0l hpr hpv hgb H hgj hA hnr hnc hd0 q
    refine cM aAP aS3 aS4 (λx:Nat×aB=>[(6,I k),(7,.os bb 1 0 k),(10,I c),(12,ints (B c c)),(42,I k),(43,I c),(92,I ((k:Int)+1)),(93,I x.1)]) (λx=>x.2) (λx=>x.1<=k+1/\OM ints h bb (k+1) N2 (λi j=>if i=c/\j<x.1 then fZ (B c j) (B c c)else B i j) x.2) (λx=>k+1-x.1) (0,G) ⟨by simp[cR,b6],aB.le_refl _,eF _,HS.congr λi _ j _=>by simp⟩ ?_
    ·rintro⟨q,G⟩ ⟨hq,H⟩
     simp only at hq H ⊢
     have hgb:=H.bk
     have hgc:G nr=some (iS ints (iN (k+1) λj=>if j<q then fZ (B c j) (B c c)else B c j)):=by have:=H.get c nr hx2;simpa using this
     rcases bT q (k+1)with jO|aFB
     ·have hqn:((q:Nat):Int)<(k:Int)+1:=by omega
      have hBq:=hB c hlt q aA
      have hBc:=hB c hlt c aA
      have ecq:(iN (k+1) λj=>if j<q then fZ (B c j) (B c c)else B c j)[q]?=some (B c q):=by rw[gO _ jO,if_neg (bU q)]
      simp -dsimp -implicitDefEqProofs only[go_sem,↓reduceIte,Tryz.f98,hqn,hgb,dJ hx2,dU,hN2,hgc,iS,cX,ecq]
      refine⟨hlt,hlt,by omega,?_⟩
      first|refine aH.mk (quotient (B c q) (B c c) aW2 aFT aFT hBq.2 hBc.2) ?_|refine aF.mk (quotient (B c q) (B c c) aW2 aFT aFT hBq.2 hBc.2) ?_|refine aH.bI (quotient (B c q) (B c c) aW2 aFT aFT hBq.2 hBc.2) ?_|refine aF.mk (bC.dI (quotient (B c q) (B c c) aW2 aFT aFT hBq.2 hBc.2)) ?_
      simp -dsimp -implicitDefEqProofs only[go_sem,↓reduceIte,Tryz.f98,hgb,dJ hx2,dU,hN2,hgc,iS,cX,ecq]
      have h3:(iN (k+1) λj=>if j<q then fZ (B c j) (B c c)else B c j).set q (fZ (B c q) (B c c))=iN (k+1) λj=>if j<q+1 then fZ (B c j) (B c c)else B c j:=by
       rw[aHO]
       refine eW λj _=>?_
       by_cases e:j=q
       ·rw[if_pos e,if_pos aA,e]
       ·rw[if_neg e]
        by_cases e2:j<q
        ·rw[if_pos e2,if_pos aA]
        ·rw[if_neg e2,if_neg aA]
      rw[qM ints,h3]
      have HF:=H.set (B:=λi j=>if i=c/\j<q+1 then fZ (B c j) (B c c)else B i j) hx2 λi hi j _=>by simp[hi]
      have hrf:iN (k+1) ((λi j=>if i=c/\j<q+1 then fZ (B c j) (B c c)else B i j) c)=iN (k+1) λj=>if j<q+1 then fZ (B c j) (B c c)else B c j:=eW λj _=>by simp
      rw[hrf]at HF
      exact⟨jO,(q+1,aU G nr (iS ints (iN (k+1) λj=>if j<q+1 then fZ (B c j) (B c c)else B c j))),IntWalk.i64_in _ aA,aB.le_refl _,⟨jO,HF⟩,by simp only;omega⟩
     ·obtain rfl:q=k+1:=by omega
      simp -dsimp -implicitDefEqProofs only[go_sem,↓reduceIte,Tryz.f98,show ¬(((k+1:Nat):Int)<(k:Int)+1)by omega]
      have HD:=H.congr (B:=λi j=>if i=c then fZ (B c j) (B c c)else B i j) λi _ j hj=>by simp[hj]
      have hD:∀ j,j<k+1->bJ sz (fZ (B c j) (B c c)):=λj hj=>k8 _ (hB c hlt j aA)
      clear H hgc hgb HS aFB hq
      generalize hDe:(λj=>fZ (B c j) (B c c))=D
      refine cM aAP aS3 aS4 (λx:Nat×aB=>[(6,I k),(7,.os bb 1 0 k),(10,I c),(42,I k),(43,I c),(112,I k),(113,I x.1)]) (λx=>x.2) (λx=>x.1<=k/\OM ints h bb (k+1) N2 (λi j=>if i=c then D j else if i<x.1 then lN (B i j) (mulL (B i c) (D j))else B i j) x.2) (λx=>k-x.1) (0,G) ⟨by simp[cR,b6],aB.le_refl _,eF _,HD.congr λi _ j _=>by simp[←hDe]⟩ ?_
      rintro⟨i,G⟩ ⟨hi,H⟩
      simp only at hi H ⊢
      have hgb:=H.bk
      rcases bT i k with aGS|bUI
      ·obtain⟨ni,hni⟩:∃ ni,N2[i]?=some ni:=⟨_,eY aA⟩
       have hBi:=hB i aGS
       by_cases hic:i=c
       ·have HC:OM ints h bb (k+1) N2 (λi' j=>if i'=c then D j else if i'<i+1 then lN (B i' j) (mulL (B i' c) (D j))else B i' j) G:=H.congr λi' _ j _=>by
         by_cases e:i'=c
         ·rw[if_pos e,if_pos e]
         ·rw[if_neg e,if_neg e]
          by_cases e2:i'<i
          ·rw[if_pos e2,if_pos aA]
          ·rw[if_neg e2,if_neg aA]
        simp -dsimp -implicitDefEqProofs only[go_sem,↓reduceIte,Tryz.f98,aGS]
        exact⟨λ_=>⟨(i+1,G),IntWalk.i64_in _ aA,aB.le_refl _,⟨aGS,HC⟩,by simp only;omega⟩,λq=>absurd hic q⟩
       have hii:¬((i:Nat):Int)=(c:Int):=by omega
       have hgi:G ni=some (iS ints (iN (k+1) (B i))):=by
        have:=H.get i ni hni
        rw[this]
        exact congrArg (λr=>some (iS ints r)) (eW λj _=>by rw[if_neg hic,if_neg (bU i)])
       simp -dsimp -implicitDefEqProofs only[go_sem,↓reduceIte,Tryz.f98,aGS,hii,hgb,dJ hni,dU,hN2,hgi,iS,cX,gO (B i) (show c<k+1 by omega)]
       refine⟨by omega,λ_=>?_⟩
       refine cM aAP aS3 aS4 (λx:Nat×aB=>[(6,I k),(7,.os bb 1 0 k),(10,I c),(14,I i),(15,ints (B i c)),(42,I k),(43,I c),(112,I k),(113,I i),(130,I ((k:Int)+1)),(131,I x.1)]) (λx=>x.2) (λx=>x.1<=k+1/\OM ints h bb (k+1) N2 (λi' j=>if i'=c then D j else if i'<i∨i'=i/\j<x.1 then lN (B i' j) (mulL (B i' c) (D j))else B i' j) x.2) (λx=>k+1-x.1) (0,G) ⟨by simp[cR,b6],aB.le_refl _,eF _,H.congr λi' _ j _=>by simp⟩ ?_
       clear H hgb hgi
       rintro⟨q,G⟩ ⟨hq,H⟩
       simp only at hq H ⊢
       have hgb:=H.bk
       rcases bT q (k+1)with bAR|bZI
       ·have hqn:((q:Nat):Int)<(k:Int)+1:=by omega
        have hgi:G ni=some (iS ints (iN (k+1) λj=>if j<q then lN (B i j) (mulL (B i c) (D j))else B i j)):=by
         rw[H.get i ni hni]
         exact congrArg (λr=>some (iS ints r)) (eW λj _=>by rw[if_neg hic];simp)
        have hgc:G nr=some (iS ints (iN (k+1) D)):=by
         rw[H.get c nr hx2]
         exact congrArg (λr=>some (iS ints r)) (eW λj _=>by rw[if_pos rfl])
        have eiq:(iN (k+1) λj=>if j<q then lN (B i j) (mulL (B i c) (D j))else B i j)[q]?=some (B i q):=by rw[gO _ bAR,if_neg (bU q)]
        have hDq:bJ sz (D q):=by rw[←hDe];exact hD q bAR
        have hiq:=hBi q aA
        have hicv:=hBi c aA
        simp -dsimp -implicitDefEqProofs only[go_sem,↓reduceIte,Tryz.f98,hqn,hgb,dJ hx2,dJ hni,dU,hN2,hgc,hgi,iS,cX,eiq,gO D bAR]
        refine⟨aGS,aGS,hlt,by omega,by omega,?_⟩
        have hpm:=c6 (D q) hicv
        first|refine aH.mk (product (B i c) (D q) aWY aWX hicv.2 hDq.2) ?_|refine aF.mk (product (B i c) (D q) aWY aWX hicv.2 hDq.2) ?_|refine aH.bI (product (B i c) (D q) aWY aWX hicv.2 hDq.2) ?_|refine aF.mk (bC.dI (product (B i c) (D q) aWY aWX hicv.2 hDq.2)) ?_
        simp -dsimp -implicitDefEqProofs only[go_sem,↓reduceIte,Tryz.f98,hgb,dJ hni,dU,hN2,hgi,iS,cX,eiq]
        first|refine aH.mk (reduced (B i q) (mulL (B i c) (D q)) aW0 aW1 hiq.2 hpm.2) ?_|refine aF.mk (reduced (B i q) (mulL (B i c) (D q)) aW0 aW1 hiq.2 hpm.2) ?_|refine aH.bI (reduced (B i q) (mulL (B i c) (D q)) aW0 aW1 hiq.2 hpm.2) ?_|refine aF.mk (bC.dI (reduced (B i q) (mulL (B i c) (D q)) aW0 aW1 hiq.2 hpm.2)) ?_
        simp -dsimp -implicitDefEqProofs only[go_sem,↓reduceIte,Tryz.f98,hgb,dJ hni,dU,hN2,hgi,iS,cX,eiq]
        have h3:(iN (k+1) λj=>if j<q then lN (B i j) (mulL (B i c) (D j))else B i j).set q (lN (B i q) (mulL (B i c) (D q)))=iN (k+1) λj=>if j<q+1 then lN (B i j) (mulL (B i c) (D j))else B i j:=by
         rw[aHO]
         refine eW λj _=>?_
         by_cases e:j=q
         ·rw[if_pos e,if_pos aA,e]
         ·rw[if_neg e]
          by_cases e2:j<q
          ·rw[if_pos e2,if_pos aA]
          ·rw[if_neg e2,if_neg aA]
        rw[qM ints,h3]
        have HF:=H.set (B:=λi' j=>if i'=c then D j else if i'<i∨i'=i/\j<q+1 then lN (B i' j) (mulL (B i' c) (D j))else B i' j) hni λi' hi' j _=>by simp[hi']
        have hrf:iN (k+1) ((λi' j=>if i'=c then D j else if i'<i∨i'=i/\j<q+1 then lN (B i' j) (mulL (B i' c) (D j))else B i' j) i)=iN (k+1) λj=>if j<q+1 then lN (B i j) (mulL (B i c) (D j))else B i j:=eW λj _=>by simp[hic]
        rw[hrf]at HF
        refine⟨by omega,(q+1,aU G ni (iS ints (iN (k+1) λj=>if j<q+1 then lN (B i j) (mulL (B i c) (D j))else B i j))),IntWalk.i64_in _ aA,aB.le_refl _,⟨bAR,HF⟩,by simp only;omega⟩
       ·obtain rfl:q=k+1:=by omega
        simp -dsimp -implicitDefEqProofs only[go_sem,↓reduceIte,Tryz.f98,show ¬(((k+1:Nat):Int)<(k:Int)+1)by omega]
        exact⟨(i+1,G),IntWalk.i64_in _ aA,aB.le_refl _,⟨aGS,H.congr λi' _ j hj=>by
         by_cases e:i'=c
         ·rw[if_pos e,if_pos e]
         ·rw[if_neg e,if_neg e]
          by_cases e2:i'<i+1
          ·rw[if_pos e2,if_pos aA]
          ·rw[if_neg e2,if_neg aA]⟩,by simp only;omega⟩
      ·obtain rfl:i=k:=by omega
       simp -dsimp -implicitDefEqProofs only[go_sem,↓reduceIte,Tryz.f98,bU,cT]
       refine⟨(c+1,zB p0 B c,N2,G),IntWalk.i64_in _ aA,aB.le_refl _,⟨hlt,hN2,hgo,aU7 (aEB sz) hlt hB (decide_eq_false hdz),H.congr λi' hi' j _=>?_⟩,by simp only;omega⟩
       rw[hN2]at hi'
       show zB p0 B c i' j=_
       unfold zB
       by_cases e:i'=c
       ·rw[if_pos e,if_pos e,←hDe];rfl
       ·rw[if_neg e,if_neg e,if_pos hi',←hDe];rfl
   ·obtain rfl:r=k:=by omega
    simp -dsimp -implicitDefEqProofs only[go_sem,↓reduceIte,Tryz.f98,bU,cT]
    rw[sU,rQ]at hpv
    have hno:=aS1 aA hgj hpv.symm
    rw[aS2,hno]
    exact Shift.of (Sub.gU (.cons (Sub.nil 1 false) (.cons (.refl _) .nil))) H.le
  ·obtain rfl:c=k:=by omega
   simp -dsimp -implicitDefEqProofs only[go_sem,↓reduceIte,Tryz.f98,bU,cT,hgb,dU,hN]
   refine⟨bD,λ_=>?_⟩
   have hxl:(iN c λi=>A i c).length=c:=cX _ _
   have sA:aS2 c M=(iN c λi=>A i c,true):=by rw[aS2,hgj]
   rw[sA]
   refine cM aAP aS3 aS4 (λx:Nat×Option Nat=>[(6,I c),(17,fT 1 ((iN c λi=>A i c).take x.1).length x.2),(161,.os bb 1 0 c),(162,I c),(163,I x.1)]) (λx=>cP g (.row 1 ((((iN c λi=>A i c).take x.1).map λs=>[ints s]).map (List.map .v))) x.2) (λx=>x.1<=c/\eM g ((iN c λi=>A i c).take x.1) x.2) (λx=>c-x.1) (0,none) ⟨by simp[cR,b6,fT],by simp only[aL];exact aB.le_refl _,eF _,by simp[eM]⟩ ?_
   rintro⟨k,o⟩ ⟨hk,hos⟩
   simp only at hk hos ⊢
   rcases bT k c with hlt|hge
   ·obtain⟨nk,hnk⟩:∃ nk,N[k]?=some nk:=⟨_,eY aA⟩
    have hgk:=H.get k nk hnk
    have hy:(iN c λi=>A i c).take (k+1)=(iN c λi=>A i c).take k++[A k c]:=by
     rw[jF aA];simp[iN]
    have hlk:((iN c λi=>A i c).take k).length=k:=by rw[mX];omega
    cases o with
    |none =>
     rw[aY]at hos
     rw[hos]at hy ⊢
     simp -dsimp -implicitDefEqProofs only[go_sem,↓reduceIte,Tryz.f98,bE,aL,hlt,hgb,dJ hnk,dU,hN,hgk,iS,cX,gO (A k) (wN c)]
     repeat'(with_reducible first|intro _|refine And.intro ?_ ?_)
     all_goals try(first|omega|decide)
     rename_i b hb
     refine⟨(k+1,some b),?_⟩
     simp only[hy]
     refine⟨⟨rfl,?_⟩,aB.le_refl _,⟨by omega,hb⟩,by omega⟩
     rw[IntWalk.i64_in _ aA];rfl
    |some m =>
     rw[aQ]at hos
     obtain⟨bHN,aPC,aPB,bHM⟩:=cW (show ¬bb=m from λe=>by rw[←e,hgb]at hos;cases hos)
     obtain⟨bHQ,aVC,aVD,bHR⟩:=cW (show ¬nk=m from λe=>by rw[←e,hgk]at hos;cases hos)
     simp -dsimp -implicitDefEqProofs only[go_sem,↓reduceIte,Tryz.f98,aR,aJ,hlt,hgb,dJ hnk,dU,hN,hgk,iS,cX,gO (A k) (wN c),aPC,aPB,aVC,aVD,aC]
     repeat'(with_reducible first|intro _|refine And.intro ?_ ?_)
     all_goals try(first|omega|decide|exact bX _)
     rename_i b hb
     refine⟨(k+1,some b),?_⟩
     simp only[hy,aJ,aR,aQ]
     refine⟨⟨by rw[gD];rfl,?_⟩,?_,⟨by omega,hb.2⟩,by omega⟩
     ·rw[IntWalk.i64_in _ aA];rfl
     ·rw[←dZ];exact jC hos
   ·have hk':k=c:=by omega
    subst hk'
    rw[nI aA]at hos ⊢
    cases o with
    |none =>
     rw[aY]at hos
     simp -dsimp -implicitDefEqProofs only[go_sem,↓reduceIte,Tryz.f98,bE,aL,bU,cT]
     rw[hos]
     exact Shift.of (Sub.gU (.cons (Sub.loose _ _ _) (.cons (.refl _) .nil))) H.le
    |some m =>
     rw[aQ]at hos
     simp -dsimp -implicitDefEqProofs only[go_sem,↓reduceIte,Tryz.f98,aR,aJ,bU,cT]
     refine Shift.trans (kS ((iN k λi=>A i k).map λs=>[ints s]) hos (aB.le_refl _) aH3 ?_) (eK H.le)
     simp[aE.fG,l5,nI]
theorem OM.bUJ {α:Type} {c:α->aE} {h g:aB} {b b2 w n k:Nat} {N:List Nat} {A:Nat->Nat->α} (H:OM c h b w N A g) (hN:N.length=k) (hn:g n=none) (hb:g b2=none) (hnb:¬n=b2):OM c h b2 w (N++[n]) A (aU (aU (aU g n (.row 1 (((iN w (A k)).map λx=>[c x]).map (List.map .v)))) b .gone) b2 (.row 1 (List.take k (uS w N)++[[.v (.os n 1 0 w)]]))):=by
 have aUY:¬n=b:=λe=>by rw[e,H.bk]at hn;cases hn
 refine OM.more H hn hb hnb ?_ ?_ λq q1 q2 q3 o ho=>?_
 ·rw[aC _ _ _ _ hnb,aC _ _ _ _ aUY,aI,hN];rfl
 ·rw[aI,aMZ,nI (by rw[dU,hN];exact bX _)]
 ·rw[aC _ _ _ _ q2,aC _ _ _ _ q3,aC _ _ _ _ q1];exact ho
theorem bAS {α:Type} {w x:Nat} (f a:Nat->α):(iN w λk=>if k<x then f k else a k).set x (f x)=iN w λk=>if k<x+1 then f k else a k:=by
 rw[aHO]
 refine eW λj _=>?_
 by_cases e:j=x
 ·rw[if_pos e,if_pos aA,e]
 ·rw[if_neg e]
  by_cases e2:j<x
  ·rw[if_pos e2,if_pos aA]
  ·rw[if_neg e2,if_neg aA]
@[go_sem] def bD8:List Nat:=[18]
theorem aZF {n w:Nat} (hn:n<=1048576) (hw:1<=w/\w<=1048576) {L:List (List Int)} (hL:L.length=n) (hLw:∀ i,i<n->(L.getD i []).length=w) (h:aB):iV Tryz.prog 147 [bW L] h λr h'=>∃ b N,r=.os b 1 0 n/\N.length=n/\OM I h b w N (λi k=>(L.getD i []).getD k 0) h':=by
 refine mC 21 aXK bD8 cF Tryz.func147 ?_
 simp -dsimp -implicitDefEqProofs only[go_sem,↓reduceIte,Tryz.f147,hL]
 refine⟨by decide,λb0 hb0=>?_⟩
 refine cM aXK bD8 cF (λx:Nat×Nat×List Nat×aB=>[(0,bW L),(3,.os x.2.1 1 0 x.1),(4,I x.1)]) (λx=>x.2.2.2) (λx=>x.1<=n/\x.2.2.1.length=x.1/\OM I h x.2.1 w x.2.2.1 (λi k=>(L.getD i []).getD k 0) x.2.2.2) (λx=>n-x.1) (0,b0,[],aU h b0 (.row 1 [])) ⟨by simp[cR,b6],aB.le_refl _,eF _,rfl,⟨by simp,by simp,by simp,aI _ _ _,λq o hq=>(aC _ _ _ _ (λe=>by rw[e,hb0]at hq;cases hq)).trans hq,hb0⟩⟩ ?_
 rintro⟨k,bb,N,g⟩ ⟨hk,hN,H⟩
 simp only at hk hN H ⊢
 rcases bT k n with hlt|hge
 ·have ea:L[k]?=some (L.getD k []):=by rw[gG,eY aA];rfl
  have hlw:=hLw k hlt
  have hgb:=H.bk
  have hr:iN w (λj=>(L.getD k []).getD j 0)=L.getD k []:=by
   apply u4
   ·rw[cX,hlw]
   ·intro j h1 h2
    simp only[iN,rU,aLQ]
    rw[gG,eY h2];rfl
  simp -dsimp -implicitDefEqProofs only[go_sem,↓reduceIte,Tryz.f147,hlt,ea,hL]
  intro _
  refine aH.wn0 (aUH (L.getD k []) aA) ?_
  rintro r l g2 ⟨y,oy,rfl,rfl⟩ wn
  rcases oy.y5 with⟨_,q⟩|⟨m2,rfl⟩
  ·rw[q]at hlw;simp at hlw;omega
  rw[OV.iZ]
  rw[OV.eD,gP,fQ]at wn
  obtain⟨zm2,rfl⟩:=wn.rL
  obtain⟨bAN,aPD,aPE,bAO⟩:=cW (show ¬m2=bb from λe=>by rw[e,hgb]at zm2;cases zm2)
  rw[←hr]
  simp -dsimp -implicitDefEqProofs only[go_sem,↓reduceIte,Tryz.f147,aPE,aPD,aC,hgb,dU,hN,cX]
  refine⟨by decide,by decide,by decide,bX _,by omega,by omega,λb' ⟨b1,b4⟩=>?_⟩
  have HF:=OM.bUJ H hN zm2 b4 (iK b1)
  generalize hF:aU (aU _ bb bV.gone) b' _=F at HF ⊢
  exact⟨(k+1,b',N++[m2],F),⟨rfl,IntWalk.i64_in _ aA⟩,aB.le_refl _,⟨hlt,by simp[hN],HF⟩,by simp only;omega⟩
 ·obtain rfl:k=n:=by omega
  simp -dsimp -implicitDefEqProofs only[go_sem,↓reduceIte,Tryz.f147,bU,cT,hL]
  exact λ_=>⟨_,g,cD _ _,bb,N,rfl,hN,H⟩
@[go_sem] def aZG:List Nat:=[0,1,2,6,10]
@[go_sem] def bD9:Marks:=λid=>match id with|3=>([5,10,14],(.op 0 (.op 1 (.op 2 (.op 3 (.op 4 (.op 6 (.op 7 (.op 8 (.op 9 (.op 5 (.op 10 (.op 11 (.op 12 (.op 13 (.op 14 .nil))))))))))))))),[])|_=>([],.nil,[])
theorem aS5 {w m m2:Nat} (hw:w<=1048576) {a b:Nat->Int} {by_:Int} (ha:∀ k,k<w->iW (a k)) (hb:∀ k,k<w->iW (b k)) (hy:iW by_) {g:aB} (hm:g m=some (iS I (iN w a))) (hm2:g m2=some (iS I (iN w b))) (hne:¬m=m2):iV Tryz.prog 148 [.os m 1 0 w,.os m2 1 0 w,I by_] g λ_ h'=>h'=aU g m (iS I (iN w λk=>gC.tk (a k) by_ (b k))):=by
 obtain⟨bHP,aJ7,aJ6,a55⟩:=cW (show ¬m=m2 from hne)
 refine aGO 27 aZG cU bD9 Tryz.func148 ?_
 simp -dsimp -implicitDefEqProofs only[go_sem,↓reduceIte,Tryz.f148,hm,hm2]
 refine cM aZG cU bD9 (λx:Nat=>[(0,.os m 1 0 w),(1,.os m2 1 0 w),(2,I by_),(6,I x)]) (λx=>aU g m (iS I (iN w λk=>if k<x then gC.tk (a k) by_ (b k)else a k))) (λx=>x<=w) (λx=>w-x) 0 ⟨by simp[cR,b6],by simp only[aP5,if_false];rw[uJ hm];exact aB.le_refl _,eF _⟩ ?_
 intro x hx
 rcases bT x w with hlt|hge
 ·have e1:(iN w λk=>if k<x then gC.tk (a k) by_ (b k)else a k)[x]?=some (a x):=by rw[gO _ hlt,if_neg (bU x)]
  simp -dsimp -implicitDefEqProofs only[go_sem,↓reduceIte,Tryz.f148,hlt,aJ7,aJ6,aC,hm2,iS,cX,e1,gO b hlt]
  intro _
  have hax:=ha x hlt
  have hbx:=hb x hlt
  first|refine aH.mk (bA by_ (b x) hy hbx) ?_|refine aF.mk (bA by_ (b x) hy hbx) ?_|refine aH.bI (bA by_ (b x) hy hbx) ?_|refine aF.mk (bC.dI (bA by_ (b x) hy hbx)) ?_
  simp -dsimp -implicitDefEqProofs only[go_sem,↓reduceIte,Tryz.f148,aJ7,aJ6,aC,hm2,iS,cX,e1]
  first|refine aH.mk (rZ (a x) (by_*b x%1000003) hax (eO _)) ?_|refine aF.mk (rZ (a x) (by_*b x%1000003) hax (eO _)) ?_|refine aH.bI (rZ (a x) (by_*b x%1000003) hax (eO _)) ?_|refine aF.mk (bC.dI (rZ (a x) (by_*b x%1000003) hax (eO _))) ?_
  simp -dsimp -implicitDefEqProofs only[go_sem,↓reduceIte,Tryz.f148,aJ7,aJ6,aC,hm2,iS,cX,e1]
  refine⟨hlt,x+1,IntWalk.i64_in _ aA,?_,hlt,by omega⟩
  have h3:=bAS (w:=w) (x:=x) (λk=>gC.tk (a k) by_ (b k)) a
  rw[aO,qM I,show(a x-by_*b x%1000003)%1000003=gC.tk (a x) by_ (b x)from rfl,h3]
  exact aB.le_refl _
 ·obtain rfl:x=w:=by omega
  simp -dsimp -implicitDefEqProofs only[go_sem,↓reduceIte,Tryz.f148,bU,cT]
  refine λ_=>⟨_,aB.le_refl _,?_⟩
  rw[eW (λk hk=>if_pos hk)]
@[go_sem] def bXN:List Nat:=[4,14,25]
@[go_sem] def bXO:Marks:=λid=>match id with|1=>([5,8,12],(.op 0 (.op 1 (.op 2 (.op 3 (.op 4 (.op 6 (.op 7 (.op 5 (.op 8 (.op 9 (.op 10 (.op 11 (.op 12 .nil))))))))))))),[])|_=>([],.nil,[])
theorem aJ8 (a:Int) (ha:iW a):fE Tryz.prog 90 [I a] (I ((0-a)%1000003)):=by
 unfold iW at ha
 refine fU 6 aBD cU cF Tryz.func90 λh=>?_
 simp -dsimp -implicitDefEqProofs only[go_sem,↓reduceIte,Tryz.f90]
 rw[IntWalk.i64_in _ aA]
 first|refine aH.mk (cV (0-a)) ?_|refine aF.mk (cV (0-a)) ?_|refine aH.bI (cV (0-a)) ?_|refine aF.mk (bC.dI (cV (0-a))) ?_
 simp -dsimp -implicitDefEqProofs only[go_sem,↓reduceIte,Tryz.f90]
@[go_sem] def bQY:List Nat:=[0,2,3,4,6,8]
@[go_sem] def bQZ:List Nat:=[0,1,2,6,7,8,13,18]
@[go_sem] def bQ0:List Nat:=[0,1,2,6,7,8,9,10,11,12,13,17,18,31,40,62,94,111,133]
@[go_sem] def bXP:List Nat:=[89,130]
@[go_sem] def bXQ:Marks:=λid=>match id with|3=>([10],(.op 0 (.op 1 (.op 2 (.op 3 (.op 4 (.op 5 (.op 6 (.op 7 (.op 8 (.op 9 (.op 10 (.op 11 .nil)))))))))))),[])|18=>([7,10,11],(.op 0 (.op 1 (.op 2 (.op 3 (.op 4 (.op 5 (.op 6 (.op 8 (.op 9 (.op 7 (.op 10 (.op 11 (.op 12 .nil))))))))))))),[])|25=>([9,12,16,19,20,21],(.op 0 (.op 1 (.op 2 (.op 3 (.op 4 (.op 5 (.op 6 (.op 7 (.op 8 (.op 10 (.op 13 (.op 14 (.op 15 (.op 17 (.op 9 (.op 11 (.op 12 (.op 16 (.op 18 (.op 19 (.op 20 (.op 21 (.op 22 .nil))))))))))))))))))))))),[])|_=>([],.nil,[])
def aS7 (n:Nat) (M:Nat->Nat->Int):Int:=match dtF n M n with
 |some (_,d)=>d
 |none=>0
theorem aS8 {n:Nat} {M:Nat->Nat->Int} {c:Nat} (h:dtF n M c=none):∀ d,dtF n M (c+d)=none
 |0=>h
 |d+1=>by rw[←aTT,dtF,aS8 h d]
theorem a56 {n:Nat} {M A:Nat->Nat->Int} {c:Nat} {d:Int} (hc:c<n) (h:dtF n M c=some (A,d)) (hp:rQ gC.z A c n (n-c)=n):aS7 n M=0:=by
 have h1:dtF n M (c+1)=none:=by rw[dtF,h];simp only[if_pos hp]
 have:=aS8 h1 (n-(c+1))
 rw[show c+1+(n-(c+1))=n by omega]at this
 rw[aS7,this]
theorem bHS {n:Nat} {M A:Nat->Nat->Int} {c r:Nat} {d:Int} (h:dtF n M c=some (A,d)) (hr:r<n) (hp:rQ gC.z A c n (n-c)=r):dtF n M (c+1)=some (λi k=>if c<i then gC.tk (mV A c r i k) (mV A c r i c*gZ (mV A c r c c)%1000003) (mV A c r c k)else mV A c r i k,(if c<r then(0-d)%1000003 else d)*mV A c r c c%1000003):=by
 rw[dtF,h]
 simp only[hp]
 rw[if_neg aA]
structure bN6 (T:Prop):Prop where
 get:T
theorem bHT {T G:Prop} (m:bN6 T->G) (t:T):G:=m ⟨t⟩
@[go_sem] def aJ9:List Nat:=[0,2,3,4,5,6,7,8,14,31,37,40,72]
@[go_sem] def a57:Marks:=λid=>match id with|20=>([3,7,11,14,18,21,24],(.op 0 (.op 1 (.op 2 (.op 4 (.op 5 (.op 6 (.op 8 (.op 9 (.op 10 (.op 12 (.op 15 (.op 16 (.op 17 (.op 19 (.op 3 (.op 7 (.op 11 (.op 13 (.op 14 (.op 18 (.op 20 (.op 21 (.op 22 (.op 23 (.op 24 .nil))))))))))))))))))))))))),[])|_=>([],.nil,[])
set_option maxHeartbeats 4000000 in
theorem bHU {n:Nat} (hn:1<=n/\n<=12) {L:List (List Int)} (hL:L.length=n) (hLw:∀ i,i<n->(L.getD i []).length=n) (hLn:∀ i,i<n->dW (L.getD i [])):fE Tryz.prog 72 [bW L] (I (aS7 n λi k=>(L.getD i []).getD k 0)):=by
 refine lS 101 aJ9 cU a57 Tryz.func72 λh=>?_
 simp -dsimp -implicitDefEqProofs only[go_sem,↓reduceIte,Tryz.f72]
 refine aH.gV (aZF aA aA hL hLw h) ?_
 rintro r g ⟨b,N,rfl,hN,H⟩
 obtain⟨M,hM⟩:∃ M:Nat->Nat->Int,M=λi k=>(L.getD i []).getD k 0:=⟨_,rfl⟩
 have hMn:∀ i,i<n->∀ k,k<n->iW (M i k):=λi hi k hk=>by rw[hM];exact(hLn i hi).get k
 rw[←hM]at H ⊢
 simp -dsimp -implicitDefEqProofs only[go_sem,↓reduceIte,Tryz.f72]
 refine cM aJ9 cU a57 (λx:Nat×(Nat->Nat->Int)×Int×List Nat×aB=>[(3,.os b 1 0 n),(4,I x.2.2.1),(5,I x.1)]) (λx=>x.2.2.2.2) (λx=>x.1<=n/\x.2.2.2.1.length=n/\dtF n M x.1=some (x.2.1,x.2.2.1)/\iW x.2.2.1/\(∀ i,i<n->∀ k,k<n->iW (x.2.1 i k))/\OM I h b n x.2.2.2.1 x.2.1 x.2.2.2.2) (λx=>n-x.1) (0,M,1,N,g) ⟨by simp[cR,b6],aB.le_refl _,eF _,hN,rfl,(by decide:iW 1),hMn,H⟩ ?_
 clear H hN hMn
 rintro⟨c,A,d,N,g⟩ ⟨hc,hN,hdt,hd,hA,H⟩
 simp only at hc hN hdt hd hA H ⊢
 have hgb:=H.bk
 rcases bT c n with hlt|hge
 ·simp -dsimp -implicitDefEqProofs only[go_sem,↓reduceIte,Tryz.f72,hlt]
  intro _
  refine sM aJ9 cU a57 (λr:Nat=>[(3,.os b 1 0 n),(4,I d),(5,I c),(6,I r)]) (λr=>r<=n/\c<=r/\rQ gC.z A c n (n-r)=rQ gC.z A c n (n-c)) (λr=>n-r) c ⟨by simp[cR,b6],by omega,bX _,rfl⟩ ?_
  rintro r ⟨hr,hcr,hpv⟩
  rcases bT r n with hrk|hrk
  ·obtain⟨nr,hnr⟩:∃ nr,N[r]?=some nr:=⟨_,eY aA⟩
   obtain⟨nc,hnc⟩:∃ nc,N[c]?=some nc:=⟨_,eY aA⟩
   have hpr:rQ gC.z A c n (n-r)=if gC.z (A r c)=true then rQ gC.z A c n (n-(r+1))else r:=by
    rw[show n-r=(n-(r+1))+1 by omega,rQ,show n-(n-(r+1)+1)=r by omega]
   have hgr:=H.get r nr hnr
   simp -dsimp -implicitDefEqProofs only[go_sem,↓reduceIte,Tryz.f72,hrk,hgb,dJ hnr,dU,hN,hgr,iS,cX,gO (A r) hlt]
   refine λ_=>⟨hlt,λq=>⟨r+1,IntWalk.i64_in _ aA,⟨hrk,by omega,?_⟩,by omega⟩,λq _=>⟨λe=>absurd e aA,λ_=>?_⟩⟩
   ·rw[←hpv,hpr,if_pos (show gC.z (A r c)=true from decide_eq_true q)]
   rw[hpr,if_neg (show ¬gC.z (A r c)=true from λe=>q (of_decide_eq_true e))]at hpv
   have hgo:=bHS hdt hrk hpv.symm
   have hB:∀ i,i<n->∀ k,k<n->iW (mV A c r i k):=λi hi k hk=>hA (if i=c then r else if i=r then c else i) (by split;exact hrk;split;exact hlt;exact hi) k hk
   have hcc:mV A c r c c=A r c:=by rw[mV,if_pos rfl]
   have hArc:=hA r hrk c hlt
   have ek1:IntKind.i64.wrap ((c:Int)+1)=(c:Int)+1:=IntWalk.i64_in _ aA
   apply bHT
   case m =>
    intro key
    refine⟨λq1=>⟨hlt,?_⟩,λq1=>⟨hlt,?_⟩⟩
    ·have HS:=H.swap hnc hnr
     rw[List.set_comm _ _ (show c≠r by omega)]at HS
     have hx1:(N.set r nc)[c]?=some nc:=by rw[rT aA];exact hnc
     have hx2:((N.set r nc).set c nr)[c]?=some nr:=by rw[qT (by rw[tW];omega)]
     obtain⟨a58,aKA,aKB,bHV⟩:=cW (show ¬nr=b from(H.out nr (rS hnr)).1)
     simp -dsimp -implicitDefEqProofs only[go_sem,↓reduceIte,Tryz.f72,hrk,hgb,dJ hnr,dJ hnc,dU,hN,aAO,dJ hx1,dJ hx2,tW,aKA,aKB,aC,hlt]
     first|refine aH.mk (aJ8 d hd) ?_|refine aF.mk (aJ8 d hd) ?_|refine aH.bI (aJ8 d hd) ?_|refine aF.mk (bC.dI (aJ8 d hd)) ?_
     simp -dsimp -implicitDefEqProofs only[go_sem,↓reduceIte,Tryz.f72,dJ hx2,dU,tW,hN,aKA,aKB,aC,hgr,iS,cX,gO (A r) hlt]
     refine⟨hlt,hlt,?_⟩
     first|refine aH.mk (bA ((0-d)%1000003) (A r c) (eO _) hArc) ?_|refine aF.mk (bA ((0-d)%1000003) (A r c) (eO _) hArc) ?_|refine aH.bI (bA ((0-d)%1000003) (A r c) (eO _) hArc) ?_|refine aF.mk (bC.dI (bA ((0-d)%1000003) (A r c) (eO _) hArc)) ?_
     simp -dsimp -implicitDefEqProofs only[go_sem,↓reduceIte,Tryz.f72]
     rw[aO]
     refine cM aJ9 cU a57 (λx:Nat×List Nat×aB=>[(3,.os b 1 0 n),(4,I ((if c<r then(0-d)%1000003 else d)*mV A c r c c%1000003)),(5,I c),(8,I x.1)]) (λx=>x.2.2) (λx=>c<x.1/\x.1<=n/\x.2.1.length=n/\OM I h b n x.2.1 (λi k=>if c<i/\i<x.1 then gC.tk (mV A c r i k) (mV A c r i c*gZ (mV A c r c c)%1000003) (mV A c r c k)else mV A c r i k) x.2.2) (λx=>n-x.1) (c+1,(N.set r nc).set c nr,aU g b (.row 1 (uS n ((N.set r nc).set c nr)))) ⟨by simp[cR,b6,if_pos q1,hcc,ek1],aB.le_refl _,wN c,hlt,by simp[hN],HS.congr λi _ k _=>by rw[if_neg aA]⟩ key.get
    ·have q2:c=r:=by omega
     subst q2
     simp -dsimp -implicitDefEqProofs only[go_sem,↓reduceIte,Tryz.f72,hgb,dJ hnr,dJ hnc,dU,hN,hgr,iS,cX,gO (A c) hlt]
     refine⟨hlt,?_⟩
     first|refine aH.mk (bA d (A c c) hd hArc) ?_|refine aF.mk (bA d (A c c) hd hArc) ?_|refine aH.bI (bA d (A c c) hd hArc) ?_|refine aF.mk (bC.dI (bA d (A c c) hd hArc)) ?_
     simp -dsimp -implicitDefEqProofs only[go_sem,↓reduceIte,Tryz.f72]
     refine cM aJ9 cU a57 (λx:Nat×List Nat×aB=>[(3,.os b 1 0 n),(4,I ((if c<c then(0-d)%1000003 else d)*mV A c c c c%1000003)),(5,I c),(8,I x.1)]) (λx=>x.2.2) (λx=>c<x.1/\x.1<=n/\x.2.1.length=n/\OM I h b n x.2.1 (λi k=>if c<i/\i<x.1 then gC.tk (mV A c c i k) (mV A c c i c*gZ (mV A c c c c)%1000003) (mV A c c c k)else mV A c c i k) x.2.2) (λx=>n-x.1) (c+1,N,g) ⟨by simp[cR,b6,hcc,ek1],aB.le_refl _,wN c,hlt,hN,H.congr λi _ k _=>by rw[if_neg aA,mV];by_cases e:i=c <;> simp[e]⟩ key.get
   case t =>
    have hd2:iW ((if c<r then(0-d)%1000003 else d)*mV A c r c c%1000003):=eO _
    have hE:∀ i,i<n->∀ k,k<n->iW (if c<i then gC.tk (mV A c r i k) (mV A c r i c*gZ (mV A c r c c)%1000003) (mV A c r c k)else mV A c r i k):=λi hi k hk=>by
     split
     ·exact eO _
     ·exact hB i hi k hk
    clear hpv hpr hnr hnc hgr H hgb hN hdt hcr hr q hcc hArc
    generalize hB':mV A c r=B at *
    generalize (if c<r then(0-d)%1000003 else d)*B c c%1000003=d2 at *
    rintro⟨i,N,G⟩ ⟨hi1,hi2,hN,H⟩
    simp only at hi1 hi2 hN H ⊢
    have hgb:=H.bk
    rcases bT i n with jO|aFB
    ·obtain⟨ni,hni⟩:∃ ni,N[i]?=some ni:=⟨_,eY aA⟩
     obtain⟨nc,hnc⟩:∃ nc,N[c]?=some nc:=⟨_,eY aA⟩
     have hgi:G ni=some (iS I (iN n (B i))):=by
      rw[H.get i ni hni]
      exact congrArg (λr=>some (iS I r)) (eW λk _=>by rw[if_neg aA])
     have hgc:G nc=some (iS I (iN n (B c))):=by
      rw[H.get c nc hnc]
      exact congrArg (λr=>some (iS I r)) (eW λk _=>by rw[if_neg aA])
     simp -dsimp -implicitDefEqProofs only[go_sem,↓reduceIte,Tryz.f72,jO,hgb,dJ hni,dJ hnc,dU,hN,hgi,hgc,iS,cX,gO (B i) hlt,gO (B c) hlt]
     refine λ_=>⟨hlt,hlt,hlt,hlt,?_⟩
     first|refine aH.mk (sN (B c c)) ?_|refine aF.mk (sN (B c c)) ?_|refine aH.bI (sN (B c c)) ?_|refine aF.mk (bC.dI (sN (B c c))) ?_
     simp -dsimp -implicitDefEqProofs only[go_sem,↓reduceIte,Tryz.f72,jO,hgb,dJ hni,dJ hnc,dU,hN,hgi,hgc,iS,cX,gO (B i) hlt,gO (B c) hlt]
     first|refine aH.mk (bA (B i c) (gZ (B c c)) (hB i jO c hlt) (num_inv _)) ?_|refine aF.mk (bA (B i c) (gZ (B c c)) (hB i jO c hlt) (num_inv _)) ?_|refine aH.bI (bA (B i c) (gZ (B c c)) (hB i jO c hlt) (num_inv _)) ?_|refine aF.mk (bC.dI (bA (B i c) (gZ (B c c)) (hB i jO c hlt) (num_inv _))) ?_
     simp -dsimp -implicitDefEqProofs only[go_sem,↓reduceIte,Tryz.f72,jO,hgb,dJ hni,dJ hnc,dU,hN,hgi,hgc,iS,cX,gO (B i) hlt,gO (B c) hlt]
     refine aH.gV (aS5 aA (hB i jO) (hB c hlt) (eO _) hgi hgc (H.apart hni hnc aA)) ?_
     rintro r_ h' rfl
     have HF:=H.set (B:=λi' k=>if c<i'/\i'<i+1 then gC.tk (B i' k) (B i' c*gZ (B c c)%1000003) (B c k)else B i' k) hni λi' hi' k _=>by
      by_cases e:c<i'/\i'<i
      ·rw[if_pos e,if_pos aA]
      ·rw[if_neg e,if_neg aA]
     have hrf:iN n ((λi' k=>if c<i'/\i'<i+1 then gC.tk (B i' k) (B i' c*gZ (B c c)%1000003) (B c k)else B i' k) i)=iN n λk=>gC.tk (B i k) (B i c*gZ (B c c)%1000003) (B c k):=eW λk _=>if_pos ⟨hi1,wN i⟩
     rw[hrf]at HF
     simp -dsimp -implicitDefEqProofs only[go_sem,↓reduceIte,Tryz.f72]
     exact⟨(i+1,N,aU G ni (iS I (iN n λk=>gC.tk (B i k) (B i c*gZ (B c c)%1000003) (B c k)))),IntWalk.i64_in _ aA,aB.le_refl _,⟨by omega,jO,hN,HF⟩,by simp only;omega⟩
    ·obtain rfl:i=n:=by omega
     simp -dsimp -implicitDefEqProofs only[go_sem,↓reduceIte,Tryz.f72,bU,cT,hgb,dU,hN]
     refine λ_=>⟨(c+1,(λi k=>if c<i then gC.tk (B i k) (B i c*gZ (B c c)%1000003) (B c k)else B i k),d2,N,G),⟨rfl,IntWalk.i64_in _ aA⟩,aB.le_refl _,⟨by omega,hN,hgo,hd2,hE,H.congr λi' hi' k _=>?_⟩,by simp only;omega⟩
     rw[hN]at hi'
     show(if c<i' then gC.tk (B i' k) (B i' c*gZ (B c c)%1000003) (B c k)else B i' k)=_
     by_cases e:c<i'
     ·rw[if_pos e,if_pos ⟨e,hi'⟩]
     ·rw[if_neg e,if_neg λz=>e z.1]
  ·obtain rfl:r=n:=by omega
   rw[sU,rQ]at hpv
   simp -dsimp -implicitDefEqProofs only[go_sem,↓reduceIte,Tryz.f72,bU,cT]
   rw[a56 aA hdt hpv.symm]
   exact λ_ _=>Shift.of (Sub.refl _) H.le
 ·obtain rfl:c=n:=by omega
  simp -dsimp -implicitDefEqProofs only[go_sem,↓reduceIte,Tryz.f72,bU,cT]
  rw[aS7,hdt]
  exact λ_=>Shift.of (Sub.refl _) H.le
structure OMW {α:Type} (c:α->aE) (h:aB) (b n:Nat) (P:Nat->Nat) (R:Nat->List α) (g:aB):Prop where
 inj:∀ i j,i<n->j<n->P i=P j->i=j
 out:∀ i,i<n->¬P i=b/\h (P i)=none
 get:∀ i,i<n->g (P i)=some (iS c (R i))
 bk:g b=some (.row 1 (iN n λi=>[Cell.v (.os (P i) 1 0 (R i).length)]))
 keep:∀ q o,h q=some o->g q=some o
 bn:h b=none
theorem OM.toW {α:Type} {c:α->aE} {h g:aB} {b w n:Nat} {N:List Nat} {A:Nat->Nat->α} (H:OM c h b w N A g) (hN:N.length=n):OMW c h b n (λi=>N.getD i 0) (λi=>iN w (A i)) g:=by
 have hg:∀ i,i<n->N[i]?=some (N.getD i 0):=λi hi=>by rw[gG,eY aA];rfl
 refine⟨λi j hi hj e=>(aV6 aA H.nodup).1 (by rw[hg i hi,hg j hj,e]),λi hi=>H.out _ (rS (hg i hi)),λi hi=>H.get i _ (hg i hi),?_,H.keep,H.bn⟩
 rw[H.bk]
 congr 2
 apply u4
 ·simp[uS,iN,hN]
 ·intro i h1 h2
  rw[cX]at h2
  simp only[uS,iN,rU,aLQ,p5,v7,gT,a2N]
  rw[gG,eY aA];rfl
theorem OMW.toM {α:Type} {c:α->aE} {h g:aB} {b w n:Nat} {P:Nat->Nat} {R:Nat->List α} {A:Nat->Nat->α} (H:OMW c h b n P R g) (hR:∀ i,i<n->R i=iN w (A i)):OM c h b w (iN n P) A g:=by
 have hm:∀ i m,(iN n P)[i]?=some m->i<n/\m=P i:=λi m e=>by
  have h1:=(iO.1 e).1
  rw[cX]at h1
  rw[gO P h1]at e
  exact⟨h1,(gH e).symm⟩
 refine⟨?_,λm hmm=>?_,λi m e=>?_,?_,H.keep,H.bn⟩
 ·rw[a2O,a2P]
  intro i j hi hj hij e
  rw[cX]at hi hj
  simp only[iN,rU,aLQ]at e
  have:=H.inj i j hi hj e
  omega
 ·obtain⟨i,hi,e⟩:=wM.1 hmm
  have:=hm i m (by rw[eY hi,e])
  rw[this.2];exact H.out i this.1
 ·obtain⟨h1,rfl⟩:=hm i m e
  rw[H.get i h1,hR i h1]
 ·rw[H.bk]
  congr 2
  apply u4
  ·simp[uS,iN]
  ·intro i h1 h2
   rw[cX]at h1
   simp only[uS,iN,rU,aLQ,p5,v7]
   rw[hR i h1,cX]
theorem OMW.put {α:Type} {c:α->aE} {h g F:aB} {b n i m:Nat} {P:Nat->Nat} {R:Nat->List α} (H:OMW c h b n P R g) (hi:i<n) (hm:g m=none) (l:List α) (h1:F m=some (iS c l)) (h2:F b=some (.row 1 ((iN n λi=>[Cell.v (.os (P i) 1 0 (R i).length)]).set i [Cell.v (.os m 1 0 l.length)]))) (h3:∀ q,¬q=m->¬q=b->¬q=P i->∀ o,g q=some o->F q=some o):OMW c h b n (λk=>if k=i then m else P k) (λk=>if k=i then l else R k) F:=by
 have hmP:∀ k,k<n->¬P k=m:=λk hk e=>by have:=H.get k hk;rw[e,hm]at this;cases this
 have hmb:¬m=b:=λe=>by rw[e,H.bk]at hm;cases hm
 have hmh:h m=none:=by
  cases hq:h m with
  |none=>rfl
  |some o=>rw[H.keep m o hq]at hm;cases hm
 refine⟨λj k hj hk e=>?_,λk hk=>?_,λk hk=>?_,?_,λq o hq=>?_,H.bn⟩
 ·by_cases e1:j=i
  ·by_cases e2:k=i
   ·rw[e1,e2]
   ·simp only[if_pos e1,if_neg e2]at e
    exact absurd e.symm (hmP k hk)
  ·by_cases e2:k=i
   ·simp only[if_neg e1,if_pos e2]at e
    exact absurd e (hmP j hj)
   ·simp only[if_neg e1,if_neg e2]at e
    exact H.inj j k hj hk e
 ·by_cases e:k=i
  ·simp only[if_pos e];exact⟨hmb,hmh⟩
  ·simp only[if_neg e];exact H.out k hk
 ·by_cases e:k=i
  ·simp only[if_pos e];exact h1
  ·simp only[if_neg e]
   exact h3 _ (hmP k hk) (H.out k hk).1 (λq=>e (H.inj k i hk hi q)) _ (H.get k hk)
 ·rw[h2,aHO]
  congr 2
  refine eW λk _=>?_
  by_cases e:k=i
  ·rw[if_pos e,if_pos e,if_pos e]
  ·rw[if_neg e,if_neg e,if_neg e]
 ·exact h3 q (λe=>by rw[e,hmh]at hq;cases hq) (λe=>by rw[e,H.bn]at hq;cases hq) (λe=>by rw[e,(H.out i hi).2]at hq;cases hq) o (H.keep q o hq)
theorem a1L {X:List Nat} (h:X.Nodup) {m:Nat} (hm:m∉X) (i:Nat):(X.set i m).Nodup:=by
 rw[a2O,a2P]at h ⊢
 intro a b ha hb hab e
 simp only[tW]at ha hb
 rw[aCS,aCS]at e
 by_cases e1:i=a
 ·rw[if_pos e1,if_neg aA]at e
  exact hm (e▸kM _)
 ·rw[if_neg e1]at e
  by_cases e2:i=b
  ·rw[if_pos e2]at e
   exact hm (e▸kM _)
  ·rw[if_neg e2]at e
   exact h a b ha hb hab e
theorem OM.bN7 {α:Type} {c:α->aE} {h g F:aB} {b w i j ni nj m:Nat} {N:List Nat} {A B:Nat->Nat->α} (H:OM c h b w N A g) (hi:N[i]?=some ni) (hj:N[j]?=some nj) (hm:g m=none) (h1:F m=some (iS c (iN w (B i)))) (h2:F b=some (.row 1 (uS w ((N.set j ni).set i m)))) (h3:∀ q,¬q=m->¬q=b->F q=g q) (hB:∀ k,¬k=i->∀ q,q<w->B k q=if k=j then A i q else A k q):OM c h b w ((N.set j ni).set i m) B F:=by
 obtain⟨f1,f2,f3⟩:=H.free hm
 have hil:=(iO.1 hi).1
 have hjl:=(iO.1 hj).1
 have hsw:(N.set j ni).set i m=((N.set i nj).set j ni).set i m:=by
  apply u4
  ·simp
  ·intro k q1 q2
   simp only[aCS]
   split
   ·rfl
   ·split <;> rfl
 have hnd:=aM0 H.nodup hi hj
 have hmem:∀ x,x∈((N.set i nj).set j ni).set i m->x∈N∨x=m:=λx hx=>by
  rcases wJ hx with hx|rfl
  ·rcases wJ hx with hx|rfl
   ·rcases wJ hx with hx|rfl
    ·exact .inl hx
    ·exact .inl (rS hj)
   ·exact .inl (rS hi)
  ·exact .inr rfl
 have hmN:m∉(N.set i nj).set j ni:=λhx=>by
  rcases wJ hx with hx|e
  ·rcases wJ hx with hx|e
   ·exact f2 hx
   ·exact f2 (e▸rS hj)
  ·exact f2 (e▸rS hi)
 rw[hsw]at h2 ⊢
 refine⟨?_,λx hx=>?_,λk x hk=>?_,h2,λq o hq=>?_,H.bn⟩
 ·exact a1L hnd hmN i
 ·rcases hmem x hx with hx|rfl
  ·exact H.out x hx
  ·exact⟨f1,f3⟩
 ·by_cases e:k=i
  ·subst e
   rw[qT (by simpa using hil)]at hk
   cases hk
   exact h1
  ·rw[rT (iK e)]at hk
   have hxm:¬x=m:=λq=>hmN (q▸rS hk)
   have hxN:x∈N:=by
    rcases hmem x (rS (by rw[rT (iK e)];exact hk))with q|q
    ·exact q
    ·exact absurd q hxm
   rw[h3 x hxm (H.out x hxN).1]
   by_cases e2:k=j
   ·subst e2
    rw[qT (by simpa using hjl)]at hk
    cases hk
    rw[H.get i _ hi]
    exact congrArg (λr=>some (iS c r)) (eW λq hq=>by rw[hB k e q hq,if_pos rfl])
   ·rw[rT (iK e2),rT (iK e)]at hk
    rw[H.get k _ hk]
    exact congrArg (λr=>some (iS c r)) (eW λq hq=>by rw[hB k e q hq,if_neg e2])
 ·rw[h3 q (λe=>by rw[e,f3]at hq;cases hq) (λe=>by rw[e,H.bn]at hq;cases hq)]
  exact H.keep q o hq
theorem a1M (a:List Int) (m:Int) (hm:iW m) (hl:a.length<=1048576) (ha:dW a):FnN Tryz.prog 131 [ints a,I m] (QS (OS (oP I) 1 (gW a m))):=by
 have hc:=wO a m
 refine aBE 24 aK9 aYC cF Tryz.func131 λh=>?_
 simp -dsimp -implicitDefEqProofs only[go_sem,↓reduceIte,Tryz.f131]
 refine⟨bD,?_⟩
 refine cM aK9 aYC cF (λx:Nat×Option Nat=>[(0,ints a),(1,I m),(5,fT 1 ((gW a m).take x.1).length x.2),(6,I x.1)]) (λx=>cP h (.row 1 ((((gW a m).take x.1).map λn=>[I n]).map (List.map .v))) x.2) (λx=>x.1<=a.length/\eM h ((gW a m).take x.1) x.2) (λx=>a.length-x.1) (0,none) ⟨by simp[cR,b6,fT],by simp only[aL];exact aB.le_refl _,eF _,by simp[eM]⟩ ?_
 rintro⟨k,o⟩ ⟨hk,hos⟩
 simp only at hk hos ⊢
 rcases bT k a.length with hlt|hge
 ·have ea:a[k]?=some a[k]:=eY hlt
  have hy:(gW a m).take (k+1)=(gW a m).take k++[(gW a m)[k]'aA]:=jF aA
  have hv:(gW a m)[k]'aA=a[k]*m%1000003:=by simp[gW]
  have hlk:((gW a m).take k).length=k:=by rw[mX];omega
  rw[hv]at hy
  cases o with
  |none =>
   rw[aY]at hos
   rw[hos]at hy ⊢
   simp -dsimp -implicitDefEqProofs only[go_sem,↓reduceIte,Tryz.f131,bE,aL,hlt,ea]
   intro _
   first|refine aH.mk (bA a[k] m (ha _ (kM hlt)) hm) ?_|refine aF.mk (bA a[k] m (ha _ (kM hlt)) hm) ?_|refine aH.bI (bA a[k] m (ha _ (kM hlt)) hm) ?_|refine aF.mk (bC.dI (bA a[k] m (ha _ (kM hlt)) hm)) ?_
   simp -dsimp -implicitDefEqProofs only[go_sem,↓reduceIte,Tryz.f131]
   repeat'(with_reducible first|intro _|refine And.intro ?_ ?_)
   all_goals try(first|omega|decide)
   rename_i b hb
   refine⟨(k+1,some b),?_⟩
   simp only[hy]
   refine⟨⟨rfl,?_⟩,aB.le_refl _,⟨by omega,hb⟩,by omega⟩
   rw[IntWalk.i64_in _ aA];rfl
  |some n =>
   rw[aQ]at hos
   simp -dsimp -implicitDefEqProofs only[go_sem,↓reduceIte,Tryz.f131,aR,aJ,hlt,ea]
   intro _
   first|refine aH.mk (bA a[k] m (ha _ (kM hlt)) hm) ?_|refine aF.mk (bA a[k] m (ha _ (kM hlt)) hm) ?_|refine aH.bI (bA a[k] m (ha _ (kM hlt)) hm) ?_|refine aF.mk (bC.dI (bA a[k] m (ha _ (kM hlt)) hm)) ?_
   simp -dsimp -implicitDefEqProofs only[go_sem,↓reduceIte,Tryz.f131]
   repeat'(with_reducible first|intro _|refine And.intro ?_ ?_)
   all_goals try(first|omega|decide|exact bX _)
   rename_i b hb
   refine⟨(k+1,some b),?_⟩
   simp only[hy,aJ,aR,aQ]
   refine⟨⟨by rw[gD];rfl,?_⟩,?_,⟨by omega,hb.2⟩,by omega⟩
   ·rw[IntWalk.i64_in _ aA];rfl
   ·rw[←dZ];exact jC hos
 ·have hk':k=a.length:=by omega
  subst hk'
  rw[nI aA]at hos ⊢
  simp -dsimp -implicitDefEqProofs only[go_sem,↓reduceIte,Tryz.f131,bU,cT]
  intro _
  obtain⟨y,hy,hv,hw⟩:=grown (c:=I) (sz:=1) hos
  exact⟨_,_,_,cD _ _,⟨y,hy,hv.symm,rfl⟩,hw⟩
@[go_sem] def aFJ:List Nat:=[0,1,4,5,6,7,8,9,10,11,12,18,37,48,75,80,101]
@[go_sem] def a1N:List Nat:=[31,97,113]
@[go_sem] def a1O:Marks:=λid=>match id with|5=>([5,11,13],(.op 0 (.op 1 (.op 2 (.op 3 (.op 4 (.op 6 (.op 7 (.op 8 (.op 9 (.op 10 (.op 5 (.op 11 (.op 12 (.op 13 .nil)))))))))))))),[])|19=>([3,7,11,14,15],(.op 0 (.op 1 (.op 2 (.op 4 (.op 5 (.op 6 (.op 8 (.op 9 (.op 10 (.op 12 (.op 3 (.op 7 (.op 11 (.op 13 (.op 14 (.op 15 .nil)))))))))))))))),[])|_=>([],.nil,[])
set_option maxHeartbeats 4000000 in
theorem a59 {n:Nat} (hn:1<=n/\n<=12) {L:List (List Int)} {rest:List Int} (hL:L.length=n) (hLw:∀ i,i<n->(L.getD i []).length=n) (hLn:∀ i,i<n->dW (L.getD i [])) (hrl:rest.length=n) (hrn:dW rest) {A0:Nat->Nat->Int} (bAT:sO gC n (qQ n (λi k=>(L.getD i []).getD k 0) λi=>rest.getD i 0) n=some A0):fE Tryz.prog 91 [bW L,ints rest] (ints (iN n λi=>A0 i n)):=by
 refine lS 116 aFJ a1N a1O Tryz.func91 λh=>?_
 simp -dsimp -implicitDefEqProofs only[go_sem,↓reduceIte,Tryz.f91]
 refine aH.gV (aZF aA aA hL hLw h) ?_
 rintro r g ⟨b,N,rfl,hN,H0⟩
 obtain⟨M,hM⟩:∃ M:Nat->Nat->Int,M=qQ n (λi k=>(L.getD i []).getD k 0) λi=>rest.getD i 0:=⟨_,rfl⟩
 have hMn:okM iW n M:=λi hi k hk=>by
  rw[hM];unfold qQ
  split
  ·exact(hLn i hi).get k
  ·exact hrn.get i
 have hrow:∀ i,i<n->iN n (λk=>(L.getD i []).getD k 0)++[rest.getD i 0]=iN (n+1) (M i):=λi hi=>by
  rw[hM,iN,iN,aV4,lT]
  congr 1
  ·exact zE λk hk=>by rw[qQ,if_pos (aGK.1 hk)]
  ·simp[qQ]
 rw[←hM]at bAT
 have HW:=H0.toW hN
 clear H0
 simp -dsimp -implicitDefEqProofs only[go_sem,↓reduceIte,Tryz.f91]
 refine cM aFJ a1N a1O (λx:Nat×(Nat->Nat)×(Nat->List Int)×aB=>[(1,ints rest),(5,.os b 1 0 n),(6,I x.1)]) (λx=>x.2.2.2) (λx=>x.1<=n/\(∀ i,i<n->x.2.2.1 i=if i<x.1 then iN (n+1) (M i)else iN n λk=>(L.getD i []).getD k 0)/\OMW I h b n x.2.1 x.2.2.1 x.2.2.2) (λx=>n-x.1) (0,_,_,g) ⟨by simp[cR,b6],aB.le_refl _,eF _,(λi hi=>by simp only[aP5,if_false];rfl),HW⟩ ?_
 clear HW
 rintro⟨k,P,R,g⟩ ⟨hk,hR,HW⟩
 simp only at hk hR HW ⊢
 have hgb:=HW.bk
 rcases bT k n with hlt|hge
 ·have hRk:=hR k hlt
  rw[if_neg (bU k)]at hRk
  have hgk:=HW.get k hlt
  have ek:(iN n λi=>[Cell.v (.os (P i) 1 0 (R i).length)])[k]?=some [Cell.v (.os (P k) 1 0 n)]:=by rw[gO _ hlt,hRk,cX]
  have erk:=cQ (l:=rest) (i:=k) aA
  simp -dsimp -implicitDefEqProofs only[go_sem,↓reduceIte,Tryz.f91,hlt,hgb,ek,cX,erk,hrl,hgk,iS,hRk]
  have hgr:List.take n (((iN n λk_1=>(L.getD k []).getD k_1 0).map λn=>[I n]).map (List.map Cell.v))++[[Cell.v (I (rest.getD k 0))]]=((iN (n+1) (M k)).map λn=>[I n]).map (List.map .v):=by rw[←hrow k hlt,←dZ I,cX]
  refine λ_=>⟨by decide,by decide,by decide,bX _,by omega,by omega,λm zm=>?_⟩
  obtain⟨uN,nC,nB,vM⟩:=cW (show ¬m=b from λe=>by rw[e,hgb]at zm;cases zm)
  have hPb:=(HW.out k hlt).1
  have eP1:(P k=b)=False:=eq_false hPb
  have eP2:(b=P k)=False:=eq_false (iK hPb)
  rw[hgr]
  simp -dsimp -implicitDefEqProofs only[go_sem,↓reduceIte,Tryz.f91,nC,nB,eP1,eP2,aC,hgb,ek,cX]
  generalize hF:aU (aU (aU g (P k) bV.gone) m _) b _=F
  have HF:=HW.put (F:=F) hlt zm (iN (n+1) (M k)) (by rw[←hF,aC _ _ _ _ uN,aI];rfl) (by rw[←hF,aI,cX]) λq q1 q2 q3 o ho=>by rw[←hF,aC _ _ _ _ q2,aC _ _ _ _ q1,aC _ _ _ _ q3];exact ho
  exact⟨(k+1,(λj=>if j=k then m else P j),(λj=>if j=k then iN (n+1) (M k)else R j),F),IntWalk.i64_in _ aA,aB.le_refl _,⟨hlt,λi hi=>by
   by_cases e:i=k
   ·simp only[if_pos e];rw[if_pos aA,e]
   ·simp only[if_neg e]
    rw[hR i hi]
    by_cases e2:i<k
    ·rw[if_pos e2,if_pos aA]
    ·rw[if_neg e2,if_neg aA],HF⟩,by simp only;omega⟩
 ·obtain rfl:k=n:=by omega
  have H:=HW.toM (w:=k+1) (A:=M) λi hi=>by rw[hR i hi,if_pos hi]
  have hN2:(iN k P).length=k:=cX _ _
  generalize iN k P=N at H hN2
  clear HW hR hgb hge
  simp -dsimp -implicitDefEqProofs only[go_sem,↓reduceIte,Tryz.f91,bU,cT]
  intro _
  refine cM aFJ a1N a1O (λx:Nat×(Nat->Nat->Int)×List Nat×aB=>[(5,.os b 1 0 k),(7,I x.1)]) (λx=>x.2.2.2) (λx=>x.1<=k/\x.2.2.1.length=k/\sO gC k M x.1=some x.2.1/\okM iW k x.2.1/\OM I h b (k+1) x.2.2.1 x.2.1 x.2.2.2) (λx=>k-x.1) (0,M,N,g) ⟨by simp[cR,b6],aB.le_refl _,eF _,hN2,rfl,hMn,H⟩ ?_
  clear H hN2
  rintro⟨c,A,N,g⟩ ⟨hc,hN,hgj,hA,H⟩
  simp only at hc hN hgj hA H ⊢
  have hgb:=H.bk
  rcases bT c k with hlt|hge
  ·have hne:¬rQ gC.z A c k (k-c)=k:=λe=>by rw[aS1 hlt hgj e]at bAT;cases bAT
   simp -dsimp -implicitDefEqProofs only[go_sem,↓reduceIte,Tryz.f91,hlt,hgb,dU,hN]
   intro _
   refine sM aFJ a1N a1O (λr:Nat=>[(5,.os b 1 0 k),(7,I c),(8,I r)]) (λr=>r<k/\c<=r/\rQ gC.z A c k (k-r)=rQ gC.z A c k (k-c)) (λr=>k-r) c ⟨by simp[cR,b6],hlt,bX _,rfl⟩ ?_
   rintro r ⟨hrk,hcr,hpv⟩
   obtain⟨nr,hnr⟩:∃ nr,N[r]?=some nr:=⟨_,eY aA⟩
   obtain⟨nc,hnc⟩:∃ nc,N[c]?=some nc:=⟨_,eY aA⟩
   have hpr:rQ gC.z A c k (k-r)=if gC.z (A r c)=true then rQ gC.z A c k (k-(r+1))else r:=by
    rw[show k-r=(k-(r+1))+1 by omega,rQ,show k-(k-(r+1)+1)=r by omega]
   have hgr:=H.get r nr hnr
   have hArc:=hA r hrk c aA
   obtain⟨a58,aKA,aKB,bHV⟩:=cW (show ¬nr=b from(H.out nr (rS hnr)).1)
   simp -dsimp -implicitDefEqProofs only[go_sem,↓reduceIte,Tryz.f91,hrk,hgb,dJ hnr,dU,hN,hgr,iS,cX,gO (A r) (show c<k+1 by omega),dJ hnc,aAO,tW,hlt,aKA,aKB,aC]
   refine⟨λq=>⟨r+1,IntWalk.i64_in _ aA,?_,by omega⟩,λq=>?_⟩
   ·rw[hpr,if_pos (show gC.z (A r c)=true from decide_eq_true q)]at hpv
    refine⟨?_,by omega,hpv⟩
    rcases bT (r+1) k with h1|h1
    ·exact h1
    ·rw[show k-(r+1)=0 by omega,rQ]at hpv
     exact absurd hpv.symm hne
   rw[hpr,if_neg (show ¬gC.z (A r c)=true from λe=>q (of_decide_eq_true e))]at hpv
   have hgo:=a54 hgj hrk hpv.symm
   have hB:okM iW k (mV A c r):=aU6 hlt hrk hA
   have hcc:mV A c r c c=A r c:=by rw[mV,if_pos rfl]
   first|refine aH.mk (sN (A r c)) ?_|refine aF.mk (sN (A r c)) ?_|refine aH.bI (sN (A r c)) ?_|refine aF.mk (bC.dI (sN (A r c))) ?_
   simp -dsimp -implicitDefEqProofs only[go_sem,↓reduceIte,Tryz.f91,hrk,hgb,dJ hnr,dU,hN,hgr,iS,cX,gO (A r) (show c<k+1 by omega),dJ hnc,aAO,tW,hlt,aKA,aKB,aC]
   have hsn:dW (iN (k+1) (A r)):=λx hx=>by
    obtain⟨q,hq,rfl⟩:=lA.1 hx
    have:=aGK.1 hq
    exact hA r hrk q aA
   have hsc:=a1M (iN (k+1) (A r)) (gZ (A r c)) (num_inv _) (by rw[cX];omega) hsn
   have hse:gW (iN (k+1) (A r)) (gZ (A r c))=iN (k+1) λq=>gC.dv (mV A c r c q) (mV A c r c c):=by
    rw[gW,iN,yS]
    exact zE λq _=>by simp[mV,gC]
   rw[hse]at hsc
   refine aH.wl0 hsc (lQ.cons (a51 (cX _ _).symm (by rw[aC _ _ _ _ a58];exact hgr)) (lQ.cons (View.same _ _) lQ.nil)) (QS.gE (λy hy=>OS.sol (λ_ _ q=>aUC (λ_=>rfl) q) hy) λ_ h=>h) ?_
   rintro r_ l_ g' ⟨y_,oy_,rfl,rfl⟩ wn_
   rcases oy_.y5 with⟨_,q_⟩|⟨ns,rfl⟩
   ·have:=congrArg List.length q_;rw[cX]at this;simp at this
   rw[OV.iZ]
   rw[OV.eD,gP,fQ]at wn_
   obtain⟨zns,rfl⟩:=wn_.rL
   obtain⟨a6A,bHX,bHY,bUK⟩:=cW (show ¬ns=b from λe=>by rw[e,aI]at zns;cases zns)
   rw[aC _ _ _ _ a6A]at zns
   have hx1:(N.set r nc)[c]?=some nc:=by
    by_cases e:r=c
    ·rw[e,qT aA]
    ·rw[rT e];exact hnc
   simp -dsimp -implicitDefEqProofs only[go_sem,↓reduceIte,Tryz.f91,bHX,bHY,aC,dU,tW,hN,hlt,cX,aAO,dJ hx1]
   generalize hB':mV A c r=B at *
   generalize hD:(λq=>gC.dv (B c q) (B c c))=D at *
   have hDn:∀ q,q<k+1->iW (D q):=λq _=>by rw[←hD];exact eO _
   have hz:¬B c c=0:=by rw[hcc];exact q
   generalize hF:aU (aU (aU g b _) ns _) b _=F
   have HF:=H.bN7 (F:=F) (B:=λi q=>if i=c then D q else B i q) hnc hnr zns (by rw[←hF,aC _ _ _ _ a6A,aI];exact congrArg (λr=>some (iS I r)) (eW λq _=>(if_pos rfl).symm)) (by rw[←hF,aI]) (λq q1 q2=>by rw[←hF,aC _ _ _ _ q2,aC _ _ _ _ q1,aC _ _ _ _ q2]) λi hi q _=>by rw[if_neg hi,←hB',mV,if_neg hi];by_cases e:i=r <;> simp[e]
   have hN2:((N.set r nc).set c ns).length=k:=by simp[hN]
   generalize (N.set r nc).set c ns=N2 at HF hN2
   clear hF zns hx1 H hgb hgr hnr hnc hpr hpv
   refine cM aFJ a1N a1O (λx:Nat×aB=>[(5,.os b 1 0 k),(7,I c),(10,I x.1)]) (λx=>x.2) (λx=>x.1<=k/\OM I h b (k+1) N2 (λi q=>if i=c then D q else if i<x.1 then gC.tk (B i q) (B i c) (D q)else B i q) x.2) (λx=>k-x.1) (0,F) ⟨by simp[cR,b6],aB.le_refl _,eF _,HF.congr λi _ q _=>by simp⟩ ?_
   rintro⟨i,G⟩ ⟨hi,H⟩
   simp only at hi H ⊢
   have hgb:=H.bk
   rcases bT i k with jO|aFB
   ·obtain⟨ni,hni⟩:∃ ni,N2[i]?=some ni:=⟨_,eY aA⟩
    obtain⟨nc,hnc⟩:∃ nc,N2[c]?=some nc:=⟨_,eY aA⟩
    have hgc:G nc=some (iS I (iN (k+1) D)):=by
     rw[H.get c nc hnc]
     exact congrArg (λr=>some (iS I r)) (eW λq _=>if_pos rfl)
    by_cases hic:i=c
    ·have HC:OM I h b (k+1) N2 (λi' q=>if i'=c then D q else if i'<i+1 then gC.tk (B i' q) (B i' c) (D q)else B i' q) G:=H.congr λi' _ q _=>by
      by_cases e:i'=c
      ·rw[if_pos e,if_pos e]
      ·rw[if_neg e,if_neg e]
       by_cases e2:i'<i
       ·rw[if_pos e2,if_pos aA]
       ·rw[if_neg e2,if_neg aA]
     simp -dsimp -implicitDefEqProofs only[go_sem,↓reduceIte,Tryz.f91,jO,hgb,dU,hN2]
     refine λ_=>⟨λq=>absurd aA q,λ_=>⟨(i+1,G),IntWalk.i64_in _ aA,aB.le_refl _,⟨jO,HC⟩,by simp only;omega⟩⟩
    ·have hgi:G ni=some (iS I (iN (k+1) (B i))):=by
      rw[H.get i ni hni]
      exact congrArg (λr=>some (iS I r)) (eW λq _=>by rw[if_neg hic,if_neg (bU i)])
     simp -dsimp -implicitDefEqProofs only[go_sem,↓reduceIte,Tryz.f91,jO,hgb,dJ hni,dJ hnc,dU,hN2,hgi,hgc,iS,cX,gO (B i) (show c<k+1 by omega)]
     refine λ_=>⟨λ_=>⟨hlt,by omega,?_⟩,λq=>absurd q hic⟩
     refine aH.gV (aS5 aA (λq hq=>hB i jO q (Nat.le_of_lt_succ hq)) (λq hq=>hDn q hq) (hB i jO c aA) hgi hgc (H.apart hni hnc hic)) ?_
     rintro r_ h' rfl
     have HF:=H.set (B:=λi' q=>if i'=c then D q else if i'<i+1 then gC.tk (B i' q) (B i' c) (D q)else B i' q) hni λi' hi' q _=>by
      by_cases e:i'=c
      ·rw[if_pos e,if_pos e]
      ·rw[if_neg e,if_neg e]
       by_cases e2:i'<i
       ·rw[if_pos e2,if_pos aA]
       ·rw[if_neg e2,if_neg aA]
     have hrf:iN (k+1) ((λi' q=>if i'=c then D q else if i'<i+1 then gC.tk (B i' q) (B i' c) (D q)else B i' q) i)=iN (k+1) λq=>gC.tk (B i q) (B i c) (D q):=eW λq _=>by simp[hic]
     rw[hrf]at HF
     simp -dsimp -implicitDefEqProofs only[go_sem,↓reduceIte,Tryz.f91]
     exact⟨(i+1,aU G ni (iS I (iN (k+1) λq=>gC.tk (B i q) (B i c) (D q)))),IntWalk.i64_in _ aA,aB.le_refl _,⟨jO,HF⟩,by simp only;omega⟩
   ·obtain rfl:i=k:=by omega
    simp -dsimp -implicitDefEqProofs only[go_sem,↓reduceIte,Tryz.f91,bU,cT,hgb,dU,hN2]
    refine λ_=>⟨(c+1,zB gC B c,N2,G),IntWalk.i64_in _ aA,aB.le_refl _,⟨hlt,hN2,hgo,aU7 aY8 hlt hB (decide_eq_false hz),H.congr λi' hi' q _=>?_⟩,by simp only;omega⟩
    rw[hN2]at hi'
    show zB gC B c i' q=_
    unfold zB
    by_cases e:i'=c
    ·rw[if_pos e,if_pos e,←hD]
    ·rw[if_neg e,if_neg e,if_pos hi',←hD]
  ·obtain rfl:c=k:=by omega
   simp -dsimp -implicitDefEqProofs only[go_sem,↓reduceIte,Tryz.f91,bU,cT,hgb,dU,hN]
   intro _
   obtain rfl:A=A0:=gH (hgj.symm.trans bAT)
   have hxl:(iN c λi=>A i c).length=c:=cX _ _
   refine⟨by decide,?_⟩
   refine cM aFJ a1N a1O (λx:Nat×Option Nat=>[(5,.os b 1 0 c),(11,fT 1 ((iN c λi=>A i c).take x.1).length x.2),(12,I x.1)]) (λx=>cP g (.row 1 ((((iN c λi=>A i c).take x.1).map λn=>[I n]).map (List.map .v))) x.2) (λx=>x.1<=c/\eM g ((iN c λi=>A i c).take x.1) x.2) (λx=>c-x.1) (0,none) ⟨by simp[cR,b6,fT],by simp only[aL];exact aB.le_refl _,eF _,by simp[eM]⟩ ?_
   rintro⟨k,o⟩ ⟨hk,hos⟩
   simp only at hk hos ⊢
   rcases bT k c with hlt|hge
   ·obtain⟨nk,hnk⟩:∃ nk,N[k]?=some nk:=⟨_,eY aA⟩
    have hgk:=H.get k nk hnk
    have hy:(iN c λi=>A i c).take (k+1)=(iN c λi=>A i c).take k++[A k c]:=by
     rw[jF aA];simp[iN]
    have hlk:((iN c λi=>A i c).take k).length=k:=by rw[mX];omega
    cases o with
    |none =>
     rw[aY]at hos
     rw[hos]at hy ⊢
     simp -dsimp -implicitDefEqProofs only[go_sem,↓reduceIte,Tryz.f91,bE,aL,hlt,hgb,dJ hnk,dU,hN,hgk,iS,cX,gO (A k) (wN c)]
     intro _
     repeat'(with_reducible first|intro _|refine And.intro ?_ ?_)
     all_goals try(first|omega|decide)
     rename_i b hb
     refine⟨(k+1,some b),?_⟩
     simp only[hy]
     refine⟨⟨rfl,?_⟩,aB.le_refl _,⟨by omega,hb⟩,by omega⟩
     rw[IntWalk.i64_in _ aA];rfl
    |some m =>
     rw[aQ]at hos
     obtain⟨uN,nC,nB,vM⟩:=cW (show ¬m=b from λe=>by rw[e,hgb]at hos;cases hos)
     obtain⟨bHR,aVD,aVC,bHQ⟩:=cW (show ¬m=nk from λe=>by rw[e,hgk]at hos;cases hos)
     simp -dsimp -implicitDefEqProofs only[go_sem,↓reduceIte,Tryz.f91,aR,aJ,hlt,hgb,dJ hnk,dU,hN,hgk,iS,cX,gO (A k) (wN c),nC,nB,aVD,aVC,aC]
     intro _
     repeat'(with_reducible first|intro _|refine And.intro ?_ ?_)
     all_goals try(first|omega|decide|exact bX _)
     rename_i b hb
     refine⟨(k+1,some b),?_⟩
     simp only[hy,aJ,aR,aQ]
     refine⟨⟨by rw[gD];rfl,?_⟩,?_,⟨by omega,hb.2⟩,by omega⟩
     ·rw[IntWalk.i64_in _ aA];rfl
     ·rw[←dZ];exact jC hos
   ·have hk':k=c:=by omega
    subst hk'
    rw[nI aA]at hos ⊢
    cases o with
    |none =>
     rw[aY]at hos
     simp -dsimp -implicitDefEqProofs only[go_sem,↓reduceIte,Tryz.f91,bE,aL,bU,cT]
     rw[hos]
     exact λ_=>Shift.of (Sub.loose _ _ _) H.le
    |some m =>
     rw[aQ]at hos
     simp -dsimp -implicitDefEqProofs only[go_sem,↓reduceIte,Tryz.f91,aR,aJ,bU,cT]
     refine λ_=>Shift.trans (kS ((iN k λi=>A i k).map λn=>[I n]) hos (aB.le_refl _) aH3 ?_) (eK H.le)
     simp[aE.fG,l5,nI]
@[go_sem] def bZO:List Nat:=[5,18]
@[go_sem] def bQ1:List Nat:=[0,1,2,6,7,8,9,13,18]
@[go_sem] def bXT:Marks:=λid=>match id with|8=>([],(.op 0 (.op 1 (.op 2 (.op 3 (.op 4 (.op 5 (.op 6 (.op 7 (.op 8 (.op 9 (.op 10 (.op 11 (.op 12 (.op 13 (.op 14 (.op 15 (.op 16 (.op 17 (.op 18 (.op 19 .nil)))))))))))))))))))),[])|_=>([],.nil,[])
@[go_sem] def bUL:List Nat:=[0,1,4,5,6,7,8,9,10,11,12,17,41,48,75]
@[go_sem] def bZP:List Nat:=[13,27,44,67]
@[go_sem] def bZQ:Marks:=λid=>match id with|14=>([14,17],(.op 0 (.op 1 (.op 2 (.op 3 (.op 4 (.op 5 (.op 6 (.op 7 (.op 8 (.op 9 (.op 10 (.op 11 (.op 12 (.op 13 (.op 14 (.op 15 (.op 16 (.op 17 (.op 18 .nil))))))))))))))))))),[])|19=>([3,10],(.op 0 (.op 1 (.op 2 (.op 4 (.op 5 (.op 6 (.op 7 (.op 8 (.op 3 (.op 9 (.op 10 .nil))))))))))),[])|_=>([],.nil,[])
def eqP (a b:Int):Bool:=decide (2<=a/\a<=7) && decide (b=a-1)
theorem aVE {a b:Int} (h:eqP a b=true):(2<=a/\a<=7)/\b=a-1:=by
 simp only[eqP,l7,decide_eq_true_eq]at h
 exact h
theorem aS9 (a b:Int):fE Tryz.prog 165 [I a,I b] (.bool (eqP a b)):=by
 refine fU 13 zX cU cF Tryz.func165 λh=>?_
 simp -dsimp -implicitDefEqProofs only[go_sem,↓reduceIte,Tryz.f165]
 first|refine aH.mk (within a 2 7) ?_|refine aF.mk (within a 2 7) ?_|refine aH.bI (within a 2 7) ?_|refine aF.mk (bC.dI (within a 2 7)) ?_
 simp -dsimp -implicitDefEqProofs only[go_sem,↓reduceIte,Tryz.f165]
 refine⟨λh=>?_,λh=>?_⟩
 ·rw[eqP,decide_eq_true h,Bool.true_and,IntWalk.i64_in _ aA]
 ·rw[eqP,decide_eq_false h,a7P]
theorem aVF (p:aG) (f:Int) (hps:p.s<=4194304):fE Tryz.prog 92 [.agg p.c,I f] (I (iR p f eqP)):=by
 have hif:=a5Y p f hps aS9
 simp only[aG.aZ]at hif ⊢
 refine fU 8 bMA a3X cF Tryz.func92 λh=>?_
 simp -dsimp -implicitDefEqProofs only[go_sem,↓reduceIte,Tryz.f92]
 first|refine aH.mk (hif) ?_|refine aF.mk (hif) ?_|refine aH.bI (hif) ?_|refine aF.mk (bC.dI (hif)) ?_
 simp -dsimp -implicitDefEqProofs only[go_sem,↓reduceIte,Tryz.f92]
@[go_sem] def bQ2:List Nat:=[0,1,4,5,9,26]
@[go_sem] def bQ3:List Nat:=[0,1,4,6,7,8,9,10,24]
@[go_sem] def aVG:List Nat:=[0,1,4,5,43]
@[go_sem] def bHZ:Marks:=λid=>match id with|2=>([11,22],(.op 0 (.op 1 (.op 2 (.op 3 (.op 4 (.op 5 (.op 6 (.op 7 (.op 8 (.op 9 (.op 10 (.op 11 (.op 12 (.op 13 (.op 14 (.op 15 (.op 16 (.op 17 (.op 18 (.op 19 (.op 20 (.op 21 (.op 23 (.op 24 (.op 25 (.op 26 (.op 27 (.op 28 (.op 29 (.op 30 (.op 31 (.op 22 (.op 32 (.op 33 (.op 34 .nil))))))))))))))))))))))))))))))))))),[])|_=>([],.nil,[])
theorem aTA (p:aG) (hps:p.s<=4194304) (f:Int):fE Tryz.prog 85 [.ip 1 [p.c] 0 0,I f] (I (iR p f eqP)):=by
 have hif:=a52 p hps f
 by_cases h1:p.ok
 ·by_cases h2:0<=f/\f<=(p.aK.length:Int)-1
  ·obtain⟨F,ef,e1,e2,e3⟩:=aJ4 h1 h2
   rw[if_pos h1,if_pos h2]at hif
   simp only[aG.aZ]at hif ⊢
   rw[e3]
   refine fU 45 aVG cU bHZ Tryz.func85 λh=>?_
   simp -dsimp -implicitDefEqProofs only[go_sem,↓reduceIte,Tryz.f85]
   first|refine aH.mk (hif) ?_|refine aF.mk (hif) ?_|refine aH.bI (hif) ?_|refine aF.mk (bC.dI (hif)) ?_
   simp -dsimp -implicitDefEqProofs only[go_sem,↓reduceIte,Tryz.f85,ef,aX.aZ]
   refine⟨h2.1,by omega,?_⟩
   first|refine aH.mk (fF F.aW 2 7) ?_|refine aF.mk (fF F.aW 2 7) ?_|refine aH.bI (fF F.aW 2 7) ?_|refine aF.mk (bC.dI (fF F.aW 2 7)) ?_
   simp -dsimp -implicitDefEqProofs only[go_sem,↓reduceIte,Tryz.f85,ef,aX.aZ]
   refine⟨λq=>⟨h2.1,by omega,h2.1,by omega,λ_=>?_⟩,λq=>?_⟩
   ·rw[IntWalk.i64_in (F.aW-1) aA,eqP,decide_eq_true q,Bool.true_and]
    exact⟨λq2=>by rw[decide_eq_false q2];rfl,λq2=>by rw[decide_eq_true q2];rfl⟩
   ·rw[eqP,decide_eq_false q,a7P];rfl
  ·rw[if_pos h1,if_neg h2]at hif
   have e:iR p f eqP=2:=by rw[iR,if_pos h1,if_neg h2]
   simp only[aG.aZ]at hif ⊢
   refine fU 45 aVG cU bHZ Tryz.func85 λh=>?_
   simp -dsimp -implicitDefEqProofs only[go_sem,↓reduceIte,Tryz.f85]
   first|refine aH.mk (hif) ?_|refine aF.mk (hif) ?_|refine aH.bI (hif) ?_|refine aF.mk (bC.dI (hif)) ?_
   simp -dsimp -implicitDefEqProofs only[go_sem,↓reduceIte,Tryz.f85]
   rw[e]
 ·rw[if_neg h1]at hif
  have e:iR p f eqP=1:=by rw[iR,if_neg h1]
  simp only[aG.aZ]at hif ⊢
  refine fU 45 aVG cU bHZ Tryz.func85 λh=>?_
  simp -dsimp -implicitDefEqProofs only[go_sem,↓reduceIte,Tryz.f85]
  first|refine aH.mk (hif) ?_|refine aF.mk (hif) ?_|refine aH.bI (hif) ?_|refine aF.mk (bC.dI (hif)) ?_
  simp -dsimp -implicitDefEqProofs only[go_sem,↓reduceIte,Tryz.f85]
  rw[e]
@[go_sem] def bUM:List Nat:=[0,1,2,6,7,35]
@[go_sem] def bUN:List Nat:=[0,1,2,3,6,7,24]
def tS (sz:Nat):List Int:=(cS 0 sz).set 1 1
theorem aKD (sz:Nat):(tS sz).length=sz:=by simp[tS,cS]
theorem r9 (sz:Nat):cS 0 sz=List.replicate sz 0:=by
 cases sz with
 |zero=>rfl
 |succ q=>rw[cS,aGH,aV0]
theorem bH0 (sz:Nat):bJ sz (tS sz):=⟨aKD sz,λx hx=>by
 rw[tS,r9]at hx
 rcases wJ hx with hx|rfl
 ·rw[(aH1.1 hx).2];exact qN
 ·decide⟩
theorem bAU {sz:Nat} (h:1<=sz):(tS sz).getD 0 0=0:=by
 obtain⟨q,rfl⟩:∃ q,sz=q+1:=⟨sz-1,by omega⟩
 rw[tS,r9,aGH];rfl
theorem bAV {sz:Nat} (hs:1<=sz/\sz<=1048576):fE Tryz.prog 145 [I sz] (ints (tS sz)):=by
 have hown:=aMY 0 hs
 have hc:=pL 0 sz
 refine lS 11 bC0 cU cF Tryz.func145 λh=>?_
 simp -dsimp -implicitDefEqProofs only[go_sem,↓reduceIte,Tryz.f145]
 refine aH.wn0 (hown) ?_
 rintro r_ l_ g ⟨y_,oy_,rfl,rfl⟩ wn_
 rcases oy_.y5 with⟨_,q_⟩|⟨m,rfl⟩
 ·rw[q_]at hc;simp at hc;omega
 rw[OV.iZ]
 rw[OV.eD,gP,fQ]at wn_
 obtain⟨zm,rfl⟩:=wn_.rL
 have e1:sz<=1->cS 0 sz=tS sz:=λq=>by rw[tS,List.set_eq_of_length_le (by rw[hc];exact q)]
 have e3:(cS 0 sz).length=(tS sz).length:=by rw[hc,aKD]
 simp -dsimp -implicitDefEqProofs only[go_sem,↓reduceIte,Tryz.f145,hc,mE]
 refine⟨λq=>⟨by omega,?_⟩,λq=>?_⟩
 ·have e5:(cS 0 sz)[Int.toNat 1]?=some 0:=by rw[r9,tY,if_pos (show Int.toNat 1<sz by rw[show Int.toNat 1=1 from rfl];omega)]
  simp -dsimp -implicitDefEqProofs only[go_sem,↓reduceIte,Tryz.f145,e5]
  rw[aO,show Int.toNat 1=1 from rfl,qM I,←tS]
  exact eT (tS sz) zm (aB.le_refl _) (aKD sz).symm
 ·rw[e1 aA]
  exact eT (tS sz) zm (aB.le_refl _) (aKD sz).symm
@[go_sem] def bAW:List Nat:=[0,2,3,8]
theorem aKE {sz:Nat} (hs:1<=sz/\sz<=1048576):fE Tryz.prog 110 [I ((sz:Int)-1)] (ints (tS sz)):=by
 have e2:=aDW (x:=[aE.int .i64 0]) hs.1
 have e1:IntKind.i64.wrap ((sz:Int)-1+1)=(sz:Int):=by rw[IntWalk.i64_in _ aA];omega
 refine lS 12 bAW cU cF Tryz.func110 λh=>?_
 simp -dsimp -implicitDefEqProofs only[go_sem,↓reduceIte,Tryz.f110,tX,e2,e1]
 refine⟨bD,bX _,by omega,by omega,λm hm=>⟨λq=>⟨by omega,?_⟩,λq=>?_⟩⟩
 ·have e4:(List.replicate sz [aE.int .i64 0])[Int.toNat 1]?=some [aE.int .i64 0]:=by rw[tY,if_pos (show Int.toNat 1<sz by rw[show Int.toNat 1=1 from rfl];omega)]
  simp -dsimp -implicitDefEqProofs only[go_sem,↓reduceIte,Tryz.f110,e4]
  rw[aO,show Int.toNat 1=1 from rfl,vF,qM I,←r9,←tS]
  exact eT (tS sz) hm (aB.le_refl _) (aKD sz).symm
 ·obtain rfl:sz=1:=by omega
  exact eT (tS 1) hm (aB.le_refl _) rfl
@[go_sem] def a6B:List Nat:=[0,2,3,4,14]
theorem bAX {y:List (List Int)} {sz:Nat} (hy:dH sz y.length y) (hl:1<=y.length/\y.length<=12) (hs:1<=sz/\sz<=1048576):fE Tryz.prog 68 [bW y] (bW (tS sz::y)):=by
 have ht:=bAV hs
 have e0:y[Int.toNat 0]?=some (y.getD 0 []):=(hy.get aA).1
 have e0l:=(hy.get (show 0<y.length by omega)).2.1
 refine lS 25 a6B aXL cF Tryz.func68 λh=>?_
 simp -dsimp -implicitDefEqProofs only[go_sem,↓reduceIte,Tryz.f68,e0,e0l]
 refine⟨by omega,λ_=>?_⟩
 first|refine aH.mk (ht) ?_|refine aF.mk (ht) ?_|refine aH.bI (ht) ?_|refine aF.mk (bC.dI (ht)) ?_
 simp -dsimp -implicitDefEqProofs only[go_sem,↓reduceIte,Tryz.f68]
 refine⟨bD,bD,?_⟩
 have hyl:=hy.1
 refine cM a6B aXL cF (λx:Nat×Option Nat=>[(0,bW y),(3,match x.2 with|none=>aE.sl 1 [[ints (tS sz)]] true|some b=>.os b 1 0 (x.1+1)),(4,I x.1)]) (λx=>cP h (.row 1 (((tS sz::y.take x.1).map λs=>[ints s]).map (List.map .v))) x.2) (λx=>x.1<=y.length/\match x.2 with|none=>x.1=0|some b=>h b=none) (λx=>y.length-x.1) (0,none) ⟨by simp[cR,b6],by simp only[aL];exact aB.le_refl _,eF _,rfl⟩ ?_
 rintro⟨k,o⟩ ⟨hk,hos⟩
 simp only at hk hos ⊢
 rcases bT k y.length with hlt|hge
 ·have ea:=(hy.get hlt).1
  have hy2:tS sz::y.take (k+1)=(tS sz::y.take k)++[y.getD k []]:=by
   rw[jF hlt,gG,eY hlt];rfl
  have hlk:(tS sz::y.take k).length=k+1:=by rw[tT,mX];omega
  cases o with
  |none =>
   simp only at hos
   subst hos
   simp -dsimp -implicitDefEqProofs only[go_sem,↓reduceIte,Tryz.f68,aL,hlt,ea]
   refine λ_=>⟨by decide,by decide,by decide,λb hb=>⟨(1,some b),⟨rfl,IntWalk.i64_in _ aA⟩,?_,⟨hlt,hb⟩,by simp only;omega⟩⟩
   have:=(List.cons.inj hy2).2
   simp only[aGG,a7N]at this
   simp only[this,aJ]
   exact aB.le_refl _
  |some m =>
   simp only at hos
   simp -dsimp -implicitDefEqProofs only[go_sem,↓reduceIte,Tryz.f68,aJ,hlt,ea,hlk]
   have hk2:(y.take k).length=k:=by rw[mX];omega
   refine λ_=>⟨by decide,by decide,by decide,by omega,by omega,by omega,λb hb=>⟨(k+1,some b),⟨rfl,IntWalk.i64_in _ aA⟩,?_,⟨hlt,hb.2⟩,by simp only;omega⟩⟩
   have:=(List.cons.inj hy2).2
   simp only[this,aJ]
   generalize y.take k=z at hk2 ⊢
   rw[show List.append z [y.getD k []]=z++[y.getD k []]from rfl]
   simp only[lT,p5,v7]
   rw[nI (by rw[gT,gT];omega)]
   exact jC hos
 ·obtain rfl:k=y.length:=by omega
  rw[nI (bX _)]
  cases o with
  |none=>simp only at hos;omega
  |some m =>
   simp only at hos
   simp -dsimp -implicitDefEqProofs only[go_sem,↓reduceIte,Tryz.f68,aJ,bU,cT]
   refine λ_=>kS ((tS sz::y).map λn=>[ints n]) hos (aB.le_refl _) aH3 ?_
   simp[aE.fG,l5,nI]
@[go_sem] def bEA:List Nat:=[6,16]
theorem without {S:List (List (List Int))} (hS:∀ r∈S,1<=r.length/\r.length<=1048576) (hl:S.length<=1048576):fE Tryz.prog 150 [rM S] (rM (S.map λr=>r.drop 1)):=by
 refine lS 20 aL7 bEA cF Tryz.func150 λh=>?_
 simp -dsimp -implicitDefEqProofs only[go_sem,↓reduceIte,Tryz.f150]
 refine⟨bD,λ_=>?_⟩
 have hcl:(S.map λr=>r.drop 1).length=S.length:=gT _
 refine cM aL7 bEA cF (λx:Nat×Option Nat=>[(3,fT 1 ((S.map λr=>r.drop 1).take x.1).length x.2),(7,rM S),(8,I S.length),(9,I x.1)]) (λx=>cP h (.row 1 ((((S.map λr=>r.drop 1).take x.1).map λn=>[bW n]).map (List.map .v))) x.2) (λx=>x.1<=S.length/\eM h ((S.map λr=>r.drop 1).take x.1) x.2) (λx=>S.length-x.1) (0,none) ⟨by simp[cR,b6,fT],by simp only[aL];exact aB.le_refl _,eF _,by simp[eM]⟩ ?_
 rintro⟨k,o⟩ ⟨hk,hos⟩
 simp only at hk hos ⊢
 rcases bT k S.length with hlt|hge
 ·have ea:S[k]?=some S[k]:=eY hlt
  have h1:=hS _ (kM hlt)
  have hy:(S.map λr=>r.drop 1).take (k+1)=(S.map λr=>r.drop 1).take k++[(S.map λr=>r.drop 1)[k]'aA]:=jF aA
  have hlk:((S.map λr=>r.drop 1).take k).length=k:=by rw[mX];omega
  rw[rU]at hy
  have hd:aE.sl 1 (List.drop (Int.toNat 1) (List.take S[k].length (List.map (λs=>[ints s]) S[k]))) false=bW (S[k].drop 1):=by
   rw[nI aWH,show Int.toNat 1=1 from rfl,←List.map_drop]
  cases o with
  |none =>
   rw[aY]at hos
   rw[hos]at hy ⊢
   simp -dsimp -implicitDefEqProofs only[go_sem,↓reduceIte,Tryz.f150,bE,aL,hlt,ea]
   rw[hd]
   repeat'(with_reducible first|intro _|refine And.intro ?_ ?_)
   all_goals try(first|omega|decide)
   rename_i b hb
   refine⟨(k+1,some b),?_⟩
   simp only[hy]
   refine⟨⟨rfl,?_⟩,aB.le_refl _,⟨by omega,hb⟩,by omega⟩
   rw[IntWalk.i64_in _ aA];rfl
  |some n =>
   rw[aQ]at hos
   simp -dsimp -implicitDefEqProofs only[go_sem,↓reduceIte,Tryz.f150,aR,aJ,hlt,ea]
   rw[hd]
   repeat'(with_reducible first|intro _|refine And.intro ?_ ?_)
   all_goals try(first|omega|decide|exact bX _)
   rename_i b hb
   refine⟨(k+1,some b),?_⟩
   simp only[hy,aJ,aR,aQ]
   refine⟨⟨by rw[gD];rfl,?_⟩,?_,⟨by omega,hb.2⟩,by omega⟩
   ·rw[IntWalk.i64_in _ aA];rfl
   ·rw[←dZ];exact jC hos
 ·have hk':k=S.length:=by omega
  subst hk'
  rw[nI aA]at hos ⊢
  cases o with
  |none =>
   rw[aY]at hos
   simp -dsimp -implicitDefEqProofs only[go_sem,↓reduceIte,Tryz.f150,bE,aL,bU,cT]
   rw[hos]
   exact Shift.of (Sub.loose _ _ _) (aB.le_refl _)
  |some m =>
   rw[aQ]at hos
   simp -dsimp -implicitDefEqProofs only[go_sem,↓reduceIte,Tryz.f150,aR,aJ,bU,cT]
   refine kS ((S.map λr=>r.drop 1).map λn=>[bW n]) hos (aB.le_refl _) aH3 ?_
   simp[aE.fG,l5,nI]
def fK (n:Nat) (M:Nat->Nat->List Int) (y:List (List Int)):List (List Int)×Bool:=match sO p0 n M n with
 |some A=>(iN n λi=>lN (y.getD i []) (A i n),true)
 |none=>([],false)
@[go_sem] def aVH:List Nat:=[0,1,2,6,7,8,9,10,11,12,20,22,23,24,25]
@[go_sem] def bH1:List Nat:=[21,36]
theorem bAY {d sz:Nat} (hn:1<=d/\d<=12) (hsz:1<=sz/\sz<=1048576) {y:List (List Int)} {a:List (List (List Int))} {B:List (List Int)} (hys:dH sz d y) (hal:a.length=d) (ha:∀ i,i<d->dH sz d (a.getD i [])) (hb:dH sz d B) {M:Nat->Nat->List Int} (hM:M=qQ d (λi k=>(a.getD i []).getD k []) λi=>B.getD i []) :
  FnN Tryz.prog 78 [bW y,rM a,bW B] (QS (OS (oL I) 1 (fK d M y).1) (λz=>.gU [z,.bool (fK d M y).2])):=by
 have hs:=solved hn hsz hal ha hb hM
 have hMok:okM (bJ sz) d M:=λi hi k hk=>by
  rw[hM];unfold qQ
  split
  ·exact((ha i hi).get lB).2
  ·exact(hb.get hi).2
 cases hA:sO p0 d M d with
 |none =>
  rw[aS2,hA]at hs
  rw[fK,hA]
  refine aBE 40 aVH bH1 cF Tryz.func78 λh=>?_
  simp -dsimp -implicitDefEqProofs only[go_sem,↓reduceIte,Tryz.f78]
  first|refine aH.mk (hs) ?_|refine aF.mk (hs) ?_|refine aH.bI (hs) ?_|refine aF.mk (bC.dI (hs)) ?_
  simp -dsimp -implicitDefEqProofs only[go_sem,↓reduceIte,Tryz.f78]
  exact⟨.gU [(OV.nil 1).val,.bool false],h,[],Shift.of (Sub.gU (.cons (Sub.nil 1 true) (.cons (.refl _) .nil))) (aB.le_refl _),⟨_,OS.nil,rfl,by rw[OV.qK]⟩,fH.nil h⟩
 |some A =>
  rw[aS2,hA]at hs
  rw[fK,hA]
  have hAs:=(aEA (aEB sz) hMok d (bX _) A hA).1
  simp only at hs ⊢
  generalize hX:(iN d λi=>A i d)=X at hs
  have hXg:∀ i,i<d->X[i]?=some (A i d):=λi hi=>by rw[←hX,gO _ hi]
  have hXl:X.length=d:=by rw[←hX,cX]
  have hyl:=hys.1
  obtain⟨Z,hZ⟩:∃ Z,Z=iN d λi=>lN (y.getD i []) (A i d):=⟨_,rfl⟩
  have hZl:Z.length=d:=by rw[hZ,cX]
  rw[←hZ]
  refine aBE 40 aVH bH1 cF Tryz.func78 λh=>?_
  simp -dsimp -implicitDefEqProofs only[go_sem,↓reduceIte,Tryz.f78]
  first|refine aH.mk (hs) ?_|refine aF.mk (hs) ?_|refine aH.bI (hs) ?_|refine aF.mk (bC.dI (hs)) ?_
  simp -dsimp -implicitDefEqProofs only[go_sem,↓reduceIte,Tryz.f78]
  refine⟨bD,λ_=>?_⟩
  refine cM aVH bH1 cF (λx:Nat×LLx=>[(8,bW X),(10,fT 1 x.1 x.2.1),(22,bW y),(23,I d),(24,I x.1)]) (λx=>LLH x.2) (λx=>x.1<=d/\LLG h (Z.take x.1) x.2) (λx=>d-x.1) (0,none,[],h) ⟨by simp[cR,b6,fT,hyl],aB.le_refl _,eF _,LLG.init _⟩ ?_
  rintro⟨k,op,es,g⟩ ⟨hk,H⟩
  simp only at hk H ⊢
  rcases bT k d with hlt|hge
  ·have ey:=hys.get hlt
   have eX:=hXg k hlt
   have hak:=hAs k hlt d aA
   have hy:Z.take (k+1)=Z.take k++[lN (y.getD k []) (A k d)]:=by
    rw[jF aA]
    congr 2
    simp[hZ,iN]
   have hlk:(Z.take k).length=k:=by rw[mX];omega
   have r8:=H.len
   simp only[hlk]at r8
   have hown:=aR4 (y.getD k []) (A k d) (by rw[hak.1,ey.2.1]) (by rw[ey.2.1];omega) ey.2.2 hak.2
   have hc:(lN (y.getD k []) (A k d)).length=sz:=(mU ey.2 hak).1
   cases op with
   |none =>
    obtain⟨h1,rfl,rfl⟩:=H.nil
    obtain rfl:k=0:=by rw[←hlk,h1];rfl
    simp -dsimp -implicitDefEqProofs only[go_sem,↓reduceIte,Tryz.f78,hlt,ey.1,eX,hXl,bE,LLH,aL]
    refine⟨by omega,?_⟩
    refine aH.wn0 (hown) ?_
    rintro r_ l_ g ⟨y_,oy_,rfl,rfl⟩ wn_
    rcases oy_.y5 with⟨_,q_⟩|⟨m,rfl⟩
    ·rw[q_]at hc;simp at hc;omega
    rw[OV.iZ]
    rw[OV.eD,gP,fQ]at wn_
    obtain⟨zm,rfl⟩:=wn_.rL
    simp -dsimp -implicitDefEqProofs only[go_sem,↓reduceIte,Tryz.f78,hc,bE]
    refine⟨bD,bD,bD,λb ⟨b1,b2⟩=>?_⟩
    obtain⟨x',e',H',L'⟩:=H.fin (m:=m) (b:=b) (s:=lN (y.getD 0 []) (A 0 d)) (hc) zm b2 b1 (aB.le_refl _)
    refine⟨(1,x'),⟨by simp only[e'];rfl,IntWalk.i64_in _ aA⟩,L',⟨hlt,by simp only;rw[hy];exact H'⟩,by simp only;omega⟩
   |some n =>
    simp -dsimp -implicitDefEqProofs only[go_sem,↓reduceIte,Tryz.f78,hlt,ey.1,eX,hXl,aR,LLH,aJ,cO,r8]
    refine⟨by omega,?_⟩
    refine aH.wn1 (hown) H.2.2 ?_
    rintro r_ l_ g' ⟨y_,oy_,rfl,rfl⟩ wn_ zn
    rcases oy_.y5 with⟨_,q_⟩|⟨m,rfl⟩
    ·rw[q_]at hc;simp at hc;omega
    rw[OV.iZ]
    rw[OV.eD,gP,fQ]at wn_
    obtain⟨zm,rfl⟩:=wn_.rL
    obtain⟨yZ,kW,kX,aGA⟩:=cW (show ¬m=n from λe=>by rw[e,aI]at zn;cases zn)
    simp -dsimp -implicitDefEqProofs only[go_sem,↓reduceIte,Tryz.f78,hc,kW,kX,aC,cO,r8,aR]
    refine⟨bD,bD,bD,bX _,by omega,by omega,λb ⟨bn,bm,bz⟩=>?_⟩
    rw[show List.take k (OV.cells es)=OV.cells es from r8▸eH es]
    refine⟨(k+1,some b,es++[oI m (lN (y.getD k []) (A k d))],aU g m (mE (lN (y.getD k []) (A k d)))),⟨rfl,IntWalk.i64_in _ aA⟩,?_,⟨hlt,by simp only;rw[hy];exact H.snoc (lN (y.getD k []) (A k d)) zm bz bm⟩,by simp only;omega⟩
    show(LLH (some b,es++[oI m (lN (y.getD k []) (A k d))],aU g m (mE (lN (y.getD k []) (A k d))))).le _
    rw[LLH.snoc,show List.length (lN (y.getD k []) (A k d))=_ from hc]
    exact aO9 H.2.2 yZ bn (λq hq=>by simp only[gB,if_neg hq];(repeat' split) <;> first|rfl|contradiction)
  ·obtain rfl:k=d:=by omega
   simp -dsimp -implicitDefEqProofs only[go_sem,↓reduceIte,Tryz.f78,bU,cT]
   rw[nI aA]at H
   obtain⟨z,hz,hv,hw⟩:=H.done
   rw[hZl]at hv
   rw[←hv]
   exact⟨_,LLH (op,es,g),_,cD _ _,⟨z,hz,rfl,rfl⟩,hw⟩
def hdY (y:List (List Int)):List Int:=0::y.map λs=>s.getD 0 0
structure rR (p:aG) (f:Int) (y:List (List Int)) (n sz:Nat):Prop where
 ok:p.ok
 fn:0<=f/\f<p.aK.length
 hn:1<=n/\n<=6
 hs:1<=sz/\sz<=13
 ser:dH sz n y
 hl:(hdY y).length=n+1
 ns:dW (hdY y)
 par:∀ F,p.aK[f.toNat]?=some F->((hdY y).length:Int)=F.aW
 outs:(p.outs f).length=n
 st:St (hdY y) sz (tS sz::y)
 e0:(y.getD 0 []).length=sz
theorem a6C {start:List Int} {sz:Nat} {X:List (List Int)} (hX:St start sz X):X.map (·.getD 0 0)=start:=by
 apply u4
 ·rw[gT,hX.1.1]
 ·intro i a b
  have:=hX.2 i b
  rw[gT]at a
  have h1:X[i]=X.getD i []:=by rw[gG,eY a];rfl
  have h2:start[i]=start.getD i 0:=by rw[gG,eY b];rfl
  rw[rU,h1,h2];exact this
theorem bEB {h g:aB} (c:Int) (hl:h.le g):Shift (.gU [.bS,.bS,I c]) g (.gU [bW [],rM [],I c]) h :=
 Shift.of (Sub.gU (.cons (Sub.nil 1 false) (.cons (Sub.nil 1 false) (.cons (.refl _) .nil)))) hl
theorem bAZ {p:aG} (hp:p.ok) (hps:p.s<=4194304) {sz:Nat} (hsz:1<=sz/\sz<=1048576) (f:Int) (hf:0<=f/\f<p.aK.length) {start:List Int} (ns:dW start) (hs:1<=start.length/\start.length<=12) (hl:∀ F,p.aK[f.toNat]?=some F->(start.length:Int)=F.aW) {c:Int} (hr:oE p f start=.error c) {X:List (List Int)} (hX:St start sz X) :
  fE Tryz.prog 58 [.agg p.c,I f,bW X] (.gU [bW [],rM [],I c]):=by
 have hfi:=aUL X (by rw[hX.1.1];omega) (λs hs'=>by rw[(hX.1.2 s hs').1];exact hsz.1)
 rw[a6C hX]at hfi
 have hrc:=aUP hp hps f hf start ns aA hl
 rw[show oZ p f start=(⟨0,[],[],[]⟩,c)by rw[oZ,hr]]at hrc
 have hc:=aDV p 1 f _ c (aEE hp hf ns hl hr).1
 simp only[aG.aZ,iM.aZ]at hrc ⊢
 refine lS 63 aVA bHI bHJ Tryz.func58 λh=>?_
 simp -dsimp -implicitDefEqProofs only[go_sem,↓reduceIte,Tryz.f58]
 first|refine aH.mk (hfi) ?_|refine aF.mk (hfi) ?_|refine aH.bI (hfi) ?_|refine aF.mk (bC.dI (hfi)) ?_
 simp -dsimp -implicitDefEqProofs only[go_sem,↓reduceIte,Tryz.f58]
 first|refine aH.mk (hrc) ?_|refine aF.mk (hrc) ?_|refine aH.bI (hrc) ?_|refine aF.mk (bC.dI (hrc)) ?_
 simp -dsimp -implicitDefEqProofs only[go_sem,↓reduceIte,Tryz.f58]
 exact λn zn=>⟨λ_=>by rw[aO];exact bEB c (aB.bM zn (aB.le_refl _)),λq=>absurd hc aA⟩
@[go_sem] def a6D:List Nat:=[0,1,2,3,6,7,8,9,10,11,12,28]
@[go_sem] def bN8:List Nat:=[3,16]
theorem aTB {p:aG} (hps:p.s<=4194304) {f:Int} {y:List (List Int)} {n sz:Nat} (G:rR p f y n sz) {L:List Int} {F:dO} {u:Nat} (hr:oE p f (hdY y)=.ok ((L,F),u)) (T:aMX p f (hdY y) L F u) :
  fE Tryz.prog 77 [.agg p.c,I f,bW y] (.gU [bW (L.map λr=>lR sz (tS sz::y) F.code r.toNat),rM ((tC F.code L (iD sz (tS sz::y) F.code F.code.length) sz (n+1)).map λr=>r.drop 1),I 0]):=by
 have ho:=aPA G.ser (by have:=G.hn;omega)
 have hsz:1<=sz/\sz<=1048576:=by have:=G.hs;omega
 have ht:=aKE hsz
 have hlin:=bHK G.ok hps hsz f G.fn G.ns a20 G.par hr T G.st
 rw[G.hl]at hlin
 have hw:=without (S:=tC F.code L (iD sz (tS sz::y) F.code F.code.length) sz (n+1)) (λr hr=>by
  obtain⟨o,_,rfl⟩:=lA.1 hr
  have:=(aAN (i:=o) hsz T.ins (uR T.ins G.st.1) T.outs).1
  rw[G.hl]at this
  have:=G.hn
  omega) (by
  rw[tC,gT,a2N,T.ll,G.outs]
  have:=G.hn
  omega)
 have hyl:=G.ser.1
 generalize (L.map λr=>lR sz (tS sz::y) F.code r.toNat)=A at *
 generalize tC F.code L (iD sz (tS sz::y) F.code F.code.length) sz (n+1)=B at *
 simp only[aG.aZ]at hlin ⊢
 refine lS 33 a6D bN8 cF Tryz.func77 λh=>?_
 simp -dsimp -implicitDefEqProofs only[go_sem,↓reduceIte,Tryz.f77]
 first|refine aH.mk (ho) ?_|refine aF.mk (ho) ?_|refine aH.bI (ho) ?_|refine aF.mk (bC.dI (ho)) ?_
 simp -dsimp -implicitDefEqProofs only[go_sem,↓reduceIte,Tryz.f77]
 first|refine aH.mk (ht) ?_|refine aF.mk (ht) ?_|refine aH.bI (ht) ?_|refine aF.mk (bC.dI (ht)) ?_
 simp -dsimp -implicitDefEqProofs only[go_sem,↓reduceIte,Tryz.f77]
 have hn:=G.hn
 refine⟨by decide,by decide,by decide,λq=>?_,λ_=>⟨by omega,by omega,λm hm=>?_⟩⟩
 ·rw[aV7.1 q]at hyl;simp at hyl;omega
 refine aH.a4T (n:=m) (es:=(tS sz::y).map λs=>[ints s]) hlin (by simp[j6,jB];omega) bKM ?_
 simp -dsimp -implicitDefEqProofs only[go_sem,↓reduceIte,Tryz.f77]
 first|refine aH.mk (hw) ?_|refine aF.mk (hw) ?_|refine aH.bI (hw) ?_|refine aF.mk (bC.dI (hw)) ?_
 simp -dsimp -implicitDefEqProofs only[go_sem,↓reduceIte,Tryz.f77]
 exact Shift.of (Sub.refl _) (aB.bM hm (aB.le_refl _))
theorem a1P {p:aG} (hps:p.s<=4194304) {f:Int} {y:List (List Int)} {n sz:Nat} (G:rR p f y n sz) {c:Int} (hr:oE p f (hdY y)=.error c) :
  fE Tryz.prog 77 [.agg p.c,I f,bW y] (.gU [bW [],rM [],I c]):=by
 have ho:=aPA G.ser (by have:=G.hn;omega)
 have hsz:1<=sz/\sz<=1048576:=by have:=G.hs;omega
 have ht:=aKE hsz
 have hlin:=bAZ G.ok hps hsz f G.fn G.ns a20 G.par hr G.st
 have hc:=aDV p 1 f _ c (aEE G.ok G.fn G.ns G.par hr).1
 have hyl:=G.ser.1
 simp only[aG.aZ]at hlin ⊢
 refine lS 33 a6D bN8 cF Tryz.func77 λh=>?_
 simp -dsimp -implicitDefEqProofs only[go_sem,↓reduceIte,Tryz.f77]
 first|refine aH.mk (ho) ?_|refine aF.mk (ho) ?_|refine aH.bI (ho) ?_|refine aF.mk (bC.dI (ho)) ?_
 simp -dsimp -implicitDefEqProofs only[go_sem,↓reduceIte,Tryz.f77]
 first|refine aH.mk (ht) ?_|refine aF.mk (ht) ?_|refine aH.bI (ht) ?_|refine aF.mk (bC.dI (ht)) ?_
 simp -dsimp -implicitDefEqProofs only[go_sem,↓reduceIte,Tryz.f77]
 have hn:=G.hn
 refine⟨by decide,by decide,by decide,λq=>?_,λ_=>⟨by omega,by omega,λm hm=>?_⟩⟩
 ·rw[aV7.1 q]at hyl;simp at hyl;omega
 refine aH.a4T (n:=m) (es:=(tS sz::y).map λs=>[ints s]) hlin (by simp[j6,jB];omega) bKM ?_
 simp -dsimp -implicitDefEqProofs only[go_sem,↓reduceIte,Tryz.f77]
 exact⟨λ_=>bEB c (aB.bM hm (aB.le_refl _)),λq=>absurd hc aA⟩
def aN (L:List Int) (F:dO) (sz:Nat) (y:List (List Int)):List (List (List Int)):=(tC F.code L (iD sz (tS sz::y) F.code F.code.length) sz (y.length+1)).map λr=>r.drop 1
def bN (L:List Int) (F:dO) (sz:Nat) (y:List (List Int)):List (List Int):=L.map λr=>lR sz (tS sz::y) F.code r.toNat
def mN (L:List Int) (F:dO) (sz:Nat) (y:List (List Int)):Nat->Nat->List Int:=qQ y.length (λi k=>((aN L F sz y).getD i []).getD k []) λi=>(bN L F sz y).getD i []
theorem rR.tape {p:aG} {f:Int} {y:List (List Int)} {n sz:Nat} (G:rR p f y n sz) {L:List Int} {F:dO} {u:Nat} (hr:oE p f (hdY y)=.ok ((L,F),u)):aMX p f (hdY y) L F u/\L.length=n:=by
 have T:=bNY G.ok G.fn G.ns a20 G.par hr
 exact⟨T,by rw[T.ll,G.outs]⟩
theorem rR.sys {p:aG} {f:Int} {y:List (List Int)} {sz:Nat} (G:rR p f y y.length sz) {L:List Int} {F:dO} {u:Nat} (hr:oE p f (hdY y)=.ok ((L,F),u)):(aN L F sz y).length=y.length/\(∀ i,i<y.length->dH sz y.length ((aN L F sz y).getD i []))/\dH sz y.length (bN L F sz y):=by
 obtain⟨T,hL⟩:=G.tape hr
 have hsz:1<=sz/\sz<=1048576:=by have:=G.hs;omega
 have hal:(aN L F sz y).length=y.length:=by simp[aN,tC,hL]
 refine⟨hal,λi hi=>?_,by rw[bN,gT,hL],λs hs=>?_⟩
 ·have h1:=aAN (i:=i) hsz T.ins (uR T.ins G.st.1) T.outs
  have e:(aN L F sz y).getD i []=(uQ F.code L (iD sz (tS sz::y) F.code F.code.length) sz (y.length+1) i).drop 1:=by
   rw[gG,eY aA]
   simp[aN,tC]
  rw[G.hl]at h1
  rw[e]
  exact⟨by rw[List.length_drop,h1.1];omega,λs hs=>h1.2 s (aZ8 hs)⟩
 ·obtain⟨r,hr',rfl⟩:=lA.1 hs
  have:=T.outs r hr'
  exact s9 T.ins G.st.1.2 (by rw[G.st.1.1]) _ aA
@[go_sem] def bUO:List Nat:=[0,1,2,3,6,7,8,9,10,11,12,13,19,30,40]
def uD (sz inp k:Nat):List (List Int):=(List.range inp).map λi=>if i=k then cS 1 sz else cS 0 sz
theorem a6E {sz:Nat} (inp k:Nat):dH sz inp (uD sz inp k):=⟨by simp[uD],λs hs=>by
 obtain⟨i,_,rfl⟩:=lA.1 hs
 split
 ·exact fS bO
 ·exact fS bO⟩
theorem aM1:∀ (j:Nat) (f:Nat->Int),eZ f (λ_=>0) j=0
 |0,f=>by rw[eZ];omega
 |j+1,f=>by rw[eZ,aM1 j];omega
theorem aM2 (a:Int) (k:Nat):∀ m,dT (λi=>if i=k then a else 0) m=if k<m then a else 0
 |0=>by simp[dT]
 |m+1=>by
  rw[dT,aM2 a k m]
  by_cases e:m=k
  ·rw[if_neg aA,if_pos e,if_pos aA];omega
  ·rw[if_neg e]
   by_cases e2:k<m
   ·rw[if_pos e2,if_pos aA];omega
   ·rw[if_neg e2,if_neg aA];omega
theorem a1Q (sz:Nat):sF (cS 0 sz)=λ_=>0:=funext λq=>by
 rw[sF,r9,gG,tY]
 split <;> rfl
theorem a1R {sz:Nat} (h:1<=sz):sF (cS 1 sz)=λq=>if q=0 then 1 else 0:=funext λq=>by
 obtain⟨m,rfl⟩:∃ m,sz=m+1:=⟨sz-1,by omega⟩
 rw[sF,cS,aGH,aV0]
 cases q with
 |zero=>rfl
 |succ q =>
  rw[if_neg aA,List.getD_cons_succ,gG,tY]
  split <;> rfl
theorem a6F {sz inp k:Nat} {row:List (List Int)} (hr:dH sz inp row) (hk:k<inp):aSS sz row (uD sz inp k) inp=row.getD k []:=by
 refine aY4 (aD9 hr inp (bX _)) (hr.get hk).2 λj hj=>?_
 refine(aJZ hj hr inp (bX _)).trans ?_
 refine Cg.of_eq (Eq.trans (lO (G:=λi=>if i=k then sF (row.getD k []) j else 0) inp λi hi=>?_) ((aM2 _ k inp).trans (if_pos hk)))
 have e:fA (uD sz inp k) i=if i=k then sF (cS 1 sz)else sF (cS 0 sz):=by
  rw[fA,uD,a1H hi]
  split <;> rfl
 rw[e]
 by_cases h:i=k
 ·rw[if_pos h,if_pos h,a1R aA,aHH,h];rfl
 ·rw[if_neg h,if_neg h,a1Q,aM1]
@[go_sem] def bUP:List Nat:=[0,1,2,6,7,8,9,10,11,12,13,21,31,38,59]
@[go_sem] def bZR:List Nat:=[26,34,44,72]
@[go_sem] def bZS:Marks:=λid=>match id with|19=>([5,11,13],(.op 0 (.op 1 (.op 2 (.op 3 (.op 4 (.op 6 (.op 7 (.op 8 (.op 9 (.op 10 (.op 5 (.op 11 (.op 12 (.op 13 .nil)))))))))))))),[])|_=>([],.nil,[])
end Go.Hl

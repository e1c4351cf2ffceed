/-
  Contracts of functions and laws of the layer over the walk.
-/
import Derived.Test.YtchbdakgjlnbgaaGreatDoorVvE
import Derived.Test.YtchbdakgjlnbgaaGreatDoorVvF
import Derived.Test.YtchbdakgjlnbgaaGreatDoorVvC
import Derived.Test.YtchbdakgjlnbgaaGreatDoorVvD
namespace Go.Hl
set_option maxRecDepth 100000
open Go.Proofs
set_option linter.unusedVariables false
set_option linter.unusedSimpArgs false
def aVX (X:Out (List (List Int))):List Int×Int×Int:=match X with
 | .ok (vs,t)=>(vs.map (·.getD 0 0),t,0)
 | .error c=>([],0,c)
theorem a2N {X:Out (List (List Int))} {l:List (List Int)} {t:Nat} {c:Int} (h:nS X l t c):aVX X=if c=0 then(l.map (·.getD 0 0),(t:Int),0)else([],0,c):=by
 cases X with
 |ok p =>
  obtain⟨w,u⟩:=p
  obtain⟨rfl,rfl,rfl⟩:=h
  rfl
 |error d =>
  obtain⟨rfl,h⟩:=h
  rw[if_neg h];rfl
theorem bNI (a b:List Int) (ha:a.length<=1000) (hb:b.length<=1000):dQ Tryz.prog 225 [ints a,ints b] (ints (a++b)):=by
 refine tQ 9 zG cG b9 Tryz.func225 λh=>?_
 simp -dsimp -implicitDefEqProofs only[go_sem,↓reduceIte,Tryz.f225]
 refine aH.wn0 (lN a aA) ?_
 rintro r l g ⟨y,oy,rfl,rfl⟩ wn
 rcases oy.zX with⟨rfl,ha0⟩|⟨n,rfl⟩
 ·subst ha0
  simp -dsimp -implicitDefEqProofs only[go_sem,↓reduceIte,Tryz.f225,OV.r7]
  refine⟨cM,λe=>?_,λ_=>⟨by omega,by omega,λn hn=>(mB b hn (Heap.le_refl _) rfl).trans (eD wn.le)⟩⟩
  have:b=[]:=by simpa using e
  subst this
  exact Shift.of (Sub.loose _ _ _) wn.le
 ·rw[OV.jX]
  have gn:g n=some (.row 1 ((a.map λn=>[I n]).map (List.map .v))):=by
   rw[OV.lM]at wn
   rw[←tH]
   exact wn.oJ (n,_) al5
  simp -dsimp -implicitDefEqProofs only[go_sem,↓reduceIte,Tryz.f225,gn]
  refine⟨cM,fL _,by omega,by omega,λm hm=>?_⟩
  rw[gF aS,←tA,←tA]
  exact mB (a++b) (Heap.le_none wn.le hm) (Heap.cD (Heap.aW (wn.fresh n (by rw[OV.lM];simp[cS])) wn.le)) (by rw[rL])
@[go_sem] def aPG:List Nat:=[0,1,2,6,7,8,9,10,11,12,13,14,22,46,56]
@[go_sem] def bBP:List Nat:=[18,30,31,47,52,66]
@[go_sem] def bBQ:Marks:=λid=>match id with|9=>([4],(.op 0 (.op 1 (.op 2 (.op 3 (.op 4 (.op 5 (.op 6 (.op 7 .nil)))))))),[])|15=>([4],(.op 0 (.op 1 (.op 2 (.op 3 (.op 4 (.op 5 (.op 6 (.op 7 .nil)))))))),[])|_=>([],.nil,[])
theorem bNJ {p:aK} (hp:p.ok) (f:Int) (hf:0<=f/\f<p.aJ.length) (args:List Int) (na:p4 args) (hal:args.length<=12) (hl:∀ F,p.aJ[f.toNat]?=some F->(args.length:Int)=F.bV) :
  dQ Tryz.prog 226 [.ip 1 [p.c] 0 0,I f,ints args] (.iF [ints (aVX (evF p 1 f (args.map λn=>[n]))).1,I (aVX (evF p 1 f (args.map λn=>[n]))).2.1,I (aVX (evF p 1 f (args.map λn=>[n]))).2.2]):=by
 obtain⟨F,ef,hF1,hF2,hF3,hF4⟩:=aGE hp hf
 have hlF:=hl F ef
 rw[aK.aM]
 refine tQ 73 aPG bBP bBQ Tryz.func226 λh=>?_
 simp -dsimp -implicitDefEqProofs only[go_sem,↓reduceIte,Tryz.f226]
 intro nb zb
 refine⟨cM,?_⟩
 have hbd:cF.row 4 [[Cell.v (.ip 1 [[cI 3 aX.c p.aJ]] 0 0),Cell.v (I 1),Cell.v (I 0),Cell.v (I 0)]]=fJ p 1 0 0:=rfl
 rw[hbd]
 have hB0:(bT h nb (fJ p 1 0 0)) nb=some (fJ p 1 0 0):=bG _ _ _
 have hBl:h.le (bT h nb (fJ p 1 0 0)):=Heap.aW zb (Heap.le_refl _)
 generalize hgB:bT h nb (fJ p 1 0 0)=hB at hB0 hBl ⊢
 refine a4V aPG bBP bBQ (λx:Nat×Option Nat=>[(0,.ip 1 [[cI 3 aX.c p.aJ]] 0 0),(1,I f),(2,ints args),(9,.op nb 4 0 0),(10,mX 1 (args.take x.1).length x.2),(11,I x.1)]) (λx=>c7 hB (.row 1 ((((args.take x.1).map λn=>[n]).map λs=>[ints s]).map (List.map .v))) x.2) (λx=>x.1<=args.length/\k7 hB (args.take x.1) x.2) (λx=>args.length-x.1) (0,none) ⟨by simp[dT,dB,mX],by simp only[aN];exact Heap.iO (Heap.le_refl _),iZ _,by simp[k7]⟩ ?_
 rintro⟨k,o⟩ ⟨hk,hos⟩
 simp only at hk hos ⊢
 rcases cP k args.length with hlt|hge
 ·have ea:args[k]?=some args[k]:=b6 hlt
  have hy:args.take (k+1)=args.take k++[args[k]]:=kP hlt
  have hlk:(args.take k).length=k:=by rw[nX];omega
  cases o with
  |none =>
   rw[cZ]at hos
   rw[hos]at hy ⊢
   simp -dsimp -implicitDefEqProofs only[go_sem,↓reduceIte,Tryz.f226,dD,aN,hlt,ea]
   intro _
   refine⟨cM,cM,cM,cM,cM,λb hb=>⟨(k+1,some b),?_⟩⟩
   simp only[hy]
   refine⟨⟨rfl,by rw[IntWalk.i64_in _ aA];rfl⟩,bBK (A:=[]) (x:=.sl 1 [[I args[k]]] true) (y:=ints [args[k]]) (bG _ _ _) (Sub.loose _ _ _) aP7,⟨by omega,hb⟩,by omega⟩
  |some n =>
   rw[b8]at hos
   simp -dsimp -implicitDefEqProofs only[go_sem,↓reduceIte,Tryz.f226,bZ,aL,hlt,ea]
   intro _
   refine⟨cM,cM,cM,cM,cM,fL _,by omega,by omega,λb hb=>⟨(k+1,some b),?_⟩⟩
   simp only[hy,aL,bZ,b8]
   refine⟨⟨by rw[rL];rfl,by rw[IntWalk.i64_in _ aA];rfl⟩,bBK (x:=.sl 1 [[I args[k]]] true) (y:=ints [args[k]]) (bG _ _ _) (Sub.loose _ _ _) ?_,⟨by omega,hb.2⟩,by omega⟩
   have hl2:(args.take k).length=((args.take k).map λn=>[n]).length:=by rw[k5]
   rw[aF,tA,show((args.take k).map λn=>[n])++[args[k]].map (λn=>[n])=((args.take k).map λn=>[n])++[[args[k]]]from rfl,←iX ints,hl2]
   exact nP hos
 have hk':k=args.length:=by omega
 subst hk'
 rw[eL]at hos ⊢
 have hserA:∀ s∈args.map (λn=>[n]),gO 1 s:=λs hs=>by
  obtain⟨n,hn,rfl⟩:=vZ.1 hs
  refine⟨rfl,λx hx=>?_⟩
  rw[rG.1 hx]
  exact na n hn
 have hlA:((args.map λn=>[n]).length:Int)=F.bV:=by rw[k5];exact hlF
 have hnbB:∀ {m:Nat},hB m=none->¬nb=m:=λhm e=>by rw[←e,hB0]at hm;cases hm
 cases o with
 |none =>
  rw[cZ]at hos
  subst hos
  simp -dsimp -implicitDefEqProofs only[go_sem,↓reduceIte,Tryz.f226,dD,aN,cN,fP,ef]
  refine⟨hf.1,by omega,?_⟩
  have ho:=aYA (run hp (by decide:1<=1/\1<=1048576) 3001) hB nb 0 0 F [] f hB0 aA aA aA (by rw[k5]at hlA;rw[show(([]:List (List Int)).length:Int)=F.bV from hlA];exact hF4) hf.1 aA aS aS
  refine aH.kF (gK.sub (.cons (.refl _) (.cons (Sub.ip (by rw[rM,ef];rfl) (by simp[aX.aM])) (.cons (Sub.loose _ _ _) .nil))) ho) ?_
  rintro r h' ⟨vs,t,c,rfl,rfl,hvl,hvs,a1,a2,a3⟩
  have hCl:h.le (bT hB nb (fJ p 1 t c)):=Heap.aW zb hBl
  have hCn:(bT hB nb (fJ p 1 t c)) nb=some (.row 4 [[.v (.ip 1 [p.c] 0 0),.v (I 1),.v (I t),.v (I c)]]):=bG _ _ _
  generalize bT hB nb (fJ p 1 t c)=hC at hCn hCl ⊢
  rw[gD,←hF3]at a3
  simp -dsimp -implicitDefEqProofs only[go_sem,↓reduceIte,Tryz.f226,hCn]
  have hev:=a2N (show nS (evF p 1 f _) vs t c from a3)
  refine⟨λhc=>⟨cM,?_⟩,λhc=>⟨cM,?_⟩⟩
  ·try simp only[tP]
   rw[hev,if_neg hc]
   exact Shift.of (Sub.iF (.cons (Sub.loose _ _ _) (.cons (.refl _) (.cons (.refl _) .nil)))) hCl
  subst hc
  rw[if_pos rfl]at hev
  have hcv:(vs.map λs=>s.getD 0 0).length=vs.length:=k5 _
  refine cY aPG bBP bBQ (λx:Nat×Option Nat=>[(9,.op nb 4 0 0),(12,oL vs),(13,mX 1 ((vs.map λs=>s.getD 0 0).take x.1).length x.2),(14,I x.1)]) (λx=>c7 hC (.row 1 ((((vs.map λs=>s.getD 0 0).take x.1).map λn=>[I n]).map (List.map .v))) x.2) (λx=>x.1<=vs.length/\k7 hC ((vs.map λs=>s.getD 0 0).take x.1) x.2) (λx=>vs.length-x.1) (0,none) ⟨by simp[dT,dB,mX],by simp only[aN];exact Heap.le_refl _,iZ _,by simp[k7]⟩ ?_
  rintro⟨k,o⟩ ⟨hk,hos⟩
  simp only at hk hos ⊢
  rcases cP k vs.length with hlt|hge
  ·have ea:vs[k]?=some vs[k]:=b6 hlt
   have h0:=hvs _ (dG hlt)
   have e0:(vs[k])[Int.toNat 0]?=some (vs[k].getD 0 0):=fU (by rw[h0.1];decide)
   have h0l:=h0.1
   have hy:(vs.map λs=>s.getD 0 0).take (k+1)=(vs.map λs=>s.getD 0 0).take k++[(vs.map λs=>s.getD 0 0)[k]'aA]:=kP aA
   have hlk:((vs.map λs=>s.getD 0 0).take k).length=k:=by rw[nX];omega
   rw[List.getElem_map]at hy
   cases o with
   |none =>
    rw[cZ]at hos
    rw[hos]at hy ⊢
    simp -dsimp -implicitDefEqProofs only[go_sem,↓reduceIte,Tryz.f226,dD,aN,hlt,ea,e0]
    repeat'(with_reducible first|intro _|refine And.intro ?_ ?_)
    all_goals try(first|omega|decide)
    rename_i b hb
    refine⟨(k+1,some b),?_⟩
    simp only[hy]
    refine⟨⟨rfl,?_⟩,Heap.le_refl _,⟨by omega,hb⟩,by omega⟩
    rw[IntWalk.i64_in _ aA];rfl
   |some n =>
    rw[b8]at hos
    simp -dsimp -implicitDefEqProofs only[go_sem,↓reduceIte,Tryz.f226,bZ,aL,hlt,ea,e0]
    repeat'(with_reducible first|intro _|refine And.intro ?_ ?_)
    all_goals try(first|omega|decide|exact fL _)
    rename_i b hb
    refine⟨(k+1,some b),?_⟩
    simp only[hy,aL,bZ,b8]
    refine⟨⟨by rw[rL];rfl,?_⟩,?_,⟨by omega,hb.2⟩,by omega⟩
    ·rw[IntWalk.i64_in _ aA];rfl
    ·rw[←iX];exact nP hos
  ·have hk':k=vs.length:=by omega
   subst hk'
   rw[gF aA]at hos ⊢
   cases o with
   |none =>
    rw[cZ]at hos
    simp -dsimp -implicitDefEqProofs only[go_sem,↓reduceIte,Tryz.f226,dD,aN,cN,fP,hCn]
    intro _
    try simp only[tP]
    rw[hev,hos]
    exact Shift.of (Sub.iF (.cons (Sub.loose _ _ _) (.cons (.refl _) (.cons (.refl _) .nil)))) hCl
   |some n =>
    rw[b8]at hos
    obtain⟨a7H,aA4,aA5,a7I⟩:=cE (show ¬n=nb from λe=>by rw[e,hCn]at hos;cases hos)
    simp -dsimp -implicitDefEqProofs only[go_sem,↓reduceIte,Tryz.f226,bZ,aL,cN,fP,aD,aA4,aA5,hCn]
    intro _
    try simp only[tP]
    rw[hev]
    refine Shift.trans (nU ((vs.map λs=>s.getD 0 0).map λn=>[I n]) hos (Heap.le_refl _) (by simp[lJ,lK]) ?_) (eD hCl)
    simp[aC.gU,nZ,gF]
 |some n =>
  rw[b8]at hos
  simp -dsimp -implicitDefEqProofs only[go_sem,↓reduceIte,Tryz.f226,bZ,aL,cN,fP,ef]
  intro _
  refine⟨hf.1,by omega,?_⟩
  have hnn:=hnbB hos
  refine aH.aN2 rfl rfl hnn (by rw[k5,k5]) hos ?_
  have ho:=aYA (run hp (by decide:1<=1/\1<=1048576) 3001) (bT hB n .gone) nb 0 0 F (args.map λn=>[n]) f (by rw[aD _ _ _ _ hnn];exact hB0) aA aA aA (by rw[hlA];exact hF4) hf.1 aA hserA (by rw[k5];omega)
  refine gK.mono (gK.sub (.cons (.refl _) (.cons (Sub.ip (by rw[rM,ef];rfl) (by simp[aX.aM])) (.cons (.refl _) .nil))) ho) ?_
  rintro r h' ⟨vs,t,c,rfl,rfl,hvl,hvs,a1,a2,a3⟩
  have hhn:h n=none:=by rw[←hgB,aD _ _ _ _ (iR hnn)]at hos;exact hos
  have hCl:h.le (bT (bT hB n .gone) nb (fJ p 1 t c)):=Heap.aW zb (Heap.aW hhn hBl)
  have hCn:(bT (bT hB n .gone) nb (fJ p 1 t c)) nb=some (.row 4 [[.v (.ip 1 [p.c] 0 0),.v (I 1),.v (I t),.v (I c)]]):=bG _ _ _
  generalize bT (bT hB n .gone) nb (fJ p 1 t c)=hC at hCn hCl ⊢
  rw[gD,←hF3]at a3
  simp -dsimp -implicitDefEqProofs only[go_sem,↓reduceIte,Tryz.f226,hCn]
  have hev:=a2N (show nS (evF p 1 f _) vs t c from a3)
  refine⟨λhc=>⟨cM,?_⟩,λhc=>⟨cM,?_⟩⟩
  ·try simp only[tP]
   rw[hev,if_neg hc]
   exact Shift.of (Sub.iF (.cons (Sub.loose _ _ _) (.cons (.refl _) (.cons (.refl _) .nil)))) hCl
  subst hc
  rw[if_pos rfl]at hev
  have hcv:(vs.map λs=>s.getD 0 0).length=vs.length:=k5 _
  refine cY aPG bBP bBQ (λx:Nat×Option Nat=>[(9,.op nb 4 0 0),(12,oL vs),(13,mX 1 ((vs.map λs=>s.getD 0 0).take x.1).length x.2),(14,I x.1)]) (λx=>c7 hC (.row 1 ((((vs.map λs=>s.getD 0 0).take x.1).map λn=>[I n]).map (List.map .v))) x.2) (λx=>x.1<=vs.length/\k7 hC ((vs.map λs=>s.getD 0 0).take x.1) x.2) (λx=>vs.length-x.1) (0,none) ⟨by simp[dT,dB,mX],by simp only[aN];exact Heap.le_refl _,iZ _,by simp[k7]⟩ ?_
  rintro⟨k,o⟩ ⟨hk,hos⟩
  simp only at hk hos ⊢
  rcases cP k vs.length with hlt|hge
  ·have ea:vs[k]?=some vs[k]:=b6 hlt
   have h0:=hvs _ (dG hlt)
   have e0:(vs[k])[Int.toNat 0]?=some (vs[k].getD 0 0):=fU (by rw[h0.1];decide)
   have h0l:=h0.1
   have hy:(vs.map λs=>s.getD 0 0).take (k+1)=(vs.map λs=>s.getD 0 0).take k++[(vs.map λs=>s.getD 0 0)[k]'aA]:=kP aA
   have hlk:((vs.map λs=>s.getD 0 0).take k).length=k:=by rw[nX];omega
   rw[List.getElem_map]at hy
   cases o with
   |none =>
    rw[cZ]at hos
    rw[hos]at hy ⊢
    simp -dsimp -implicitDefEqProofs only[go_sem,↓reduceIte,Tryz.f226,dD,aN,hlt,ea,e0]
    repeat'(with_reducible first|intro _|refine And.intro ?_ ?_)
    all_goals try(first|omega|decide)
    rename_i b hb
    refine⟨(k+1,some b),?_⟩
    simp only[hy]
    refine⟨⟨rfl,?_⟩,Heap.le_refl _,⟨by omega,hb⟩,by omega⟩
    rw[IntWalk.i64_in _ aA];rfl
   |some n =>
    rw[b8]at hos
    simp -dsimp -implicitDefEqProofs only[go_sem,↓reduceIte,Tryz.f226,bZ,aL,hlt,ea,e0]
    repeat'(with_reducible first|intro _|refine And.intro ?_ ?_)
    all_goals try(first|omega|decide|exact fL _)
    rename_i b hb
    refine⟨(k+1,some b),?_⟩
    simp only[hy,aL,bZ,b8]
    refine⟨⟨by rw[rL];rfl,?_⟩,?_,⟨by omega,hb.2⟩,by omega⟩
    ·rw[IntWalk.i64_in _ aA];rfl
    ·rw[←iX];exact nP hos
  ·have hk':k=vs.length:=by omega
   subst hk'
   rw[gF aA]at hos ⊢
   cases o with
   |none =>
    rw[cZ]at hos
    simp -dsimp -implicitDefEqProofs only[go_sem,↓reduceIte,Tryz.f226,dD,aN,cN,fP,hCn]
    intro _
    try simp only[tP]
    rw[hev,hos]
    exact Shift.of (Sub.iF (.cons (Sub.loose _ _ _) (.cons (.refl _) (.cons (.refl _) .nil)))) hCl
   |some n =>
    rw[b8]at hos
    obtain⟨a7H,aA4,aA5,a7I⟩:=cE (show ¬n=nb from λe=>by rw[e,hCn]at hos;cases hos)
    simp -dsimp -implicitDefEqProofs only[go_sem,↓reduceIte,Tryz.f226,bZ,aL,cN,fP,aD,aA4,aA5,hCn]
    intro _
    try simp only[tP]
    rw[hev]
    refine Shift.trans (nU ((vs.map λs=>s.getD 0 0).map λn=>[I n]) hos (Heap.le_refl _) (by simp[lJ,lK]) ?_) (eD hCl)
    simp[aC.gU,nZ,gF]
def c6 (p:aK) (inp:Int) (S:eE) (om og ov:Option Nat):cF :=
 .row 6 [[.v (.ip 1 [[cI 3 aX.c p.aJ]] 0 0),.v (I inp),.v (jV 4 S.code.length om),.v (jV 2 S.guards.length og),.v .aV,.v (jV 1 S.iG.length ov)]]
theorem a2O (p:aK) (inp:Int):∀ S om og ov,∃ sz cs,c6 p inp S om og ov=.row sz cs/\¬sz=1/\¬sz=2/\¬sz=4:=λS om og ov=>⟨6,_,rfl,by decide,by decide,by decide⟩
@[go_sem] def bRB:List Nat:=[4,14,25]
@[go_sem] def bRC:Marks:=λid=>match id with|1=>([5,8,12],(.op 0 (.op 1 (.op 2 (.op 3 (.op 4 (.op 6 (.op 7 (.op 5 (.op 8 (.op 9 (.op 10 (.op 11 (.op 12 .nil))))))))))))),[])|_=>([],.nil,[])
theorem aFY {h0 h:Heap} {nb:Nat} {p:aK} {inp:Int} {S:eE} (H:eC (c6 p inp) h0 nb S h) (x:cO) (v:Int) (hl:S.code.length=S.iG.length) (hcap:S.iG.length<=1048576) :
  gK Tryz.prog 249 [.op nb 6 0 0,.agg x.c,I v] h λr h'=>r=I S.iG.length/\eC (c6 p inp) h0 nb (S.put x v) h':=by
 obtain⟨om,og,ov,H⟩:=H
 have hb:=H.box
 have hc:=H.code
 have hv:=H.iG
 unfold c6 at hb
 rw[cO.aM]
 cases om with
 |none =>
  have hc0:S.code=[]:=jT.1 hc
  cases ov with
  |some v =>
   have hv0:S.iG=[]:=aPW (by rw[←hl,hc0];rfl)
   exact absurd (by rw[hv0];rfl) hv.1
  |none =>
   have hv0:S.iG=[]:=jT.1 hv
   refine lW 36 bAE bRB bRC Tryz.func249 ?_
   simp -dsimp -implicitDefEqProofs only[go_sem,↓reduceIte,Tryz.f249,hb,bJ]
   refine⟨by decide,by decide,by decide,λm hm=>?_⟩
   obtain⟨mM,fC,e8,kK⟩:=cE (show ¬m=nb from λe=>by rw[e,hb]at hm;cases hm)
   simp -dsimp -implicitDefEqProofs only[go_sem,↓reduceIte,Tryz.f249,hb,bJ,fC,e8,aD]
   refine⟨by decide,by decide,by decide,λw ⟨hwb,hwm,hw⟩=>?_⟩
   obtain⟨aMH,oV,oW,aYI⟩:=cE (show ¬w=nb from hwb)
   obtain⟨a2G,aAR,aAS,a8Y⟩:=cE (show ¬w=m from hwm)
   try simp -dsimp -implicitDefEqProofs only[go_sem,↓reduceIte,Tryz.f249,hb,fC,aAS,e8,oW,aAR,oV,aD]
   obtain⟨g,hg,hR⟩:=H.put x v hm hw a2G (F:=bT (bT (bT h m (.row 4 [x.c.map .v])) w (.row 1 [[.v (I v)]])) nb (c6 p inp (S.put x v) (some m) og (some w))) (bG _ _ _)
    bO3 (by rw[aD _ _ _ _ aMH,bG,hv0];rfl) (λn h1 h2 h3 _ _=>by rw[aD _ _ _ _ h1,aD _ _ _ _ h3,aD _ _ _ _ h2])
   refine⟨_,g,eD (Heap.le_trans hg ?_),by rw[hv0];rfl,hR⟩
   unfold c6
   simp only[eE.put,hc0,hv0,aY,cO.aM,al0,yV,lU,tP]
   exact(jM (by repeat'(first|exact gN _ _|refine jN (by simp only[fN,↓reduceIte,eq_self,if_true,fC,aAS,e8,oW,aAR,oV]) ?_|refine fS oZ ?_)))
 |some m =>
  cases ov with
  |none =>
   have hv0:S.iG=[]:=jT.1 hv
   have hc0:S.code=[]:=aPW (by rw[hl,hv0];rfl)
   exact absurd (by rw[hc0];rfl) hc.1
  |some w =>
   have hm:=hc.2
   have hw:=hv.2
   obtain⟨mM,fC,e8,kK⟩:=cE (show ¬m=nb from λe=>by rw[e,hb]at hm;cases hm)
   obtain⟨aMH,oV,oW,aYI⟩:=cE (show ¬w=nb from λe=>by rw[e,hb]at hw;cases hw)
   obtain⟨a2G,aAR,aAS,a8Y⟩:=cE (show ¬w=m from λe=>by rw[e,hm]at hw;cases hw)
   refine lW 36 bAE bRB bRC Tryz.func249 ?_
   simp -dsimp -implicitDefEqProofs only[go_sem,↓reduceIte,Tryz.f249,hb,aY,hm,hw,fC,aAS,e8,oW,aAR,oV,aD]
   refine⟨by decide,by decide,by decide,by rw[jO];exact fL _,by omega,by omega,λb oM=>?_⟩
   obtain⟨p9,kV,kU,pS⟩:=cE (show ¬b=nb from λe=>by rw[e,hb]at oM;cases oM)
   obtain⟨aN4,xQ,xR,aN5⟩:=cE (show ¬b=m from λe=>by rw[e,hm]at oM;cases oM)
   obtain⟨bOX,aSJ,aSK,b1E⟩:=cE (show ¬b=w from λe=>by rw[e,hw]at oM;cases oM)
   simp -dsimp -implicitDefEqProofs only[go_sem,↓reduceIte,Tryz.f249,hb,hw,fC,aAS,xR,e8,oW,kU,aAR,oV,aSK,xQ,kV,aSJ,aD]
   rw[aY]
   simp -dsimp -implicitDefEqProofs only[go_sem,↓reduceIte,Tryz.f249,hb,hw,fC,aAS,xR,e8,oW,kU,aAR,oV,aSK,xQ,kV,aSJ,aD]
   refine⟨by decide,by decide,by decide,by rw[jO];exact fL _,by omega,by omega,λb2 ⟨b6L,bUK,bUL,mE⟩=>?_⟩
   obtain⟨a82,aPC,aPD,bNC⟩:=cE (show ¬b2=nb from b6L)
   obtain⟨bUM,aYJ,aYK,bUN⟩:=cE (show ¬b2=m from bUL)
   obtain⟨bUO,aYL,aYM,bUP⟩:=cE (show ¬b2=w from λe=>by rw[e,hw]at mE;cases mE)
   obtain⟨a7G,aYN,aYO,bFL⟩:=cE (show ¬b2=b from bUK)
   simp -dsimp -implicitDefEqProofs only[go_sem,↓reduceIte,Tryz.f249,hb,hw,fC,aAS,xR,aYK,e8,oW,kU,aPD,aAR,oV,aSK,aYM,xQ,kV,aSJ,aYO,aYJ,aPC,aYL,aYN,aD]
   rw[gF aM9,gF aM9]
   obtain⟨g,hg,hR⟩:=H.put x v oM mE a7G (F:=bT (bT (bT (bT (bT h m .gone) b (.row 4 (rowsOf cO.c S.code++[x.c.map .v]))) w .gone) b2 (.row 1 (rowsOf (λn=>[I n]) S.iG++[[.v (I v)]]))) nb (c6 p inp (S.put x v) (some b) og (some b2))) (bG _ _ _)
    bOW bPC
    (λn h1 h2 h3 h4 h5=>by rw[aD _ _ _ _ h1,aD _ _ _ _ h3,aD _ _ _ _ (λq=>h5 xE),aD _ _ _ _ h2,aD _ _ _ _ (λq=>h4 xE)])
   refine λ_=>⟨_,g,eD (Heap.le_trans hg ?_),?_,hR⟩
   ·unfold c6
    simp only[eE.put,aY,cO.aM,rL,yV,lU,tP]
    exact(jM (by repeat'(first|exact gN _ _|refine jN (by simp only[fN,↓reduceIte,eq_self,if_true,fC,aAS,xR,aYK,e8,oW,kU,aPD,aAR,oV,aSK,aYM,xQ,kV,aSJ,aYO,aYJ,aPC,aYL,aYN]) ?_|refine fS oZ ?_)))
   ·rw[IntWalk.i64_in _ aA]
    congr 1
    omega
theorem aYU (a:Int) (ha:nJ a):dQ Tryz.prog 282 [I a] (I ((0-a)%1000003)):=by
 unfold nJ at ha
 refine dI 6 aL3 cG b9 Tryz.func282 λh=>?_
 simp -dsimp -implicitDefEqProofs only[go_sem,↓reduceIte,Tryz.f282]
 rw[IntWalk.i64_in _ aA]
 first|refine aH.mk (dM (0-a)) ?_|refine aE.mk (dM (0-a)) ?_|refine aH.b7 (dM (0-a)) ?_|refine aE.mk (bX.eA (dM (0-a))) ?_
 simp -dsimp -implicitDefEqProofs only[go_sem,↓reduceIte,Tryz.f282]
@[go_sem] def bNK:List Nat:=[0,2,3,4,6,8]
theorem bBR (k:Int) (hk:k=3∨k=4∨k=5∨k=6):dQ Tryz.prog 284 [I k] (I k):=by
 refine dI 10 bNK cG b9 Tryz.func284 λh=>?_
 simp -dsimp -implicitDefEqProofs only[go_sem,↓reduceIte,Tryz.f284]
 refine⟨λq=>by rw[q],λq=>⟨λq4=>by rw[q4],λq4=>⟨λq5=>by rw[q5],λq5=>?_⟩⟩⟩
 rw[show k=6 by omega]
@[go_sem] def bNL:List Nat:=[0,1,2,6,7,8,13,18]
theorem lH (k a b v:Int) (ha:nJ a) (hb:nJ b) (hk:k=3∨k=4∨k=5∨k=6) (hv:opV k a b=some v):dQ Tryz.prog 285 [I k,I a,I b] (I v):=by
 have hni:nJ (vP b):=num_inv b
 refine dI 27 bNL cG b9 Tryz.func285 λh=>?_
 simp -dsimp -implicitDefEqProofs only[go_sem,↓reduceIte,Tryz.f285]
 refine⟨λq=>?_,λq=>⟨λq4=>?_,λq4=>⟨λq5=>?_,λq5=>?_⟩⟩⟩
 ·first|refine aH.mk (jZ a b) ?_|refine aE.mk (jZ a b) ?_|refine aH.b7 (jZ a b) ?_|refine aE.mk (bX.eA (jZ a b)) ?_
  simp -dsimp -implicitDefEqProofs only[go_sem,↓reduceIte,Tryz.f285]
  unfold opV at hv;rw[if_pos q]at hv;rw[dY hv]
 ·first|refine aH.mk (w8 a b ha hb) ?_|refine aE.mk (w8 a b ha hb) ?_|refine aH.b7 (w8 a b ha hb) ?_|refine aE.mk (bX.eA (w8 a b ha hb)) ?_
  simp -dsimp -implicitDefEqProofs only[go_sem,↓reduceIte,Tryz.f285]
  unfold opV at hv;rw[if_neg q,if_pos q4]at hv;rw[dY hv]
 ·first|refine aH.mk (c8 a b ha hb) ?_|refine aE.mk (c8 a b ha hb) ?_|refine aH.b7 (c8 a b ha hb) ?_|refine aE.mk (bX.eA (c8 a b ha hb)) ?_
  simp -dsimp -implicitDefEqProofs only[go_sem,↓reduceIte,Tryz.f285]
  unfold opV at hv;rw[if_neg q,if_neg q4,if_pos q5]at hv;rw[dY hv]
 ·first|refine aH.mk (aFR b) ?_|refine aE.mk (aFR b) ?_|refine aH.b7 (aFR b) ?_|refine aE.mk (bX.eA (aFR b)) ?_
  simp -dsimp -implicitDefEqProofs only[go_sem,↓reduceIte,Tryz.f285]
  first|refine aH.mk (c8 a (vP b) ha hni) ?_|refine aE.mk (c8 a (vP b) ha hni) ?_|refine aH.b7 (c8 a (vP b) ha hni) ?_|refine aE.mk (bX.eA (c8 a (vP b) ha hni)) ?_
  simp -dsimp -implicitDefEqProofs only[go_sem,↓reduceIte,Tryz.f285]
  unfold opV at hv
  rw[if_neg q,if_neg q4,if_neg q5,if_neg aA]at hv
  by_cases hz:b=0
  ·rw[if_pos hz]at hv;cases hv
  ·rw[if_neg hz]at hv;rw[dY hv]
@[go_sem] def vI:List Nat:=[0,1,2,6,7,8,9,10,11,12,13,17,18,31,40,62,94,111,133]
@[go_sem] def aFZ:List Nat:=[89,130]
@[go_sem] def aF0:Marks:=λid=>match id with|3=>([10],(.op 0 (.op 1 (.op 2 (.op 3 (.op 4 (.op 5 (.op 6 (.op 7 (.op 8 (.op 9 (.op 10 (.op 11 .nil)))))))))))),[])|18=>([7,10,11],(.op 0 (.op 1 (.op 2 (.op 3 (.op 4 (.op 5 (.op 6 (.op 8 (.op 9 (.op 7 (.op 10 (.op 11 (.op 12 .nil))))))))))))),[])|25=>([9,12,16,19,20,21],(.op 0 (.op 1 (.op 2 (.op 3 (.op 4 (.op 5 (.op 6 (.op 7 (.op 8 (.op 10 (.op 13 (.op 14 (.op 15 (.op 17 (.op 9 (.op 11 (.op 12 (.op 16 (.op 18 (.op 19 (.op 20 (.op 21 (.op 22 .nil))))))))))))))))))))))),[])|_=>([],.nil,[])
def vJ (p:aK) (inp:Int) (n:Nat):Prop:=∀ (h0 h:Heap) (nb st:Nat) (e:aB) (env:List Int) (S:eE) (funcs:Int) (k:Int) (S':eE) (t:Nat),eC (c6 p inp) h0 nb S h->st<=3000->e.ok p funcs env.length->0<=funcs->funcs<=p.aJ.length->Good inp S st->(∀ x∈env,qQ S x)->env.length<=412+st->fM p n st e env S=.ok ((k,S'),t) ->
 gK Tryz.prog 263 [.op nb 6 0 0,.ip 5 [e.c] 0 0,ints env] h λr h'=>r=I k/\eC (c6 p inp) h0 nb S' h'
theorem j2 {α β:Type} {X:Out α} {F:α->Nat->Out β} {v:β} {t:Nat} (h:X.andThen F=.ok (v,t)):∃ w u,X=.ok (w,u)/\F w u=.ok (v,t):=by
 cases X with
 |ok q=>exact⟨q.1,q.2,rfl,h⟩
 |error c=>cases h
theorem a2P (ev:Nat->aB->eE->Out (Int×eE)) (b:List aB):∀ (a:List aB) (t:Nat) (S:eE),oG ev (a++b) t S=(oG ev a t S).andThen λq t=>(oG ev b t q.2).andThen λr t=>.ok ((q.1++r.1,r.2),t)
 | [],t,S=>by
  show oG ev b t S=(oG ev b t S).andThen λr t=>.ok (([]++r.1,r.2),t)
  cases oG ev b t S with
  |ok q=>rfl
  |error c=>rfl
 |x::a,t,S=>by
  simp only[aED,oG,a2P ev b a,Out.nT,Out.andThen_ok]
theorem oI {ev:Nat->aB->eE->Out (Int×eE)} {l:List aB} {st:Nat} {S:eE} {v:List Int×eE} {t:Nat} (h:oG ev l st S=.ok (v,t)) {k:Nat} (hk:k<l.length) {vs:List Int} {S1:eE} {t1:Nat} (h1:oG ev (l.take k) st S=.ok ((vs,S1),t1)) :
  ∃ j S2 t2,ev t1 l[k] S1=.ok ((j,S2),t2)/\oG ev (l.take (k+1)) st S=.ok ((vs++[j],S2),t2):=by
 have e:l=l.take k++(l[k]::l.drop (k+1)):=by rw[←aZR hk,aPV]
 rw[e,a2P,h1]at h
 have h':(oG ev (l[k]::l.drop (k+1)) t1 S1).andThen (λr t=>.ok ((vs++r.1,r.2),t))=.ok (v,t):=h
 obtain⟨w,u,h2,_⟩:=j2 h'
 obtain⟨r,u2,h3,_⟩:=j2 h2
 refine⟨r.1,r.2,u2,h3,?_⟩
 rw[kP hk,aMG,h1]
 show(ev t1 l[k] S1).andThen _=_
 rw[h3];rfl
theorem a2Q {p:aK} (hp:p.ok) {inp:Int} {n:Nat} (hv:vJ p inp n) (h0 h:Heap) (nb st:Nat) (f:aX) (env:List Int) (S:eE) (funcs:Int) (l:List Int) (S':eE) (t:Nat) (hb:eC (c6 p inp) h0 nb S h) (hst:st<=3000)
  (hl:f.bB.length<=1048576) (hok:∀ e∈f.bB,e.ok p funcs env.length) (gJ:0<=funcs) (hf:funcs<=p.aJ.length) (hg:Good inp S st) (henv:∀ x∈env,qQ S x) (hel:env.length<=412+st) (hr:oG (λt e S=>fM p n t e env S) f.bB st S=.ok ((l,S'),t)) :
  gK Tryz.prog 250 [.op nb 6 0 0,.ip 3 [f.c] 0 0,ints env] h λr h'=>r=ints l/\eC (c6 p inp) h0 nb S' h':=by
 rw[aX.aM]
 refine lW 32 bAC bAD b9 Tryz.func250 ?_
 simp -dsimp -implicitDefEqProofs only[go_sem,↓reduceIte,Tryz.f250]
 refine⟨by decide,?_⟩
 refine cY bAC bAD b9 (λx:Nat×List Int×eE×Nat×Heap×Option Nat=>[(0,.op nb 6 0 0),(1,.ip 3 [f.c] 0 0),(2,ints env),(7,mX 1 x.2.1.length x.2.2.2.2.2),(8,I x.1)]) (λx=>c7 x.2.2.2.2.1 (.row 1 ((x.2.1.map λn=>[I n]).map (List.map .v))) x.2.2.2.2.2) (λx=>x.1<=f.bB.length/\x.2.1.length=x.1/\oG (λt e S=>fM p n t e env S) (f.bB.take x.1) st S=.ok ((x.2.1,x.2.2.1),x.2.2.2.1)/\eC (c6 p inp) h0 nb x.2.2.1 x.2.2.2.2.1/\k7 x.2.2.2.2.1 x.2.1 x.2.2.2.2.2) (λx=>f.bB.length-x.1) (0,[],S,st,h,none) ⟨by simp[dT,dB,mX,aX.aM],Heap.le_refl _,iZ _,rfl,rfl,hb,rfl⟩ ?_
 rintro⟨k,vs,S1,t1,g,o⟩ ⟨hk,hvl,hs,hR,hos⟩
 simp only at hk hvl hs hR hos ⊢
 rw[aX.aM]
 rcases cP k f.bB.length with hlt|hge
 ·have ek:f.bB[k]?=some f.bB[k]:=b6 hlt
  obtain⟨j,S2,t2,hj,rO⟩:=oI hr hlt hs
  obtain⟨b1,b2,b3,b4⟩:=jF hp (l:=f.bB.take k) hg hst henv (λx hx=>hok x (aWJ hx)) hf _ _ hs
  simp only at b1 b2 b3
  have hsub:bQ [.op nb 6 0 0,.ip 5 (f.bB.map aB.c) k 0,ints env] [.op nb 6 0 0,.ip 5 [f.bB[k].c] 0 0,ints env]:=.cons (.refl _) (.cons (Sub.ip (bF hlt) aS) (.cons (.refl _) .nil))
  cases o with
  |none =>
   rw[cZ]at hos
   subst hos
   simp -dsimp -implicitDefEqProofs only[go_sem,↓reduceIte,Tryz.f250,dD,aN,hlt,ek]
   refine λ_=>aH.kF (gK.sub hsub (hv h0 g nb t1 f.bB[k] env S1 funcs j S2 t2 hR b4.2.2.2 (hok _ (dG _)) gJ hf b1 (λx hx=>(henv x hx).ext b2) a9J hj)) ?_
   rintro r h' ⟨rfl,pF⟩
   simp -dsimp -implicitDefEqProofs only[go_sem,↓reduceIte,Tryz.f250]
   refine⟨cM,cM,cM,λb mE=>?_⟩
   refine⟨(k+1,[j],S2,t2,h',some b),⟨rfl,by rw[IntWalk.i64_in _ aA];rfl⟩,Heap.le_refl _,⟨by omega,by simp only[al3]at hvl;subst hvl;rfl,rO,pF,mE⟩,by simp only;omega⟩
  |some m =>
   rw[b8]at hos
   simp -dsimp -implicitDefEqProofs only[go_sem,↓reduceIte,Tryz.f250,bZ,aL,hlt,ek]
   refine λ_=>aH.kF (gK.sub hsub (hv _ _ nb t1 f.bB[k] env S1 funcs j S2 t2 (hR.over hos) b4.2.2.2 (hok _ (dG _)) gJ hf b1 (λx hx=>(henv x hx).ext b2) a9J hj)) ?_
   rintro r h' ⟨rfl,pF⟩
   obtain⟨g2,rfl,hg2,pF⟩:=pF.base (hR.none hos)
   simp -dsimp -implicitDefEqProofs only[go_sem,↓reduceIte,Tryz.f250]
   refine⟨cM,cM,cM,fL _,by omega,by omega,λb ⟨hbm,mE⟩=>?_⟩
   obtain⟨aN4,xQ,xR,aN5⟩:=cE (show ¬b=m from hbm)
   refine⟨(k+1,vs++[j],S2,t2,g2,some b),⟨by rw[bZ,rL];rfl,by rw[IntWalk.i64_in _ aA];rfl⟩,?_,⟨by omega,by rw[rL,hvl];rfl,rO,pF,mE⟩,by simp only;omega⟩
   simp only[aL]
   rw[←iX]
   exact nP hg2
 ·have hk':k=f.bB.length:=by omega
  subst hk'
  rw[eL,hr]at hs
  obtain⟨rfl,rfl⟩:=nI (nI (Except.ok.inj hs)).1
  cases o with
  |none =>
   rw[cZ]at hos
   subst hos
   simp -dsimp -implicitDefEqProofs only[go_sem,↓reduceIte,Tryz.f250,dD,aN,cN,fP]
   exact λ_=>⟨ints [],_,Shift.of (Sub.loose _ _ _) (Heap.le_refl _),rfl,hR⟩
  |some m =>
   rw[b8]at hos
   simp -dsimp -implicitDefEqProofs only[go_sem,↓reduceIte,Tryz.f250,bZ,aL,cN,fP]
   exact λ_=>⟨ints l,g,mB l hos (Heap.le_refl _) rfl,rfl,hR⟩
theorem eW.single {h g:Heap} {m:Nat} {o:cF} (w:eW h [(m,o)] g):h m=none/\g=bT h m o:=by
 refine⟨w.fresh m a0J,?_⟩
 funext q
 by_cases e:q=m
 ·subst e;rw[bG];exact w.oJ (q,o) aS
 ·rw[aD _ _ _ _ e];exact w.upto q (by simpa[cS]using e)
theorem bNM {p:aK} (hp:p.ok) {inp:Int} {n:Nat} (hv:vJ p inp n) {h0 h:Heap} {nb st:Nat} {e:aB} {env:List Int} {S:eE} {funcs:Int} {k:Int} {S':eE} {t:Nat} (hR:eC (c6 p inp) h0 nb S h) (hst:st<3000)
  (hok:e.ok p funcs env.length) (gJ:0<=funcs) (hf:funcs<=p.aJ.length) (hg:Good inp S st) (henv:∀ x∈env,qQ S x) (hel:env.length<=412+st) (hr:fM p (n+1) st e env S=.ok ((k,S'),t)) (hk:e.bH=1) :
  gK Tryz.prog 263 [.op nb 6 0 0,.ip 5 [e.c] 0 0,ints env] h λr h'=>r=I k/\eC (c6 p inp) h0 nb S' h':=by
 rw[aB.aM]
 have hnode:=(aB.fG _ _ _ _).1 hok
 have h3:¬st=3000:=by omega
 have hcap:=hg.cap
 have hgcap:=hg.tT
 have oC:=hg.later (mF st)
 rw[aYD h3 hk]at hr
 cases hr
 refine lW 183 vI aFZ aF0 Tryz.func263 ?_
 simp -dsimp -implicitDefEqProofs only[go_sem,↓reduceIte,Tryz.f263,hk]
 refine aH.kF (aFY hR ⟨2,0,0,e.cC⟩ e.cC hg.len aA) ?_
 rintro r h' ⟨rfl,pF⟩
 simp -dsimp -implicitDefEqProofs only[go_sem,↓reduceIte,Tryz.f263]
 exact⟨_,_,cR _ _,rfl,pF⟩
theorem bNN {p:aK} (hp:p.ok) {inp:Int} {n:Nat} (hv:vJ p inp n) {h0 h:Heap} {nb st:Nat} {e:aB} {env:List Int} {S:eE} {funcs:Int} {k:Int} {S':eE} {t:Nat} (hR:eC (c6 p inp) h0 nb S h) (hst:st<3000)
  (hok:e.ok p funcs env.length) (gJ:0<=funcs) (hf:funcs<=p.aJ.length) (hg:Good inp S st) (henv:∀ x∈env,qQ S x) (hel:env.length<=412+st) (hr:fM p (n+1) st e env S=.ok ((k,S'),t)) (hk:e.bH=2) :
  gK Tryz.prog 263 [.op nb 6 0 0,.ip 5 [e.c] 0 0,ints env] h λr h'=>r=I k/\eC (c6 p inp) h0 nb S' h':=by
 rw[aB.aM]
 have hnode:=(aB.fG _ _ _ _).1 hok
 have h3:¬st=3000:=by omega
 have hcap:=hg.cap
 have hgcap:=hg.tT
 have oC:=hg.later (mF st)
 rw[aYE h3 hk]at hr
 cases hr
 have hnum:=((gW aA).1 hnode.1).2.2.2.2.1 hk
 have hlt:e.cC.toNat<env.length:=by omega
 refine lW 183 vI aFZ aF0 Tryz.func263 ?_
 simp -dsimp -implicitDefEqProofs only[go_sem,↓reduceIte,Tryz.f263,hk,fU hlt]
 exact⟨hnum.1,by omega,_,_,cR _ _,rfl,hR⟩
theorem bNO {p:aK} (hp:p.ok) {inp:Int} {n:Nat} (hv:vJ p inp n) {h0 h:Heap} {nb st:Nat} {e:aB} {env:List Int} {S:eE} {funcs:Int} {k:Int} {S':eE} {t:Nat} (hR:eC (c6 p inp) h0 nb S h) (hst:st<3000)
  (hok:e.ok p funcs env.length) (gJ:0<=funcs) (hf:funcs<=p.aJ.length) (hg:Good inp S st) (henv:∀ x∈env,qQ S x) (hel:env.length<=412+st) (hr:fM p (n+1) st e env S=.ok ((k,S'),t)) (hk:e.bH=9) :
  gK Tryz.prog 263 [.op nb 6 0 0,.ip 5 [e.c] 0 0,ints env] h λr h'=>r=I k/\eC (c6 p inp) h0 nb S' h':=by
 rw[aB.aM]
 have hnode:=(aB.fG _ _ _ _).1 hok
 have h3:¬st=3000:=by omega
 have hcap:=hg.cap
 have hgcap:=hg.tT
 have oC:=hg.later (mF st)
 have hlen:=gE hok aA
 rw[hk,show jH 9=2 from rfl]at hlen
 have g0:e.aO[Int.toNat 0]?=some (e.rW 0):=aB.kI aA
 have g1:e.aO[Int.toNat 1]?=some (e.rW 1):=aB.kI aA
 have o0:=aB.jS hok (i:=0) aA
 have o1:=aB.jS hok (i:=1) aA
 rw[mA aA]at o0
 rw[hk,show oY 9 1 (env.length:Int)=env.length+1 from rfl]at o1
 rw[aYF h3 hk]at hr
 obtain⟨⟨k1,S1⟩,t1,e1,e2⟩:=j2 hr
 obtain⟨b1,b2,b3,b4⟩:=sB hp n (st+1) (e.rW 0) env S funcs o0 hf oC aA henv _ _ e1
 simp only at b1 b2 b3
 have hsub:∀ (i:Nat),i<e.aO.length->bQ [.op nb 6 0 0,.ip 5 (e.aO.map aB.c) i 0,ints env] [.op nb 6 0 0,.ip 5 [(e.rW i).c] 0 0,ints env]:=λi hi=>by
  rw[aB.zN hi]
  exact .cons (.refl _) (.cons (Sub.ip (bF hi) aS) (.cons (.refl _) .nil))
 refine lW 183 vI aFZ aF0 Tryz.func263 ?_
 simp -dsimp -implicitDefEqProofs only[go_sem,↓reduceIte,Tryz.f263,hk]
 refine⟨by omega,aH.kF (gK.sub (hsub 0 aA) (hv h0 _ nb (st+1) (e.rW 0) env S funcs k1 S1 t1 hR aA o0 gJ hf oC henv aA e1)) ?_⟩
 rintro r h' ⟨rfl,pF⟩
 simp -dsimp -implicitDefEqProofs only[go_sem,↓reduceIte,Tryz.f263]
 refine⟨by omega,by decide,by decide,aH.wn0 (lN env aA) ?_⟩
 rintro r l g ⟨y,oy,rfl,rfl⟩ wn
 have aW6:∀ x∈env++[k1],qQ S1 x:=λx hx=>by
  rcases pH.1 hx with hx|hx
  ·exact(henv x hx).ext b2
  ·rw[rG.1 hx];exact b3
 have hfin:∀ {h1 g1:Heap},eC (c6 p inp) h1 nb S1 g1->gK Tryz.prog 263 [.op nb 6 0 0,.ip 5 (e.aO.map aB.c) 1 0,ints (env++[k1])] g1 λr h'=>r=I k/\eC (c6 p inp) h1 nb S' h':=λvR =>
  gK.sub (.cons (.refl _) (.cons (by rw[aB.zN (show 1<e.aO.length by omega)];exact Sub.ip (bF aA) aS) (.cons (.refl _) .nil))) (hv _ _ nb t1 (e.rW 1) (env++[k1]) S1 funcs k S' t vR b4.2.2.2 a0A gJ hf b1 aW6 (by rw[rL];have:=b4.2.2.1;show env.length+1<=_;omega) e2)
 rcases oy.zX with⟨rfl,rfl⟩|⟨m,rfl⟩
 ·rw[OV.lY]at wn
  have hgh:g=h':=funext λq=>wn.upto q a0J
  subst hgh
  simp -dsimp -implicitDefEqProofs only[go_sem,↓reduceIte,Tryz.f263,OV.val]
  refine⟨by decide,λb mE=>?_⟩
  obtain⟨pS,kU,kV,p9⟩:=cE (show ¬nb=b from λe=>by obtain⟨_,_,_,H2⟩:=pF;have:=H2.box;rw[e,mE]at this;cases this)
  refine aH.aN2 (x:=.ip 5 (e.aO.map aB.c) 1 0) (es:=[[I k1]]) (len:=1) rfl rfl pS rfl mE ?_
  refine gK.mono (hfin (pF.over (o:=.gone) mE)) ?_
  rintro r h2 ⟨rfl,vR⟩
  obtain⟨g3,rfl,hg3,vR⟩:=vR.base (pF.none mE)
  simp -dsimp -implicitDefEqProofs only[go_sem,↓reduceIte,Tryz.f263]
  exact⟨_,g3,eD (Heap.aW hg3 (Heap.le_refl _)),rfl,vR⟩
 ·rw[OV.lM,wT,tH]at wn
  obtain⟨hm,rfl⟩:=wn.single
  simp -dsimp -implicitDefEqProofs only[go_sem,↓reduceIte,Tryz.f263,OV.val]
  refine⟨by decide,fL _,by omega,by omega,λb ⟨hbm,mE⟩=>?_⟩
  obtain⟨aN4,xQ,xR,aN5⟩:=cE (show ¬b=m from hbm)
  obtain⟨pS,kU,kV,p9⟩:=cE (show ¬nb=b from λe=>by obtain⟨_,_,_,H2⟩:=pF;have:=H2.box;rw[e,mE]at this;cases this)
  have hb3:(bT h' m .gone) b=none:=by rw[aD _ _ _ _ hbm];exact mE
  rw[aF,gF aS,show(env.map λx=>[I x]).map (List.map Cell.v)++[[Cell.v (aC.int .i64 k1)]]=((env++[k1]).map λn=>[I n]).map (List.map .v)by simp]
  refine aH.aN2 (x:=.ip 5 (e.aO.map aB.c) 1 0) (es:=(env++[k1]).map λn=>[I n]) (len:=env.length+1) rfl rfl pS aS hb3 ?_
  refine gK.mono (hfin ((pF.over (o:=.gone) hm).over (o:=.gone) hb3)) ?_
  rintro r h2 ⟨rfl,vR⟩
  obtain⟨g3,rfl,hg3,vR⟩:=vR.base ((pF.over (o:=.gone) hm).none hb3)
  obtain⟨g4,rfl,hg4,vR⟩:=vR.base (pF.none hm)
  rw[aD _ _ _ _ hbm]at hg3
  simp -dsimp -implicitDefEqProofs only[go_sem,↓reduceIte,Tryz.f263]
  exact⟨_,g4,eD (Heap.aW hg3 (Heap.aW hg4 (Heap.le_refl _))),rfl,vR⟩
theorem bNP {p:aK} (hp:p.ok) {inp:Int} {n:Nat} (hv:vJ p inp n) {h0 h:Heap} {nb st:Nat} {e:aB} {env:List Int} {S:eE} {funcs:Int} {k:Int} {S':eE} {t:Nat} (hR:eC (c6 p inp) h0 nb S h) (hst:st<3000)
  (hok:e.ok p funcs env.length) (gJ:0<=funcs) (hf:funcs<=p.aJ.length) (hg:Good inp S st) (henv:∀ x∈env,qQ S x) (hel:env.length<=412+st) (hr:fM p (n+1) st e env S=.ok ((k,S'),t)) (hk:e.bH=7) :
  gK Tryz.prog 263 [.op nb 6 0 0,.ip 5 [e.c] 0 0,ints env] h λr h'=>r=I k/\eC (c6 p inp) h0 nb S' h':=by
 rw[aB.aM]
 have hnode:=(aB.fG _ _ _ _).1 hok
 have h3:¬st=3000:=by omega
 have hcap:=hg.cap
 have hgcap:=hg.tT
 have oC:=hg.later (mF st)
 have hlen:=gE hok aA
 rw[hk,show jH 7=1 from rfl]at hlen
 have o0:=iL hok aA
 rw[nG h3 aA]at hr
 obtain⟨⟨vs,S1⟩,t1,e1,e2⟩:=j2 hr
 obtain⟨b1,b2,b3,b4⟩:=jF hp oC aA henv o0 hf _ _ e1
 simp only at b1 b2 b3
 obtain⟨j,S2,t2,hj,rO⟩:=oI e1 (k:=0) aA (vs:=[]) (S1:=S) (t1:=st+1) rfl
 rw[gF aA,e1]at rO
 obtain⟨rfl,rfl⟩:=nI (nI (Except.ok.inj rO)).1
 obtain rfl:=(nI (Except.ok.inj rO)).2
 have hsub:bQ [.op nb 6 0 0,.ip 5 (e.aO.map aB.c) 0 0,ints env] [.op nb 6 0 0,.ip 5 [e.aO[0].c] 0 0,ints env]:=.cons (.refl _) (.cons (Sub.ip (bF aA) aS) (.cons (.refl _) .nil))
 have hj0:qQ S1 j:=b3.2 j aS
 have hvj:=b1.val j
 refine lW 183 vI aFZ aF0 Tryz.func263 ?_
 simp -dsimp -implicitDefEqProofs only[go_sem,↓reduceIte,Tryz.f263,hk]
 refine⟨by omega,aH.kF (gK.sub hsub (hv h0 _ nb (st+1) e.aO[0] env S funcs j S1 t1 hR aA (o0 _ (dG _)) gJ hf oC henv aA hj)) ?_⟩
 rintro r h' ⟨rfl,⟨om,og,ov,H1⟩⟩
 obtain⟨w,rfl,hw,dw⟩:=H1.row hj0
 have oM:=H1.box
 unfold c6 at oM
 rw[aY]at oM
 have rk:=kO hj0
 have k0:=hj0.1
 have k2:=hj0.2
 have lw:=jO (λn=>[I n]) S1.iG
 simp -dsimp -implicitDefEqProofs only[go_sem,↓reduceIte,Tryz.f263,oM,hw,rk]
 refine⟨k0,by omega,?_⟩
 first|refine aH.mk (aYU (S1.val j) hvj) ?_|refine aE.mk (aYU (S1.val j) hvj) ?_|refine aH.b7 (aYU (S1.val j) hvj) ?_|refine aE.mk (bX.eA (aYU (S1.val j) hvj)) ?_
 simp -dsimp -implicitDefEqProofs only[go_sem,↓reduceIte,Tryz.f263]
 have e3:opR 7 [j] S1 t1=.ok (((S1.iG.length:Int),S1.put ⟨7,j,0,0⟩ ((0-S1.val j)%1000003)),t1):=rfl
 rw[hk]at e2
 have e4:=e3.symm.trans e2
 have e5:=(nI (nI (Except.ok.inj e4)).1)
 unfold rD at b4
 simp only at b4
 refine aH.kF (aFY ⟨om,og,some w,H1⟩ ⟨7,j,0,0⟩ ((0-S1.val j)%1000003) b1.len a0F) ?_
 rintro r h2 ⟨rfl,pF⟩
 simp -dsimp -implicitDefEqProofs only[go_sem,↓reduceIte,Tryz.f263]
 rw[e5.2]at pF
 exact⟨_,_,cR _ _,by rw[e5.1],pF⟩
theorem bNQ {p:aK} (hp:p.ok) {inp:Int} {n:Nat} (hv:vJ p inp n) {h0 h:Heap} {nb st:Nat} {e:aB} {env:List Int} {S:eE} {funcs:Int} {k:Int} {S':eE} {t:Nat} (hR:eC (c6 p inp) h0 nb S h) (hst:st<3000)
  (hok:e.ok p funcs env.length) (gJ:0<=funcs) (hf:funcs<=p.aJ.length) (hg:Good inp S st) (henv:∀ x∈env,qQ S x) (hel:env.length<=412+st) (hr:fM p (n+1) st e env S=.ok ((k,S'),t)) (hk:e.bH=3) :
  gK Tryz.prog 263 [.op nb 6 0 0,.ip 5 [e.c] 0 0,ints env] h λr h'=>r=I k/\eC (c6 p inp) h0 nb S' h':=by
 rw[aB.aM]
 have hnode:=(aB.fG _ _ _ _).1 hok
 have h3:¬st=3000:=by omega
 have hcap:=hg.cap
 have hgcap:=hg.tT
 have oC:=hg.later (mF st)
 have hlen:=gE hok aA
 rw[hk,show jH 3=2 from rfl]at hlen
 have o0:=iL hok aA
 rw[nG h3 aA]at hr
 obtain⟨⟨vs,S1⟩,t1,e1,e2⟩:=j2 hr
 obtain⟨b1,b2,b3,b4⟩:=jF hp oC aA henv o0 hf _ _ e1
 simp only at b1 b2 b3
 obtain⟨j0,S0,t0,hj0,hs0⟩:=oI e1 (k:=0) aA (vs:=[]) (S1:=S) (t1:=st+1) rfl
 obtain⟨c1,c2,c3,c4⟩:=sB hp n (st+1) e.aO[0] env S funcs (o0 _ (dG _)) hf oC aA henv _ _ hj0
 simp only at c1 c2 c3
 obtain⟨j1,S2,t2,hj1,rH⟩:=oI e1 (k:=1) aA hs0
 rw[gF aA,e1]at rH
 obtain⟨rfl,rfl⟩:=nI (nI (Except.ok.inj rH)).1
 obtain rfl:=(nI (Except.ok.inj rH)).2
 have hsub:∀ (i:Nat) (hi:i<e.aO.length),bQ [.op nb 6 0 0,.ip 5 (e.aO.map aB.c) i 0,ints env] [.op nb 6 0 0,.ip 5 [e.aO[i].c] 0 0,ints env]:=λi hi=>.cons (.refl _) (.cons (Sub.ip (bF hi) aS) (.cons (.refl _) .nil))
 have i0:qQ S1 j0:=b3.2 j0 aS
 have i1:qQ S1 j1:=b3.2 j1 aS
 have hv0:=b1.val j0
 have hv1:=b1.val j1
 refine lW 183 vI aFZ aF0 Tryz.func263 ?_
 simp -dsimp -implicitDefEqProofs only[go_sem,↓reduceIte,Tryz.f263,hk]
 refine⟨by omega,aH.kF (gK.sub (hsub 0 aA) (hv h0 _ nb (st+1) e.aO[0] env S funcs j0 S0 t0 hR aA (o0 _ (dG _)) gJ hf oC henv aA hj0)) ?_⟩
 rintro r h' ⟨rfl,hR1⟩
 simp -dsimp -implicitDefEqProofs only[go_sem,↓reduceIte,Tryz.f263]
 refine⟨by omega,aH.kF (gK.sub (hsub 1 aA) (hv h0 _ nb t0 e.aO[1] env S0 funcs j1 S1 t1 hR1 c4.2.2.2 (o0 _ (dG _)) gJ hf c1 (λx hx=>(henv x hx).ext c2) a9I hj1)) ?_⟩
 rintro r h2 ⟨rfl,⟨om,og,ov,H1⟩⟩
 obtain⟨w,rfl,hw,dw⟩:=H1.row i0
 have oM:=H1.box
 unfold c6 at oM
 rw[aY]at oM
 have rk0:=kO i0
 have rk1:=kO i1
 have k0:=i0.1
 have k1:=i0.2
 have k2:=i1.1
 have k3:=i1.2
 have lw:=jO (λn=>[I n]) S1.iG
 have hop:=bBR 3 dH
 try simp -dsimp -implicitDefEqProofs only[go_sem,↓reduceIte,Tryz.f263,hk]
 first|refine aH.mk (hop) ?_|refine aE.mk (hop) ?_|refine aH.b7 (hop) ?_|refine aE.mk (bX.eA (hop)) ?_
 simp -dsimp -implicitDefEqProofs only[go_sem,↓reduceIte,Tryz.f263]
 try simp -dsimp -implicitDefEqProofs only[go_sem,↓reduceIte,Tryz.f263,oM,hw,rk0,rk1]
 refine⟨k0,by omega,k2,by omega,?_⟩
 rw[hk]at e2
 cases hv:opV 3 (S1.val j0) (S1.val j1)with
 |none =>
  have e3:opR 3 [j0,j1] S1 t1=.error 6:=by
   unfold opR
   rw[show([j0,j1].getD 0 0)=j0 from rfl,show opB 3 [j0,j1]=j1 from rfl,hv]
  have e4:=e3.symm.trans e2
  cases e4
 |some v =>
  have e3:opR 3 [j0,j1] S1 t1=.ok (((S1.iG.length:Int),S1.put ⟨3,j0,j1,0⟩ v),t1):=by
   unfold opR
   rw[show([j0,j1].getD 0 0)=j0 from rfl,show opB 3 [j0,j1]=j1 from rfl,hv]
  have e4:=e3.symm.trans e2
  have e5:=(nI (nI (Except.ok.inj e4)).1)
  first|refine aH.mk (lH 3 (S1.val j0) (S1.val j1) v hv0 hv1 dH hv) ?_|refine aE.mk (lH 3 (S1.val j0) (S1.val j1) v hv0 hv1 dH hv) ?_|refine aH.b7 (lH 3 (S1.val j0) (S1.val j1) v hv0 hv1 dH hv) ?_|refine aE.mk (bX.eA (lH 3 (S1.val j0) (S1.val j1) v hv0 hv1 dH hv)) ?_
  simp -dsimp -implicitDefEqProofs only[go_sem,↓reduceIte,Tryz.f263]
  unfold rD at b4
  simp only at b4
  refine aH.kF (aFY ⟨om,og,some w,H1⟩ ⟨3,j0,j1,0⟩ v b1.len a0F) ?_
  rintro r h3 ⟨rfl,pF⟩
  simp -dsimp -implicitDefEqProofs only[go_sem,↓reduceIte,Tryz.f263]
  rw[e5.2]at pF
  exact⟨_,_,cR _ _,by rw[e5.1],pF⟩
theorem bNR {p:aK} (hp:p.ok) {inp:Int} {n:Nat} (hv:vJ p inp n) {h0 h:Heap} {nb st:Nat} {e:aB} {env:List Int} {S:eE} {funcs:Int} {k:Int} {S':eE} {t:Nat} (hR:eC (c6 p inp) h0 nb S h) (hst:st<3000)
  (hok:e.ok p funcs env.length) (gJ:0<=funcs) (hf:funcs<=p.aJ.length) (hg:Good inp S st) (henv:∀ x∈env,qQ S x) (hel:env.length<=412+st) (hr:fM p (n+1) st e env S=.ok ((k,S'),t)) (hk:e.bH=4) :
  gK Tryz.prog 263 [.op nb 6 0 0,.ip 5 [e.c] 0 0,ints env] h λr h'=>r=I k/\eC (c6 p inp) h0 nb S' h':=by
 rw[aB.aM]
 have hnode:=(aB.fG _ _ _ _).1 hok
 have h3:¬st=3000:=by omega
 have hcap:=hg.cap
 have hgcap:=hg.tT
 have oC:=hg.later (mF st)
 have hlen:=gE hok aA
 rw[hk,show jH 4=2 from rfl]at hlen
 have o0:=iL hok aA
 rw[nG h3 aA]at hr
 obtain⟨⟨vs,S1⟩,t1,e1,e2⟩:=j2 hr
 obtain⟨b1,b2,b3,b4⟩:=jF hp oC aA henv o0 hf _ _ e1
 simp only at b1 b2 b3
 obtain⟨j0,S0,t0,hj0,hs0⟩:=oI e1 (k:=0) aA (vs:=[]) (S1:=S) (t1:=st+1) rfl
 obtain⟨c1,c2,c3,c4⟩:=sB hp n (st+1) e.aO[0] env S funcs (o0 _ (dG _)) hf oC aA henv _ _ hj0
 simp only at c1 c2 c3
 obtain⟨j1,S2,t2,hj1,rH⟩:=oI e1 (k:=1) aA hs0
 rw[gF aA,e1]at rH
 obtain⟨rfl,rfl⟩:=nI (nI (Except.ok.inj rH)).1
 obtain rfl:=(nI (Except.ok.inj rH)).2
 have hsub:∀ (i:Nat) (hi:i<e.aO.length),bQ [.op nb 6 0 0,.ip 5 (e.aO.map aB.c) i 0,ints env] [.op nb 6 0 0,.ip 5 [e.aO[i].c] 0 0,ints env]:=λi hi=>.cons (.refl _) (.cons (Sub.ip (bF hi) aS) (.cons (.refl _) .nil))
 have i0:qQ S1 j0:=b3.2 j0 aS
 have i1:qQ S1 j1:=b3.2 j1 aS
 have hv0:=b1.val j0
 have hv1:=b1.val j1
 refine lW 183 vI aFZ aF0 Tryz.func263 ?_
 simp -dsimp -implicitDefEqProofs only[go_sem,↓reduceIte,Tryz.f263,hk]
 refine⟨by omega,aH.kF (gK.sub (hsub 0 aA) (hv h0 _ nb (st+1) e.aO[0] env S funcs j0 S0 t0 hR aA (o0 _ (dG _)) gJ hf oC henv aA hj0)) ?_⟩
 rintro r h' ⟨rfl,hR1⟩
 simp -dsimp -implicitDefEqProofs only[go_sem,↓reduceIte,Tryz.f263]
 refine⟨by omega,aH.kF (gK.sub (hsub 1 aA) (hv h0 _ nb t0 e.aO[1] env S0 funcs j1 S1 t1 hR1 c4.2.2.2 (o0 _ (dG _)) gJ hf c1 (λx hx=>(henv x hx).ext c2) a9I hj1)) ?_⟩
 rintro r h2 ⟨rfl,⟨om,og,ov,H1⟩⟩
 obtain⟨w,rfl,hw,dw⟩:=H1.row i0
 have oM:=H1.box
 unfold c6 at oM
 rw[aY]at oM
 have rk0:=kO i0
 have rk1:=kO i1
 have k0:=i0.1
 have k1:=i0.2
 have k2:=i1.1
 have k3:=i1.2
 have lw:=jO (λn=>[I n]) S1.iG
 have hop:=bBR 4 dH
 try simp -dsimp -implicitDefEqProofs only[go_sem,↓reduceIte,Tryz.f263,hk]
 first|refine aH.mk (hop) ?_|refine aE.mk (hop) ?_|refine aH.b7 (hop) ?_|refine aE.mk (bX.eA (hop)) ?_
 simp -dsimp -implicitDefEqProofs only[go_sem,↓reduceIte,Tryz.f263]
 try simp -dsimp -implicitDefEqProofs only[go_sem,↓reduceIte,Tryz.f263,oM,hw,rk0,rk1]
 refine⟨k0,by omega,k2,by omega,?_⟩
 rw[hk]at e2
 cases hv:opV 4 (S1.val j0) (S1.val j1)with
 |none =>
  have e3:opR 4 [j0,j1] S1 t1=.error 6:=by
   unfold opR
   rw[show([j0,j1].getD 0 0)=j0 from rfl,show opB 4 [j0,j1]=j1 from rfl,hv]
  have e4:=e3.symm.trans e2
  cases e4
 |some v =>
  have e3:opR 4 [j0,j1] S1 t1=.ok (((S1.iG.length:Int),S1.put ⟨4,j0,j1,0⟩ v),t1):=by
   unfold opR
   rw[show([j0,j1].getD 0 0)=j0 from rfl,show opB 4 [j0,j1]=j1 from rfl,hv]
  have e4:=e3.symm.trans e2
  have e5:=(nI (nI (Except.ok.inj e4)).1)
  first|refine aH.mk (lH 4 (S1.val j0) (S1.val j1) v hv0 hv1 dH hv) ?_|refine aE.mk (lH 4 (S1.val j0) (S1.val j1) v hv0 hv1 dH hv) ?_|refine aH.b7 (lH 4 (S1.val j0) (S1.val j1) v hv0 hv1 dH hv) ?_|refine aE.mk (bX.eA (lH 4 (S1.val j0) (S1.val j1) v hv0 hv1 dH hv)) ?_
  simp -dsimp -implicitDefEqProofs only[go_sem,↓reduceIte,Tryz.f263]
  unfold rD at b4
  simp only at b4
  refine aH.kF (aFY ⟨om,og,some w,H1⟩ ⟨4,j0,j1,0⟩ v b1.len a0F) ?_
  rintro r h3 ⟨rfl,pF⟩
  simp -dsimp -implicitDefEqProofs only[go_sem,↓reduceIte,Tryz.f263]
  rw[e5.2]at pF
  exact⟨_,_,cR _ _,by rw[e5.1],pF⟩
theorem bNS {p:aK} (hp:p.ok) {inp:Int} {n:Nat} (hv:vJ p inp n) {h0 h:Heap} {nb st:Nat} {e:aB} {env:List Int} {S:eE} {funcs:Int} {k:Int} {S':eE} {t:Nat} (hR:eC (c6 p inp) h0 nb S h) (hst:st<3000)
  (hok:e.ok p funcs env.length) (gJ:0<=funcs) (hf:funcs<=p.aJ.length) (hg:Good inp S st) (henv:∀ x∈env,qQ S x) (hel:env.length<=412+st) (hr:fM p (n+1) st e env S=.ok ((k,S'),t)) (hk:e.bH=5) :
  gK Tryz.prog 263 [.op nb 6 0 0,.ip 5 [e.c] 0 0,ints env] h λr h'=>r=I k/\eC (c6 p inp) h0 nb S' h':=by
 rw[aB.aM]
 have hnode:=(aB.fG _ _ _ _).1 hok
 have h3:¬st=3000:=by omega
 have hcap:=hg.cap
 have hgcap:=hg.tT
 have oC:=hg.later (mF st)
 have hlen:=gE hok aA
 rw[hk,show jH 5=2 from rfl]at hlen
 have o0:=iL hok aA
 rw[nG h3 aA]at hr
 obtain⟨⟨vs,S1⟩,t1,e1,e2⟩:=j2 hr
 obtain⟨b1,b2,b3,b4⟩:=jF hp oC aA henv o0 hf _ _ e1
 simp only at b1 b2 b3
 obtain⟨j0,S0,t0,hj0,hs0⟩:=oI e1 (k:=0) aA (vs:=[]) (S1:=S) (t1:=st+1) rfl
 obtain⟨c1,c2,c3,c4⟩:=sB hp n (st+1) e.aO[0] env S funcs (o0 _ (dG _)) hf oC aA henv _ _ hj0
 simp only at c1 c2 c3
 obtain⟨j1,S2,t2,hj1,rH⟩:=oI e1 (k:=1) aA hs0
 rw[gF aA,e1]at rH
 obtain⟨rfl,rfl⟩:=nI (nI (Except.ok.inj rH)).1
 obtain rfl:=(nI (Except.ok.inj rH)).2
 have hsub:∀ (i:Nat) (hi:i<e.aO.length),bQ [.op nb 6 0 0,.ip 5 (e.aO.map aB.c) i 0,ints env] [.op nb 6 0 0,.ip 5 [e.aO[i].c] 0 0,ints env]:=λi hi=>.cons (.refl _) (.cons (Sub.ip (bF hi) aS) (.cons (.refl _) .nil))
 have i0:qQ S1 j0:=b3.2 j0 aS
 have i1:qQ S1 j1:=b3.2 j1 aS
 have hv0:=b1.val j0
 have hv1:=b1.val j1
 refine lW 183 vI aFZ aF0 Tryz.func263 ?_
 simp -dsimp -implicitDefEqProofs only[go_sem,↓reduceIte,Tryz.f263,hk]
 refine⟨by omega,aH.kF (gK.sub (hsub 0 aA) (hv h0 _ nb (st+1) e.aO[0] env S funcs j0 S0 t0 hR aA (o0 _ (dG _)) gJ hf oC henv aA hj0)) ?_⟩
 rintro r h' ⟨rfl,hR1⟩
 simp -dsimp -implicitDefEqProofs only[go_sem,↓reduceIte,Tryz.f263]
 refine⟨by omega,aH.kF (gK.sub (hsub 1 aA) (hv h0 _ nb t0 e.aO[1] env S0 funcs j1 S1 t1 hR1 c4.2.2.2 (o0 _ (dG _)) gJ hf c1 (λx hx=>(henv x hx).ext c2) a9I hj1)) ?_⟩
 rintro r h2 ⟨rfl,⟨om,og,ov,H1⟩⟩
 obtain⟨w,rfl,hw,dw⟩:=H1.row i0
 have oM:=H1.box
 unfold c6 at oM
 rw[aY]at oM
 have rk0:=kO i0
 have rk1:=kO i1
 have k0:=i0.1
 have k1:=i0.2
 have k2:=i1.1
 have k3:=i1.2
 have lw:=jO (λn=>[I n]) S1.iG
 have hop:=bBR 5 dH
 try simp -dsimp -implicitDefEqProofs only[go_sem,↓reduceIte,Tryz.f263,hk]
 first|refine aH.mk (hop) ?_|refine aE.mk (hop) ?_|refine aH.b7 (hop) ?_|refine aE.mk (bX.eA (hop)) ?_
 simp -dsimp -implicitDefEqProofs only[go_sem,↓reduceIte,Tryz.f263]
 try simp -dsimp -implicitDefEqProofs only[go_sem,↓reduceIte,Tryz.f263,oM,hw,rk0,rk1]
 refine⟨k0,by omega,k2,by omega,?_⟩
 rw[hk]at e2
 cases hv:opV 5 (S1.val j0) (S1.val j1)with
 |none =>
  have e3:opR 5 [j0,j1] S1 t1=.error 6:=by
   unfold opR
   rw[show([j0,j1].getD 0 0)=j0 from rfl,show opB 5 [j0,j1]=j1 from rfl,hv]
  have e4:=e3.symm.trans e2
  cases e4
 |some v =>
  have e3:opR 5 [j0,j1] S1 t1=.ok (((S1.iG.length:Int),S1.put ⟨5,j0,j1,0⟩ v),t1):=by
   unfold opR
   rw[show([j0,j1].getD 0 0)=j0 from rfl,show opB 5 [j0,j1]=j1 from rfl,hv]
  have e4:=e3.symm.trans e2
  have e5:=(nI (nI (Except.ok.inj e4)).1)
  first|refine aH.mk (lH 5 (S1.val j0) (S1.val j1) v hv0 hv1 dH hv) ?_|refine aE.mk (lH 5 (S1.val j0) (S1.val j1) v hv0 hv1 dH hv) ?_|refine aH.b7 (lH 5 (S1.val j0) (S1.val j1) v hv0 hv1 dH hv) ?_|refine aE.mk (bX.eA (lH 5 (S1.val j0) (S1.val j1) v hv0 hv1 dH hv)) ?_
  simp -dsimp -implicitDefEqProofs only[go_sem,↓reduceIte,Tryz.f263]
  unfold rD at b4
  simp only at b4
  refine aH.kF (aFY ⟨om,og,some w,H1⟩ ⟨5,j0,j1,0⟩ v b1.len a0F) ?_
  rintro r h3 ⟨rfl,pF⟩
  simp -dsimp -implicitDefEqProofs only[go_sem,↓reduceIte,Tryz.f263]
  rw[e5.2]at pF
  exact⟨_,_,cR _ _,by rw[e5.1],pF⟩
theorem bNT {p:aK} (hp:p.ok) {inp:Int} {n:Nat} (hv:vJ p inp n) {h0 h:Heap} {nb st:Nat} {e:aB} {env:List Int} {S:eE} {funcs:Int} {k:Int} {S':eE} {t:Nat} (hR:eC (c6 p inp) h0 nb S h) (hst:st<3000)
  (hok:e.ok p funcs env.length) (gJ:0<=funcs) (hf:funcs<=p.aJ.length) (hg:Good inp S st) (henv:∀ x∈env,qQ S x) (hel:env.length<=412+st) (hr:fM p (n+1) st e env S=.ok ((k,S'),t)) (hk:e.bH=6) :
  gK Tryz.prog 263 [.op nb 6 0 0,.ip 5 [e.c] 0 0,ints env] h λr h'=>r=I k/\eC (c6 p inp) h0 nb S' h':=by
 rw[aB.aM]
 have hnode:=(aB.fG _ _ _ _).1 hok
 have h3:¬st=3000:=by omega
 have hcap:=hg.cap
 have hgcap:=hg.tT
 have oC:=hg.later (mF st)
 have hlen:=gE hok aA
 rw[hk,show jH 6=2 from rfl]at hlen
 have o0:=iL hok aA
 rw[nG h3 aA]at hr
 obtain⟨⟨vs,S1⟩,t1,e1,e2⟩:=j2 hr
 obtain⟨b1,b2,b3,b4⟩:=jF hp oC aA henv o0 hf _ _ e1
 simp only at b1 b2 b3
 obtain⟨j0,S0,t0,hj0,hs0⟩:=oI e1 (k:=0) aA (vs:=[]) (S1:=S) (t1:=st+1) rfl
 obtain⟨c1,c2,c3,c4⟩:=sB hp n (st+1) e.aO[0] env S funcs (o0 _ (dG _)) hf oC aA henv _ _ hj0
 simp only at c1 c2 c3
 obtain⟨j1,S2,t2,hj1,rH⟩:=oI e1 (k:=1) aA hs0
 rw[gF aA,e1]at rH
 obtain⟨rfl,rfl⟩:=nI (nI (Except.ok.inj rH)).1
 obtain rfl:=(nI (Except.ok.inj rH)).2
 have hsub:∀ (i:Nat) (hi:i<e.aO.length),bQ [.op nb 6 0 0,.ip 5 (e.aO.map aB.c) i 0,ints env] [.op nb 6 0 0,.ip 5 [e.aO[i].c] 0 0,ints env]:=λi hi=>.cons (.refl _) (.cons (Sub.ip (bF hi) aS) (.cons (.refl _) .nil))
 have i0:qQ S1 j0:=b3.2 j0 aS
 have i1:qQ S1 j1:=b3.2 j1 aS
 have hv0:=b1.val j0
 have hv1:=b1.val j1
 refine lW 183 vI aFZ aF0 Tryz.func263 ?_
 simp -dsimp -implicitDefEqProofs only[go_sem,↓reduceIte,Tryz.f263,hk]
 refine⟨by omega,aH.kF (gK.sub (hsub 0 aA) (hv h0 _ nb (st+1) e.aO[0] env S funcs j0 S0 t0 hR aA (o0 _ (dG _)) gJ hf oC henv aA hj0)) ?_⟩
 rintro r h' ⟨rfl,hR1⟩
 simp -dsimp -implicitDefEqProofs only[go_sem,↓reduceIte,Tryz.f263]
 refine⟨by omega,aH.kF (gK.sub (hsub 1 aA) (hv h0 _ nb t0 e.aO[1] env S0 funcs j1 S1 t1 hR1 c4.2.2.2 (o0 _ (dG _)) gJ hf c1 (λx hx=>(henv x hx).ext c2) a9I hj1)) ?_⟩
 rintro r h2 ⟨rfl,⟨om,og,ov,H1⟩⟩
 obtain⟨w,rfl,hw,dw⟩:=H1.row i0
 have oM:=H1.box
 unfold c6 at oM
 rw[aY]at oM
 have rk0:=kO i0
 have rk1:=kO i1
 have k0:=i0.1
 have k1:=i0.2
 have k2:=i1.1
 have k3:=i1.2
 have lw:=jO (λn=>[I n]) S1.iG
 have hop:=bBR 6 dH
 try simp -dsimp -implicitDefEqProofs only[go_sem,↓reduceIte,Tryz.f263,hk]
 first|refine aH.mk (hop) ?_|refine aE.mk (hop) ?_|refine aH.b7 (hop) ?_|refine aE.mk (bX.eA (hop)) ?_
 simp -dsimp -implicitDefEqProofs only[go_sem,↓reduceIte,Tryz.f263]
 try simp -dsimp -implicitDefEqProofs only[go_sem,↓reduceIte,Tryz.f263,oM,hw,rk0,rk1]
 refine⟨k0,by omega,k2,by omega,?_⟩
 rw[hk]at e2
 cases hv:opV 6 (S1.val j0) (S1.val j1)with
 |none =>
  have e3:opR 6 [j0,j1] S1 t1=.error 6:=by
   unfold opR
   rw[show([j0,j1].getD 0 0)=j0 from rfl,show opB 6 [j0,j1]=j1 from rfl,hv]
  have e4:=e3.symm.trans e2
  cases e4
 |some v =>
  have e3:opR 6 [j0,j1] S1 t1=.ok (((S1.iG.length:Int),S1.put ⟨6,j0,j1,0⟩ v),t1):=by
   unfold opR
   rw[show([j0,j1].getD 0 0)=j0 from rfl,show opB 6 [j0,j1]=j1 from rfl,hv]
  have e4:=e3.symm.trans e2
  have e5:=(nI (nI (Except.ok.inj e4)).1)
  first|refine aH.mk (lH 6 (S1.val j0) (S1.val j1) v hv0 hv1 dH hv) ?_|refine aE.mk (lH 6 (S1.val j0) (S1.val j1) v hv0 hv1 dH hv) ?_|refine aH.b7 (lH 6 (S1.val j0) (S1.val j1) v hv0 hv1 dH hv) ?_|refine aE.mk (bX.eA (lH 6 (S1.val j0) (S1.val j1) v hv0 hv1 dH hv)) ?_
  simp -dsimp -implicitDefEqProofs only[go_sem,↓reduceIte,Tryz.f263]
  unfold rD at b4
  simp only at b4
  refine aH.kF (aFY ⟨om,og,some w,H1⟩ ⟨6,j0,j1,0⟩ v b1.len a0F) ?_
  rintro r h3 ⟨rfl,pF⟩
  simp -dsimp -implicitDefEqProofs only[go_sem,↓reduceIte,Tryz.f263]
  rw[e5.2]at pF
  exact⟨_,_,cR _ _,by rw[e5.1],pF⟩
theorem bNU {p:aK} (hp:p.ok) {inp:Int} {n:Nat} (hv:vJ p inp n) {h0 h:Heap} {nb st:Nat} {e:aB} {env:List Int} {S:eE} {funcs:Int} {k:Int} {S':eE} {t:Nat} (hR:eC (c6 p inp) h0 nb S h) (hst:st<3000)
  (hok:e.ok p funcs env.length) (gJ:0<=funcs) (hf:funcs<=p.aJ.length) (hg:Good inp S st) (henv:∀ x∈env,qQ S x) (hel:env.length<=412+st) (hr:fM p (n+1) st e env S=.ok ((k,S'),t)) (hk:e.bH=8) :
  gK Tryz.prog 263 [.op nb 6 0 0,.ip 5 [e.c] 0 0,ints env] h λr h'=>r=I k/\eC (c6 p inp) h0 nb S' h':=by
 rw[aB.aM]
 have hnode:=(aB.fG _ _ _ _).1 hok
 have h3:¬st=3000:=by omega
 have hcap:=hg.cap
 have hgcap:=hg.tT
 have oC:=hg.later (mF st)
 have hlen:=gE hok aA
 rw[hk,show jH 8=3 from rfl]at hlen
 have o0:=iL hok aA
 rw[aFW h3 hk]at hr
 obtain⟨⟨k1,S1⟩,t1,e1,e2⟩:=j2 hr
 rw[aB.zN (show 0<e.aO.length by omega)]at e1
 obtain⟨q1,q2,q3,q4⟩:=sB hp n (st+1) e.aO[0] env S funcs (o0 _ (dG _)) hf oC aA henv _ _ e1
 unfold rD at q4
 simp only at q1 q2 q3 q4 e2
 have hsub:∀ (i:Nat) (hi:i<e.aO.length),bQ [.op nb 6 0 0,.ip 5 (e.aO.map aB.c) i 0,ints env] [.op nb 6 0 0,.ip 5 [e.aO[i].c] 0 0,ints env]:=λi hi=>.cons (.refl _) (.cons (Sub.ip (bF hi) aS) (.cons (.refl _) .nil))
 refine lW 183 vI aFZ aF0 Tryz.func263 ?_
 simp -dsimp -implicitDefEqProofs only[go_sem,↓reduceIte,Tryz.f263,hk]
 refine⟨by omega,aH.kF (gK.sub (hsub 0 aA) (hv h0 _ nb (st+1) e.aO[0] env S funcs k1 S1 t1 hR aA (o0 _ (dG _)) gJ hf oC henv aA e1)) ?_⟩
 rintro r h' ⟨rfl,⟨om1,og1,ov1,H1⟩⟩
 obtain⟨w,rfl,hw,dw⟩:=H1.row q3
 have oM:=H1.box
 unfold c6 at oM
 rw[aY]at oM
 have rk:=kO q3
 have k0:=q3.1
 have k2:=q3.2
 have lw:=jO (λn=>[I n]) S1.iG
 have hgc:=q1.tT
 simp -dsimp -implicitDefEqProofs only[go_sem,↓reduceIte,Tryz.f263,oM,hw,rk]
 refine⟨k0,by omega,?_⟩
 have hgd:=H1.gds
 cases og1 with
 |none =>
  have hg0:S1.guards=[]:=jT.1 hgd
  rw[bJ]
  simp -dsimp -implicitDefEqProofs only[go_sem,↓reduceIte,Tryz.f263,oM]
  refine⟨by decide,by decide,by decide,λb mE=>?_⟩
  obtain⟨p9,kV,kU,pS⟩:=cE (show ¬b=nb from λe=>by rw[e,oM]at mE;cases mE)
  simp -dsimp -implicitDefEqProofs only[go_sem,↓reduceIte,Tryz.f263,oM,kV,kU,aD]
  refine⟨λhz=>⟨by omega,?_⟩,λhz=>⟨by omega,?_⟩⟩
  ·rw[decide_eq_true hz]
   obtain⟨g,hgl,hG⟩:=H1.guard ⟨k1,true⟩ mE (F:=bT (bT h' b (.row 2 [[.v (I k1),.v (.bool true)]])) nb (c6 p inp (S1.guard ⟨k1,true⟩) om1 (some b) (some w))) (bG _ _ _) a9A (λn h1 h2 _=>by rw[aD _ _ _ _ h1,aD _ _ _ _ h2])
   unfold c6 at hgl
   simp only[eE.guard,hg0,aY,al0,yV]at hgl
   refine aH.wk (Heap.iO hgl) ?_
   have hgG:=q1.guard (b:=true) q3 aA
   have heG:=q2.trans (S1.pE ⟨k1,true⟩)
   rw[if_pos hz,aB.zN (show 1<e.aO.length by omega)]at e2
   refine aH.kF (gK.sub (hsub 1 aA) (hv h0 g nb t1 e.aO[1] env (S1.guard ⟨k1,true⟩) funcs k S' t ⟨_,_,_,hG⟩ aA (o0 _ (dG _)) gJ hf hgG (λx hx=>(henv x hx).ext heG) aA e2)) ?_
   rintro r h2 ⟨rfl,vR⟩
   simp -dsimp -implicitDefEqProofs only[go_sem,↓reduceIte,Tryz.f263]
   exact⟨_,_,cR _ _,rfl,vR⟩
  ·rw[decide_eq_false hz]
   obtain⟨g,hgl,hG⟩:=H1.guard ⟨k1,false⟩ mE (F:=bT (bT h' b (.row 2 [[.v (I k1),.v (.bool false)]])) nb (c6 p inp (S1.guard ⟨k1,false⟩) om1 (some b) (some w))) (bG _ _ _) a9A (λn h1 h2 _=>by rw[aD _ _ _ _ h1,aD _ _ _ _ h2])
   unfold c6 at hgl
   simp only[eE.guard,hg0,aY,al0,yV]at hgl
   refine aH.wk (Heap.iO hgl) ?_
   have hgG:=q1.guard (b:=false) q3 aA
   have heG:=q2.trans (S1.pE ⟨k1,false⟩)
   rw[if_neg hz,aB.zN (show 2<e.aO.length by omega)]at e2
   refine aH.kF (gK.sub (hsub 2 aA) (hv h0 g nb t1 e.aO[2] env (S1.guard ⟨k1,false⟩) funcs k S' t ⟨_,_,_,hG⟩ aA (o0 _ (dG _)) gJ hf hgG (λx hx=>(henv x hx).ext heG) aA e2)) ?_
   rintro r h2 ⟨rfl,vR⟩
   simp -dsimp -implicitDefEqProofs only[go_sem,↓reduceIte,Tryz.f263]
   exact⟨_,_,cR _ _,rfl,vR⟩
 |some gm =>
  have hgm:=hgd.2
  obtain⟨bNF,aYQ,aYR,bNG⟩:=cE (show ¬gm=nb from λe=>by rw[e,oM]at hgm;cases hgm)
  rw[aY]
  simp -dsimp -implicitDefEqProofs only[go_sem,↓reduceIte,Tryz.f263,oM,hgm,jO]
  refine⟨by decide,by decide,by decide,fL _,by omega,by omega,λb mE=>?_⟩
  obtain⟨p9,kV,kU,pS⟩:=cE (show ¬b=nb from λe=>by rw[e,oM]at mE;cases mE)
  obtain⟨bUS,a7J,a7K,bUT⟩:=cE (show ¬b=gm from λe=>by rw[e,hgm]at mE;cases mE)
  simp -dsimp -implicitDefEqProofs only[go_sem,↓reduceIte,Tryz.f263,oM,kV,a7J,kU,aYR,a7K,aYQ,aD]
  refine⟨λhz=>⟨by omega,?_⟩,λhz=>⟨by omega,?_⟩⟩
  ·rw[decide_eq_true hz,gF aM9]
   obtain⟨g,hgl,hG⟩:=H1.guard ⟨k1,true⟩ mE (F:=bT (bT (bT h' gm .gone) b (.row 2 (rowsOf fK.c S1.guards++[[.v (I k1),.v (.bool true)]]))) nb (c6 p inp (S1.guard ⟨k1,true⟩) om1 (some b) (some w))) (bG _ _ _) a83 (λn h1 h2 h3=>by rw[aD _ _ _ _ h1,aD _ _ _ _ h2,aD _ _ _ _ (λq=>h3 xE)])
   unfold c6 at hgl
   simp only[eE.guard,aY,rL,yV]at hgl
   refine aH.wk (Heap.iO hgl) ?_
   have hgG:=q1.guard (b:=true) q3 aA
   have heG:=q2.trans (S1.pE ⟨k1,true⟩)
   rw[if_pos hz,aB.zN (show 1<e.aO.length by omega)]at e2
   refine aH.kF (gK.sub (hsub 1 aA) (hv h0 g nb t1 e.aO[1] env (S1.guard ⟨k1,true⟩) funcs k S' t ⟨_,_,_,hG⟩ aA (o0 _ (dG _)) gJ hf hgG (λx hx=>(henv x hx).ext heG) aA e2)) ?_
   rintro r h2 ⟨rfl,vR⟩
   simp -dsimp -implicitDefEqProofs only[go_sem,↓reduceIte,Tryz.f263]
   exact⟨_,_,cR _ _,rfl,vR⟩
  ·rw[decide_eq_false hz,gF aM9]
   obtain⟨g,hgl,hG⟩:=H1.guard ⟨k1,false⟩ mE (F:=bT (bT (bT h' gm .gone) b (.row 2 (rowsOf fK.c S1.guards++[[.v (I k1),.v (.bool false)]]))) nb (c6 p inp (S1.guard ⟨k1,false⟩) om1 (some b) (some w))) (bG _ _ _) a83 (λn h1 h2 h3=>by rw[aD _ _ _ _ h1,aD _ _ _ _ h2,aD _ _ _ _ (λq=>h3 xE)])
   unfold c6 at hgl
   simp only[eE.guard,aY,rL,yV]at hgl
   refine aH.wk (Heap.iO hgl) ?_
   have hgG:=q1.guard (b:=false) q3 aA
   have heG:=q2.trans (S1.pE ⟨k1,false⟩)
   rw[if_neg hz,aB.zN (show 2<e.aO.length by omega)]at e2
   refine aH.kF (gK.sub (hsub 2 aA) (hv h0 g nb t1 e.aO[2] env (S1.guard ⟨k1,false⟩) funcs k S' t ⟨_,_,_,hG⟩ aA (o0 _ (dG _)) gJ hf hgG (λx hx=>(henv x hx).ext heG) aA e2)) ?_
   rintro r h2 ⟨rfl,vR⟩
   simp -dsimp -implicitDefEqProofs only[go_sem,↓reduceIte,Tryz.f263]
   exact⟨_,_,cR _ _,rfl,vR⟩
def bNV (l:List Int):Option Nat->aC
 |none=>ints l
 |some m=>.os m 1 0 l.length
theorem aVY (l:List Int):bNV l none=ints l:=rfl
theorem aVZ (l:List Int) (m:Nat):bNV l (some m)=.os m 1 0 l.length:=rfl
theorem a7T {f:List Int->Nat->eE->Out (List Int×eE)} {N:Nat} {vs:List Int} {t:Nat} {S:eE} {v:List Int×eE} {u:Nat} (h:vG f N vs t S=.ok (v,u)) {k:Nat} (hk:k<N) {us:List Int} {S1:eE} {t1:Nat} (h1:vG f k vs t S=.ok ((us,S1),t1)) :
  ∃ l S2 t2,f us t1 S1=.ok ((l,S2),t2)/\vG f (k+1) vs t S=.ok ((l,S2),t2):=by
 have h2:=aDP f k vs t S
 rw[h1]at h2
 have h3:vG f (k+1) vs t S=f us t1 S1:=h2
 cases hf:f us t1 S1 with
 |ok q=>exact⟨q.1.1,q.1.2,q.2,rfl,h3.trans hf⟩
 |error c =>
  have:=aVO f (k+1) (n:=N) hk (h3.trans hf)
  rw[h]at this;cases this
theorem a2R {p:aK} (hp:p.ok) {inp:Int} {n:Nat} (hv:vJ p inp n) {h0 h:Heap} {nb st:Nat} {e:aB} {env:List Int} {S:eE} {funcs:Int} {k:Int} {S':eE} {t:Nat} (hR:eC (c6 p inp) h0 nb S h) (hst:st<3000)
  (hok:e.ok p funcs env.length) (gJ:0<=funcs) (hf:funcs<=p.aJ.length) (hg:Good inp S st) (henv:∀ x∈env,qQ S x) (hel:env.length<=412+st) (hr:fM p (n+1) st e env S=.ok ((k,S'),t)) (hk:e.bH=10∨e.bH=11) :
  gK Tryz.prog 283 [.op nb 6 0 0,.ip 5 [e.c] 0 0,ints env] h λr h'=>r=I k/\eC (c6 p inp) h0 nb S' h':=by
 have h3:¬st=3000:=by omega
 have oC:=hg.later (mF st)
 obtain⟨f,F⟩:=yG hp hok hf hk
 have hkl:e.aO.length<=1048576:=by have:=F.kids;have:=F.params;omega
 have f1:=F.lo
 have f2:=F.hi
 have f3:=F.pk
 have f4:=F.pk2
 have f5:=F.kids
 have f6:=F.params
 have f8:=F.outs
 have o0:=iL hok aA
 have hseq:∃ vs S1 t1,oG (λt e S=>fM p n t e env S) e.aO (st+1) S=.ok ((vs,S1),t1):=by
  rcases hk with hk|hk
  ·rw[aGI h3 hk]at hr
   obtain⟨w,u,h1,_⟩:=j2 hr
   exact⟨w.1,w.2,u,h1⟩
  ·rw[aGJ h3 hk]at hr
   obtain⟨w,u,h1,_⟩:=j2 hr
   exact⟨w.1,w.2,u,h1⟩
 obtain⟨ws,Sw,tw,hs0⟩:=hseq
 obtain⟨q1,q2,q3,q4⟩:=jF hp oC aA henv o0 hf _ _ hs0
 simp only at q1 q2 q3
 have q5:=q4.2.2.1
 have q6:=q4.2.2.2
 rw[aB.aM]
 refine lW 81 aNS aNT aNU Tryz.func283 ?_
 simp -dsimp -implicitDefEqProofs only[go_sem,↓reduceIte,Tryz.f283]
 refine⟨by decide,?_⟩
 refine cY aNS aNT aNU (λx:Nat×List Int×eE×Nat×Heap×Option Nat=>[(0,.op nb 6 0 0),(1,.ip 5 [e.c] 0 0),(2,ints env),(7,mX 1 x.2.1.length x.2.2.2.2.2),(8,I x.1)]) (λx=>c7 x.2.2.2.2.1 (.row 1 ((x.2.1.map λn=>[I n]).map (List.map .v))) x.2.2.2.2.2) (λx=>x.1<=e.aO.length/\x.2.1.length=x.1/\oG (λt e S=>fM p n t e env S) (e.aO.take x.1) (st+1) S=.ok ((x.2.1,x.2.2.1),x.2.2.2.1)/\eC (c6 p inp) h0 nb x.2.2.1 x.2.2.2.2.1/\k7 x.2.2.2.2.1 x.2.1 x.2.2.2.2.2) (λx=>e.aO.length-x.1) (0,[],S,st+1,h,none) ⟨by simp[dT,dB,mX,aB.aM],Heap.le_refl _,iZ _,rfl,rfl,hR,rfl⟩ ?_
 rintro⟨i,vs,S1,t1,g,o⟩ ⟨hi,hvl,hs,hR,hos⟩
 simp only at hi hvl hs hR hos ⊢
 rw[aB.aM]
 rcases cP i e.aO.length with hlt|hge
 ·have ek:e.aO[i]?=some e.aO[i]:=b6 hlt
  obtain⟨j,S2,t2,hj,rO⟩:=oI hs0 hlt hs
  obtain⟨b1,b2,b3,b4⟩:=jF hp (l:=e.aO.take i) oC aA henv (λx hx=>o0 x (aWJ hx)) hf _ _ hs
  simp only at b1 b2 b3
  have hsub:bQ [.op nb 6 0 0,.ip 5 (e.aO.map aB.c) i 0,ints env] [.op nb 6 0 0,.ip 5 [e.aO[i].c] 0 0,ints env]:=.cons (.refl _) (.cons (Sub.ip (bF hlt) aS) (.cons (.refl _) .nil))
  cases o with
  |none =>
   rw[cZ]at hos
   subst hos
   simp -dsimp -implicitDefEqProofs only[go_sem,↓reduceIte,Tryz.f283,dD,aN,hlt,ek]
   refine λ_=>aH.kF (gK.sub hsub (hv h0 g nb t1 e.aO[i] env S1 funcs j S2 t2 hR b4.2.2.2 (o0 _ (dG _)) gJ hf b1 (λx hx=>(henv x hx).ext b2) a9J hj)) ?_
   rintro r h' ⟨rfl,pF⟩
   simp -dsimp -implicitDefEqProofs only[go_sem,↓reduceIte,Tryz.f283]
   refine⟨cM,cM,cM,λb mE=>?_⟩
   refine⟨(i+1,[j],S2,t2,h',some b),⟨rfl,by rw[IntWalk.i64_in _ aA];rfl⟩,Heap.le_refl _,⟨by omega,by simp only[al3]at hvl;subst hvl;rfl,rO,pF,mE⟩,by simp only;omega⟩
  |some m =>
   rw[b8]at hos
   simp -dsimp -implicitDefEqProofs only[go_sem,↓reduceIte,Tryz.f283,bZ,aL,hlt,ek]
   refine λ_=>aH.kF (gK.sub hsub (hv _ _ nb t1 e.aO[i] env S1 funcs j S2 t2 (hR.over hos) b4.2.2.2 (o0 _ (dG _)) gJ hf b1 (λx hx=>(henv x hx).ext b2) a9J hj)) ?_
   rintro r h' ⟨rfl,pF⟩
   obtain⟨g2,rfl,hg2,pF⟩:=pF.base (hR.none hos)
   simp -dsimp -implicitDefEqProofs only[go_sem,↓reduceIte,Tryz.f283]
   refine⟨cM,cM,cM,fL _,by omega,by omega,λb ⟨hbm,mE⟩=>?_⟩
   obtain⟨aN4,xQ,xR,aN5⟩:=cE (show ¬b=m from hbm)
   refine⟨(i+1,vs++[j],S2,t2,g2,some b),⟨by rw[bZ,rL];rfl,by rw[IntWalk.i64_in _ aA];rfl⟩,?_,⟨by omega,by rw[rL,hvl];rfl,rO,pF,mE⟩,by simp only;omega⟩
   simp only[aL]
   rw[←iX]
   exact nP hg2
 ·have hi':i=e.aO.length:=by omega
  subst hi'
  rw[eL,hs0]at hs
  obtain⟨rfl,rfl⟩:=nI (nI (Except.ok.inj hs)).1
  obtain rfl:=(nI (Except.ok.inj hs)).2
  obtain⟨om,og,ov,H⟩:=hR
  have hb:=H.box
  unfold c6 at hb
  have hR:eC (c6 p inp) h0 nb Sw g:=⟨om,og,ov,H⟩
  have hsubp:∀ x,bQ [.op nb 6 0 0,.ip 5 (f.bB.map aB.c) e.dO.toNat 0,x] [.op nb 6 0 0,.ip 5 [(p.out e.cC e.dO).c] 0 0,x]:=λx=>.cons (.refl _) (.cons (Sub.ip (by rw[rM,F.out];rfl) aS) (.cons (.refl _) .nil))
  rcases hk with hk|hk
  ·rw[aGI h3 hk,hs0]at hr
   have hr':fM p n tw (p.out e.cC e.dO) ws Sw=.ok ((k,S'),t):=hr
   have hfin:∀ {h1 g1:Heap},eC (c6 p inp) h1 nb Sw g1->gK Tryz.prog 263 [.op nb 6 0 0,.ip 5 (f.bB.map aB.c) e.dO.toNat 0,ints ws] g1 λr h'=>r=I k/\eC (c6 p inp) h1 nb S' h':=λvR =>
    gK.sub (hsubp _) (hv _ _ nb tw (p.out e.cC e.dO) ws Sw e.cC k S' t vR aA a81 f1 aA q1 q3.2 aA hr')
   cases o with
   |none =>
    rw[cZ]at hos
    subst hos
    simp -dsimp -implicitDefEqProofs only[go_sem,↓reduceIte,Tryz.f283,dD,aN,cN,fP,hb,F.get,aX.aM,hk]
    refine λ_=>⟨f1,f2,f3,by omega,?_⟩
    refine aH.kF (gK.sub (.cons (.refl _) (.cons (.refl _) (.cons (Sub.loose _ _ _) .nil))) (hfin hR)) ?_
    rintro r h' ⟨rfl,pF⟩
    simp -dsimp -implicitDefEqProofs only[go_sem,↓reduceIte,Tryz.f283]
    exact⟨_,_,cR _ _,rfl,pF⟩
   |some m =>
    rw[b8]at hos
    obtain⟨kK,e8,fC,mM⟩:=cE (show ¬nb=m from λq=>by rw[q,hos]at hb;cases hb)
    simp -dsimp -implicitDefEqProofs only[go_sem,↓reduceIte,Tryz.f283,bZ,aL,cN,fP,hb,e8,fC,aD,F.get,aX.aM,hk]
    refine λ_=>⟨f1,f2,f3,by omega,?_⟩
    refine aH.aN2 (es:=ws.map λn=>[I n]) rfl rfl kK aS hos ?_
    refine gK.mono (hfin (hR.over (o:=.gone) hos)) ?_
    rintro r h2 ⟨rfl,vR⟩
    obtain⟨g3,rfl,hg3,vR⟩:=vR.base (hR.none hos)
    simp -dsimp -implicitDefEqProofs only[go_sem,↓reduceIte,Tryz.f283]
    exact⟨_,g3,eD (Heap.aW hg3 (Heap.le_refl _)),rfl,vR⟩
  ·have f7:=F.loop hk
   rw[aGJ h3 hk,hs0]at hr
   obtain⟨w0,u0,h9,hr⟩:=j2 hr
   cases h9
   obtain⟨w,u,hit,hr2⟩:=j2 hr
   obtain⟨e1,rfl⟩:=nI (Except.ok.inj hr2)
   obtain⟨rfl,rfl⟩:=nI e1
   obtain⟨us0,S'⟩:=w
   simp only at hit hr2 e1 ⊢
   have hfl:∀ us t S2,Good inp S2 t->(us.length=f.bB.length/\∀ x∈us,qQ S2 x)->t<=3000->okQ (aKU inp S2 t f.bB.length) (oG (λt e S=>fM p n t e us S) (p.outs e.cC) t S2):=λus w S2 hg' hv' hw=>by
    rw[F.eq]
    exact jF hp hg' hw hv'.2 (funcs:=e.cC) (λx hx=>by rw[hv'.1,f7.2.2];exact F.oks x hx) aA
   obtain⟨m,rfl⟩:∃ m,o=some m:=by
    cases o with
    |none=>rw[cZ]at hos;rw[hos]at hvl;simp at hvl;omega
    |some m=>exact⟨m,rfl⟩
   rw[b8]at hos
   obtain⟨kK,e8,fC,mM⟩:=cE (show ¬nb=m from λq=>by rw[q,hos]at hb;cases hb)
   simp -dsimp -implicitDefEqProofs only[go_sem,↓reduceIte,Tryz.f283,bZ,aL,cN,fP,hb,e8,fC,aD,F.get,aX.aM,hk]
   refine λ_=>⟨f1,f2,?_⟩
   refine cY aNS aNT aNU (λx:Nat×List Int×eE×Nat×Heap×Option Nat=>[(0,.op nb 6 0 0),(1,.ip 5 [e.c] 0 0),(7,bNV x.2.1 x.2.2.2.2.2),(9,.ip 3 (p.aJ.map aX.c) e.cC.toNat 0),(10,I x.1)]) (λx=>c7 x.2.2.2.2.1 (.row 1 ((x.2.1.map λn=>[I n]).map (List.map .v))) x.2.2.2.2.2) (λx=>x.1<=e.dF.toNat/\x.2.1.length=f.bB.length/\vG (λvs t S=>oG (λt e S=>fM p n t e vs S) (p.outs e.cC) t S) x.1 ws tw Sw=.ok ((x.2.1,x.2.2.1),x.2.2.2.1)/\eC (c6 p inp) h0 nb x.2.2.1 x.2.2.2.2.1/\∀ q,x.2.2.2.2.2=some q->x.2.2.2.2.1 q=none) (λx=>e.dF.toNat-x.1) (0,ws,Sw,tw,g,some m) ⟨by simp[dT,dB,bNV,aB.aM,hvl,hk],Heap.le_refl _,iZ _,by simp only;omega,rfl,hR,λq e=>by cases e;exact hos⟩ ?_
   clear hR hos H hb
   rintro⟨i,us,S2,t2,g,o⟩ ⟨hi,hul,hs,hR,hos⟩
   simp only at hi hul hs hR hos ⊢
   obtain⟨w1,w2,w3,w4⟩:=aFV hfl i ws tw Sw q1 ⟨by omega,q3.2⟩ q6 _ _ hs
   simp only at w1 w2 w3
   rw[aB.aM]
   rcases cP i e.dF.toNat with hlt|hge
   ·obtain⟨l2,S3,t3,hf3,hs3⟩:=a7T hit hlt hs
    rw[F.eq]at hf3
    have hou:∀ {h1 g1:Heap},eC (c6 p inp) h1 nb S2 g1->gK Tryz.prog 250 [.op nb 6 0 0,.ip 3 (p.aJ.map aX.c) e.cC.toNat 0,ints us] g1 λr h'=>r=ints l2/\eC (c6 p inp) h1 nb S3 h':=λvR =>
     gK.sub (.cons (.refl _) (.cons (Sub.ip (by rw[rM,F.get];rfl) aS) (.cons (.refl _) .nil))) (a2Q hp hv _ _ nb t2 f us S2 e.cC l2 S3 t3 vR w4.2.2.2 aA (by rw[hul,f7.2.2];exact F.oks) f1 aA w1 w3.2 aA hf3)
    obtain⟨v1,v2,v3,v4⟩:=hfl us t2 S2 w1 w3 w4.2.2.2 (l2,S3) t3 (by rw[F.eq];exact hf3)
    simp only at v3
    cases o with
    |none =>
     simp -dsimp -implicitDefEqProofs only[go_sem,↓reduceIte,Tryz.f283,aVY,aN]
     refine⟨λhq=>aH.kF (hou hR) ?_,λhq=>by omega⟩
     rintro r h' ⟨rfl,pF⟩
     simp -dsimp -implicitDefEqProofs only[go_sem,↓reduceIte,Tryz.f283]
     exact⟨(i+1,l2,S3,t3,h',none),⟨rfl,by rw[IntWalk.i64_in _ aA];rfl⟩,Heap.le_refl _,⟨by omega,v3.1,hs3,pF,λq e=>by cases e⟩,by simp only;omega⟩
    |some b =>
     have mE:=hos b rfl
     obtain⟨pS,kU,kV,p9⟩:=cE (show ¬nb=b from λq=>by obtain⟨_,_,_,H2⟩:=hR;have:=H2.box;rw[q,mE]at this;cases this)
     simp -dsimp -implicitDefEqProofs only[go_sem,↓reduceIte,Tryz.f283,aVZ,aL]
     refine⟨λhq=>aH.aN2 (es:=us.map λn=>[I n]) rfl rfl pS aS mE ?_,λhq=>by omega⟩
     refine gK.mono (hou (hR.over (o:=.gone) mE)) ?_
     rintro r h2 ⟨rfl,vR⟩
     obtain⟨g3,rfl,hg3,vR⟩:=vR.base (hR.none mE)
     simp -dsimp -implicitDefEqProofs only[go_sem,↓reduceIte,Tryz.f283]
     exact⟨(i+1,l2,S3,t3,g3,none),⟨rfl,by rw[IntWalk.i64_in _ aA];rfl⟩,Heap.aW hg3 (Heap.le_refl _),⟨by omega,v3.1,hs3,vR,λq e=>by cases e⟩,by simp only;omega⟩
   ·have hi':i=e.dF.toNat:=by omega
    subst hi'
    rw[hit]at hs
    obtain⟨rfl,rfl⟩:=nI (nI (Except.ok.inj hs)).1
    have gp:us0[e.dO.toNat]?=some (us0.getD e.dO.toNat 0):=fU aA
    cases o with
    |none =>
     simp -dsimp -implicitDefEqProofs only[go_sem,↓reduceIte,Tryz.f283,aVY,aN,gp]
     exact⟨λq=>by omega,λ_=>⟨f3,by omega,_,_,cR _ _,rfl,hR⟩⟩
    |some b =>
     have mE:=hos b rfl
     simp -dsimp -implicitDefEqProofs only[go_sem,↓reduceIte,Tryz.f283,aVZ,aL,gp]
     exact⟨λq=>by omega,λ_=>⟨f3,by omega,_,_,eD (Heap.aW mE (Heap.le_refl _)),rfl,hR⟩⟩
theorem bIN {p:aK} (hp:p.ok) {inp:Int} {n:Nat} (hv:vJ p inp n) {h0 h:Heap} {nb st:Nat} {e:aB} {env:List Int} {S:eE} {funcs:Int} {k:Int} {S':eE} {t:Nat} (hR:eC (c6 p inp) h0 nb S h) (hst:st<3000)
  (hok:e.ok p funcs env.length) (gJ:0<=funcs) (hf:funcs<=p.aJ.length) (hg:Good inp S st) (henv:∀ x∈env,qQ S x) (hel:env.length<=412+st) (hr:fM p (n+1) st e env S=.ok ((k,S'),t)) (hk:e.bH=10) :
  gK Tryz.prog 263 [.op nb 6 0 0,.ip 5 [e.c] 0 0,ints env] h λr h'=>r=I k/\eC (c6 p inp) h0 nb S' h':=by
 rw[aB.aM]
 have hnode:=(aB.fG _ _ _ _).1 hok
 have h3:¬st=3000:=by omega
 have hcap:=hg.cap
 have hgcap:=hg.tT
 have oC:=hg.later (mF st)
 have hc:=a2R hp hv hR hst hok gJ hf hg henv hel hr (Or.inl hk)
 rw[aB.aM,hk]at hc
 refine lW 183 vI aFZ aF0 Tryz.func263 ?_
 simp -dsimp -implicitDefEqProofs only[go_sem,↓reduceIte,Tryz.f263,hk]
 refine aH.kF hc ?_
 rintro r h' ⟨rfl,pF⟩
 simp -dsimp -implicitDefEqProofs only[go_sem,↓reduceIte,Tryz.f263]
 exact⟨_,_,cR _ _,rfl,pF⟩
theorem bIO {p:aK} (hp:p.ok) {inp:Int} {n:Nat} (hv:vJ p inp n) {h0 h:Heap} {nb st:Nat} {e:aB} {env:List Int} {S:eE} {funcs:Int} {k:Int} {S':eE} {t:Nat} (hR:eC (c6 p inp) h0 nb S h) (hst:st<3000)
  (hok:e.ok p funcs env.length) (gJ:0<=funcs) (hf:funcs<=p.aJ.length) (hg:Good inp S st) (henv:∀ x∈env,qQ S x) (hel:env.length<=412+st) (hr:fM p (n+1) st e env S=.ok ((k,S'),t)) (hk:e.bH=11) :
  gK Tryz.prog 263 [.op nb 6 0 0,.ip 5 [e.c] 0 0,ints env] h λr h'=>r=I k/\eC (c6 p inp) h0 nb S' h':=by
 rw[aB.aM]
 have hnode:=(aB.fG _ _ _ _).1 hok
 have h3:¬st=3000:=by omega
 have hcap:=hg.cap
 have hgcap:=hg.tT
 have oC:=hg.later (mF st)
 have hc:=a2R hp hv hR hst hok gJ hf hg henv hel hr (Or.inr hk)
 rw[aB.aM,hk]at hc
 refine lW 183 vI aFZ aF0 Tryz.func263 ?_
 simp -dsimp -implicitDefEqProofs only[go_sem,↓reduceIte,Tryz.f263,hk]
 refine aH.kF hc ?_
 rintro r h' ⟨rfl,pF⟩
 simp -dsimp -implicitDefEqProofs only[go_sem,↓reduceIte,Tryz.f263]
 exact⟨_,_,cR _ _,rfl,pF⟩
theorem bRD {p:aK} (hp:p.ok) {inp:Int}:∀ n,vJ p inp n
 |0=>λh0 h nb st e env S funcs k S' t hR hst hok gJ hf hg henv hel hr=>by rw[fM]at hr;cases hr
 |n+1=>λh0 h nb st e env S funcs k S' t hR hst hok gJ hf hg henv hel hr=>by
  have hv:=bRD hp (inp:=inp) n
  by_cases h3:st=3000
  ·rw[fM,if_pos h3]at hr;cases hr
  have h3':st<3000:=by omega
  rcases aB4 ((aB.fG _ _ _ _).1 hok).1 with hk|hk|hk|hk|hk|hk|hk|hk|hk|hk|hk
  ·exact bNM hp hv hR h3' hok gJ hf hg henv hel hr hk
  ·exact bNN hp hv hR h3' hok gJ hf hg henv hel hr hk
  ·exact bNQ hp hv hR h3' hok gJ hf hg henv hel hr hk
  ·exact bNR hp hv hR h3' hok gJ hf hg henv hel hr hk
  ·exact bNS hp hv hR h3' hok gJ hf hg henv hel hr hk
  ·exact bNT hp hv hR h3' hok gJ hf hg henv hel hr hk
  ·exact bNP hp hv hR h3' hok gJ hf hg henv hel hr hk
  ·exact bNU hp hv hR h3' hok gJ hf hg henv hel hr hk
  ·exact bNO hp hv hR h3' hok gJ hf hg henv hel hr hk
  ·exact bIN hp hv hR h3' hok gJ hf hg henv hel hr hk
  ·exact bIO hp hv hR h3' hok gJ hf hg henv hel hr hk
theorem zY.bRE {bx:eE->Option Nat->Option Nat->Option Nat->cF} {h0 h F hh:Heap} {nb:Nat} {inp:Int} {S:eE} {om og ov:Option Nat} (H:zY bx h0 nb S om og ov h) (l:List Int)
  (hF:∀ n,some n=om∨some n=og->F n=h n) (hl:hh.le F) (hn:∀ n,some n=om∨some n=og->hh n=none) :
  Shift (.agg [I inp,jV 4 S.code.length om,jV 2 S.guards.length og,ints l]) F (.agg [I inp,cI 4 cO.c S.code,cI 2 fK.c S.guards,ints l]) hh:=by
 have hc:=H.code
 have hg:=H.gds
 have ap:=H.apart
 cases om with
 |none =>
  have hc0:S.code=[]:=jT.1 hc
  cases og with
  |none =>
   have hg0:S.guards=[]:=jT.1 hg
   rw[hc0,hg0]
   exact Shift.of (Sub.agg (.cons (.refl _) (.cons (Sub.nil _ _) (.cons (Sub.nil _ _) (.cons (.refl _) .nil))))) hl
  |some g =>
   have hgF:=(hF g (.inr rfl)).trans hg.2
   rw[hc0]
   refine Shift.trans (Shift.of (Sub.agg (.cons (.refl _) (.cons (Sub.nil 4 false) (.cons (.refl _) (.cons (.refl _) .nil))))) (Heap.le_refl F)) ?_
   refine nU (n:=g) (sz:=2) (S.guards.map fK.c) (hn g (.inr rfl)) ?_ aUN ?_
   ·intro q
    by_cases e:q=g
    ·subst e;right;rw[bG];exact hgF.symm
    ·rw[aD _ _ _ _ e];exact hl q
   ·simp[aC.gU,nZ,jV,gF]
 |some m =>
  have hmF:=(hF m (.inl rfl)).trans hc.2
  cases og with
  |none =>
   have hg0:S.guards=[]:=jT.1 hg
   rw[hg0]
   refine Shift.trans (Shift.of (Sub.agg (.cons (.refl _) (.cons (.refl _) (.cons (Sub.nil 2 false) (.cons (.refl _) .nil))))) (Heap.le_refl F)) ?_
   refine nU (n:=m) (sz:=4) (S.code.map cO.c) (hn m (.inl rfl)) ?_ aUN ?_
   ·intro q
    by_cases e:q=m
    ·subst e;right;rw[bG];exact hmF.symm
    ·rw[aD _ _ _ _ e];exact hl q
   ·simp[aC.gU,nZ,jV,gF]
  |some g =>
   have hgF:=(hF g (.inr rfl)).trans hg.2
   have hne:¬g=m:=λe=>((ap g).2.1 fD).1 rfl
   refine Shift.trans (b:=.agg [I inp,jV 4 S.code.length (some m),cI 2 fK.c S.guards,ints l]) (h2:=bT hh m (.row 4 (rowsOf cO.c S.code))) ?_ ?_
   ·refine nU (n:=g) (sz:=2) (S.guards.map fK.c) (by rw[aD _ _ _ _ hne];exact hn g (.inr rfl)) ?_ bPB ?_
    ·intro q
     by_cases e:q=g
     ·subst e;right;rw[bG];exact hgF.symm
     ·rw[aD _ _ _ _ e]
      by_cases e2:q=m
      ·subst e2;right;rw[bG];exact hmF.symm
      ·rw[aD _ _ _ _ e2];exact hl q
    ·have hne':¬m=g:=λe=>hne e.symm
     simp[aC.gU,nZ,jV,gF,hne']
   ·refine nU (n:=m) (sz:=4) (S.code.map cO.c) (hn m (.inl rfl)) (Heap.le_refl _) aUN ?_
    simp[aC.gU,nZ,jV,gF]
@[go_sem] def bBT:List Nat:=[0,1,2,6,7,8,9,23]
@[go_sem] def bRF:List Nat:=[19,35]
theorem a2S {h0:Heap} {nb:Nat} (p:aK) (inp:Int) (hn:h0 nb=none):eC (c6 p inp) h0 nb ⟨[],[],[]⟩ (bT h0 nb (c6 p inp ⟨[],[],[]⟩ none none none)) :=
 ⟨none,none,none,bG _ _ _,a2O _ _,rfl,rfl,rfl,λn h=>bO5,λn h1 _ _ _=>aD _ _ _ _ h1⟩
theorem bD0 {p:aK} (hp:p.ok) (f:Int) (hf:0<=f/\f<p.aJ.length) (args:List Int) (ha:p4 args) (bUX:args.length<=12) (hl:∀ F,p.aJ[f.toNat]?=some F->(args.length:Int)=F.bV) {l:List Int} {S':eE} {t:Nat} (hr:aT7 p f args=.ok ((l,S'),t)) :
  dQ Tryz.prog 227 [.ip 1 [p.c] 0 0,I f,ints args] (.agg (rJ.c ⟨args.length,S'.code,S'.guards,l⟩)):=by
 obtain⟨F,ef,hF1,hF2,hF3,hF4⟩:=aGE hp hf
 have hla:=hl F ef
 simp only[aK.aM]
 refine tQ 54 bBT bRF b9 Tryz.func227 λh=>?_
 simp -dsimp -implicitDefEqProofs only[go_sem,↓reduceIte,Tryz.f227,ef,aX.aM]
 intro n6 z6
 try simp -dsimp -implicitDefEqProofs only[go_sem,↓reduceIte,Tryz.f227,ef,aX.aM]
 refine λnb ⟨hb6,zb⟩ _=>⟨by decide,?_⟩
 obtain⟨uU,kR,kS,aGB⟩:=cE (show ¬nb=n6 from hb6)
 rw[aF]
 generalize hh6:bT h n6 (.row 4 [[.v (.int .i64 0),.v .aV,.v .aV,.v .aV]])=h6
 have zb6:h6 nb=none:=by rw[←hh6,aD _ _ _ _ uU];exact zb
 have hin:=a2S (h0:=h6) p args.length zb6
 refine cY bBT bRF b9 (λx:Nat×Heap×Option Nat=>[(0,.ip 1 [[cI 3 aX.c p.aJ]] 0 0),(1,I f),(2,ints args),(6,.op n6 4 0 0),(7,.op nb 6 0 0),(8,mX 1 x.1 x.2.2),(9,I x.1)]) (λx=>c7 x.2.1 (.row 1 (((aKW x.1).map λn=>[I n]).map (List.map .v))) x.2.2) (λx=>x.1<=args.length/\eC (c6 p args.length) h6 nb (aD8 args x.1) x.2.1/\k7 x.2.1 (aKW x.1) x.2.2) (λx=>args.length-x.1) (0,bT h6 nb (c6 p args.length ⟨[],[],[]⟩ none none none),none) ⟨by simp[dT,dB,mX],Heap.le_refl _,iZ _,hin,rfl⟩ ?_
 rintro⟨k,g,o⟩ ⟨hk,hR,hos⟩
 simp only at hk hR hos ⊢
 have hel:(aKW k).length=k:=by simp[aKW]
 rcases cP k args.length with hlt|hge
 ·have ek:args[k]?=some args[k]:=b6 hlt
  have hsl:(aD8 args k).code.length=(aD8 args k).iG.length:=by simp[aD8];omega
  have hvl:(aD8 args k).iG.length=k:=by simp[aD8];omega
  have hy:=aVQ k
  cases o with
  |none =>
   rw[cZ]at hos
   have k0:k=0:=by rw[←hel,hos];rfl
   subst k0
   simp -dsimp -implicitDefEqProofs only[go_sem,↓reduceIte,Tryz.f227,dD,aN,hlt,ek]
   refine λ_=>aH.kF (aFY hR ⟨1,0,0,((0:Nat):Int)⟩ args[0] hsl aA) ?_
   rintro r h' ⟨rfl,pF⟩
   simp -dsimp -implicitDefEqProofs only[go_sem,↓reduceIte,Tryz.f227]
   refine⟨cM,cM,cM,λb mE=>⟨(1,h',some b),⟨rfl,by rw[IntWalk.i64_in _ aA];rfl⟩,?_,⟨hlt,by rw[aGM hlt];exact pF,mE⟩,by simp only;omega⟩⟩
   rw[hvl]
   exact Heap.le_refl _
  |some m =>
   rw[b8]at hos
   simp -dsimp -implicitDefEqProofs only[go_sem,↓reduceIte,Tryz.f227,bZ,aL,hlt,ek]
   refine λ_=>aH.kF (aFY (hR.over hos) ⟨1,0,0,(k:Int)⟩ args[k] hsl aA) ?_
   rintro r h' ⟨rfl,pF⟩
   obtain⟨g2,rfl,hg2,pF⟩:=pF.base (hR.none hos)
   simp -dsimp -implicitDefEqProofs only[go_sem,↓reduceIte,Tryz.f227]
   refine⟨cM,cM,cM,al8 hel.symm,by omega,by omega,λb ⟨hbm,mE⟩=>⟨(k+1,g2,some b),⟨rfl,by rw[IntWalk.i64_in _ aA];rfl⟩,?_,⟨hlt,by rw[aGM hlt];exact pF,mE⟩,by simp only;omega⟩⟩
   simp only[aL]
   rw[hvl,hy,←iX (λn=>I n),hel]
   exact nP hg2
 ·have hk':k=args.length:=by omega
  subst hk'
  rw[a2J]at hR
  have hg0:=aSF args ha bUX
  have hie:aKW args.length=inE args:=rfl
  have hr':oG (λt e S=>fM p 3001 t e (inE args) S) F.bB 0 (inS args)=.ok ((l,S'),t):=by rw[←hF3];exact hr
  have hall:∀ {h0 g:Heap},eC (c6 p args.length) h0 nb (inS args) g->gK Tryz.prog 250 [.op nb 6 0 0,.ip 3 (p.aJ.map aX.c) f.toNat 0,ints (inE args)] g (λr h'=>r=ints l/\eC (c6 p args.length) h0 nb S' h'):=λhR =>
   gK.sub (.cons (.refl _) (.cons (Sub.ip (by rw[rM,ef];rfl) aS) (.cons (.refl _) .nil))) (a2Q hp (bRD hp 3001) _ _ nb 0 F (inE args) (inS args) f l S' t hR aA aA (λx hx=>by rw[←hie,hel,hla];exact hF4 x hx) hf.1 aA hg0 (a7F args) (by rw[←hie,hel];omega) hr')
  cases o with
  |none =>
   rw[cZ,hie]at hos
   simp -dsimp -implicitDefEqProofs only[go_sem,↓reduceIte,Tryz.f227,dD,aN,cN,fP,ef,aX.aM]
   refine λ_=>⟨hf.1,hf.2,aH.kF (gK.sub (.cons (.refl _) (.cons (.refl _) (.cons (by rw[hos];exact Sub.loose _ _ _) .nil))) (hall hR)) ?_⟩
   rintro r h2 ⟨rfl,om,og,ov,H2⟩
   have mE:=H2.box
   unfold c6 at mE
   have hz:=H2.keep (n:=n6) a9K
   have hz1:=hz.1
   simp -dsimp -implicitDefEqProofs only[go_sem,↓reduceIte,Tryz.f227,mE,hz1,kR,kS,aD]
   generalize hE:h2=h2H at *
   have hle:h.le h2H:=by
    have h1:=H2.le
    rw[←hh6]at h1
    intro q
    by_cases e:q=n6
    ·subst e;exact .inl z6
    ·have:=h1 q
     rwa [aD _ _ _ _ e]at this
   have hfr:∀ n,some n=om∨some n=og->h n=none/\¬n=n6/\¬n=nb:=λn hn=>by
    have h1:=H2.fresh n a8X
    have h3:¬n=n6:=λe=>by rw[←hh6,e,bG]at h1;cases h1
    refine⟨by rwa [←hh6,aD _ _ _ _ h3]at h1,h3,λe=>?_⟩
    rcases hn with hn|hn
    ·exact((H2.apart n).1 e).1 hn
    ·exact((H2.apart n).1 e).2.1 hn
   refine⟨by rw[fR,fR];rfl,?_⟩
   rw[rJ.aM]
   refine H2.bRE l (λn hn=>?_) (Heap.aW z6 (Heap.aW zb (hle))) (λn hn=>(hfr n hn).1)
   obtain⟨v1,v2,v3⟩:=hfr n hn
   rw[aD _ _ _ _ v2,aD _ _ _ _ v3]
  |some m =>
   rw[b8]at hos
   simp -dsimp -implicitDefEqProofs only[go_sem,↓reduceIte,Tryz.f227,bZ,aL,cN,fP,ef,aX.aM]
   obtain⟨kK,e8,fC,mM⟩:=cE (show ¬nb=m from λe=>by obtain⟨_,_,_,H1⟩:=hR;have:=H1.box;rw[e,hos]at this;cases this)
   refine λ_=>⟨hf.1,hf.2,aH.aN2 rfl rfl kK (by rw[k5];exact hel.symm) hos ?_⟩
   refine gK.mono (hall (hR.over (o:=.gone) hos)) ?_
   rintro r h2 ⟨rfl,pF⟩
   obtain⟨g3,rfl,hg3,⟨om,og,ov,H2⟩⟩:=pF.base (hR.none hos)
   have mE:=H2.box
   unfold c6 at mE
   have hz:=H2.keep (n:=n6) a9K
   have hz1:=hz.1
   obtain⟨a7M,a7N,a7O,bUZ⟩:=cE (show ¬n6=m from λe=>by rw[e,hg3]at hz1;cases hz1)
   simp -dsimp -implicitDefEqProofs only[go_sem,↓reduceIte,Tryz.f227,mE,hz1,kR,e8,kS,a7N,fC,a7O,aD]
   have hgo:∀ n,some n=om∨some n=og->¬n=m:=λn hn e=>by
    have:=(H2.apart n).2.2.2 (by rw[e];exact hg3)
    rcases hn with hn|hn
    ·exact this.2.1 hn
    ·exact this.2.2.1 hn
   have hhm:h m=none:=by
    have h1:=hR.none hos
    rw[←hh6,aD _ _ _ _ (λe=>a7M e.symm)]at h1
    exact h1
   generalize hE:g3=h2H at *
   have hle:h.le h2H:=by
    have h1:=H2.le
    rw[←hh6]at h1
    intro q
    by_cases e:q=n6
    ·subst e;exact .inl z6
    ·have:=h1 q
     rwa [aD _ _ _ _ e]at this
   have hfr:∀ n,some n=om∨some n=og->h n=none/\¬n=n6/\¬n=nb:=λn hn=>by
    have h1:=H2.fresh n a8X
    have h3:¬n=n6:=λe=>by rw[←hh6,e,bG]at h1;cases h1
    refine⟨by rwa [←hh6,aD _ _ _ _ h3]at h1,h3,λe=>?_⟩
    rcases hn with hn|hn
    ·exact((H2.apart n).1 e).1 hn
    ·exact((H2.apart n).1 e).2.1 hn
   refine⟨by rw[fR,fR];rfl,?_⟩
   rw[rJ.aM]
   refine H2.bRE l (λn hn=>?_) (Heap.aW z6 (Heap.aW zb (Heap.aW hhm hle))) (λn hn=>(hfr n hn).1)
   obtain⟨v1,v2,v3⟩:=hfr n hn
   rw[aD _ _ _ _ v2,aD _ _ _ _ v3,aD _ _ _ _ (hgo n hn)]
def aMO (a b:List Int) (out:List Bool) (c:cO):Bool:=if c.vN=1 then decide (c.cC<a.length/\¬a.getD c.cC.toNat 0=b.getD c.cC.toNat 0)else if c.vN=2 then false else if c.vN=7 then out.getD c.fA.toNat false else(out.getD c.fA.toNat false || out.getD c.fB.toNat false)
def wJ (a b:List Int) (code:List cO):Nat->List Bool
 |0=>[]
 |k+1=>wJ a b code k++[aMO a b (wJ a b code k) (code.getD k ⟨0,0,0,0⟩)]
theorem aB9 (a b:List Int) (code:List cO):∀ k,(wJ a b code k).length=k
 |0=>rfl
 |k+1=>by rw[wJ,rL,aB9 a b code k];rfl
theorem aKZ (a b:List Int) (code:List cO) {r k:Nat} (hr:r<k):∀ n,k<=n->(wJ a b code n).getD r false=(wJ a b code k).getD r false
 |0,h=>by omega
 |n+1,h=>by
  rcases cP n k with h1|h1
  ·have:k=n+1:=by omega
   rw[this]
  ·rw[←aKZ a b code hr n h1,wJ,jC,aGO (by rw[aB9];omega),jC]
theorem bNW (a b:List Int) (code:List cO) {k n:Nat} (h:k<n):(wJ a b code n).getD k false=aMO a b (wJ a b code k) (code.getD k ⟨0,0,0,0⟩):=by
 rw[aKZ a b code (Nat.lt_succ_self k) n h,wJ,jC,aEC (by rw[aB9];exact fL _),aB9,aLH];rfl
def bNX (a b:List Int) (c:cO):Prop:=c.vN=1/\c.cC<a.length/\¬a.getD c.cC.toNat 0=b.getD c.cC.toNat 0
theorem bIP {a b:List Int} {out:List Bool} {inp:Int} {i:Nat} {c:cO} (h:kH inp i c):aMO a b out c=true↔bNX a b c∨∃ x∈opsOf c,out.getD x.toNat false=true:=by
 unfold aMO bNX opsOf
 unfold kH at h
 by_cases h1:c.vN=1
 ·rw[if_pos h1,if_neg aA,if_neg aA];simp[h1]
 rw[if_neg h1]
 by_cases h2:c.vN=2
 ·rw[if_pos h2,if_neg aA,if_neg aA];simp[h1]
 rw[if_neg h2]
 by_cases h7:c.vN=7
 ·rw[if_pos h7,if_neg aA,if_pos h7];simp[h1]
 ·rw[if_neg h7,if_pos aA];simp[h1]
theorem aMP (b:List Bool) (i:Nat) (v:Bool) (r:Nat) (hi:i<b.length):(b.set i v).getD r false=if i=r then v else b.getD r false:=by
 rw[jC,List.getElem?_set]
 by_cases e:i=r
 ·subst e;rw[if_pos rfl,if_pos rfl,if_pos hi];rfl
 ·rw[if_neg e,if_neg e,jC]
theorem aV0 (r:Nat):∀ (l:List Int) (b:List Bool),(∀ x∈l,0<=x/\x<b.length)->((zO l b).getD r false=true↔b.getD r false=true∨(r:Int)∈l)
 | [],b,_=>by simp[zO]
 |x::l,b,h=>by
  have hx:=h x al5
  rw[show zO (x::l) b=zO l (b.set x.toNat true)from rfl,aV0 r l _ (λy hy=>by rw[yU];exact h y (al6 _ hy)),aMP _ _ _ _ aA,p7]
  by_cases e:x.toNat=r
  ·rw[if_pos e];simp[show(r:Int)=x by omega]
  ·rw[if_neg e];simp[show ¬(r:Int)=x by omega]
theorem aV1 (k r:Nat):∀ (l:List Int) (b:List Bool),(∀ x∈l,0<=x/\x<(k:Int))->k<b.length->((vW k l b).getD r false=true↔b.getD r false=true∨((r:Int)∈l/\b.getD k false=true))
 | [],b,_,_=>by simp[vW]
 |x::l,b,h,hk=>by
  have hx:=h x al5
  rw[show vW k (x::l) b=vW k l (b.set x.toNat (b.getD x.toNat false || b.getD k false))from rfl,aV1 k r l _ (λy hy=>h y (al6 _ hy)) (by rw[yU];exact hk),aMP _ _ _ _ aA,aMP _ _ _ _ aA,p7,if_neg (show ¬x.toNat=k by omega)]
  by_cases e:x.toNat=r
  ·rw[if_pos e]
   subst e
   simp[show((x.toNat:Nat):Int)=x by omega]
   exact λ_ h=>.inr h
  ·rw[if_neg e];simp[show ¬(r:Int)=x by omega]
def bNY (a b:List Int) (code:List cO) (k:Nat) (v:List Bool):Prop:=(∃ r c,k<=r/\code[r]?=some c/\v.getD r false=true/\bNX a b c)∨∃ r,r<k/\v.getD r false=true/\(wJ a b code code.length).getD r false=true
theorem bD1 {a b:List Int} {code:List cO} {inp:Int} (hi:∀ i c,code[i]?=some c->kH inp i c) {k:Nat} (hk:k<code.length) {v:List Bool} (hv:v.length=code.length):bNY a b code (k+1) v↔bNY a b code k (vW k (a2K code k) v):=by
 have ek:code[k]?=some code[k]:=b6 hk
 have hok:=hi k _ ek
 have hlt:=bIK hok
 have hg:∀ r,(vW k (a2K code k) v).getD r false=true↔v.getD r false=true∨((r:Int)∈opsOf code[k]/\v.getD k false=true):=λr=>by
  rw[a2L hk];exact aV1 k r _ _ hlt aA
 have hm:(wJ a b code code.length).getD k false=true↔bNX a b code[k]∨∃ x∈opsOf code[k],(wJ a b code code.length).getD x.toNat false=true:=by
  rw[bNW a b code hk,show code.getD k ⟨0,0,0,0⟩=code[k]by rw[jC,ek];rfl,bIP hok]
  refine or_congr Iff.rfl ⟨?_,?_⟩
  ·rintro⟨x,hx,e⟩
   exact⟨x,hx,by rw[aKZ a b code (k:=k) (by have:=hlt x hx;omega) _ aA];exact e⟩
  ·rintro⟨x,hx,e⟩
   exact⟨x,hx,by rwa [aKZ a b code (k:=k) (by have:=hlt x hx;omega) _ aA]at e⟩
 constructor
 ·rintro(⟨r,c,h1,h2,h3,h4⟩|⟨r,h1,h2,h3⟩)
  ·exact .inl ⟨r,c,by omega,h2,(hg r).2 (.inl h3),h4⟩
  ·rcases cP r k with h5|h5
   ·exact .inr ⟨r,h5,(hg r).2 (.inl h2),h3⟩
   ·obtain rfl:r=k:=by omega
    rcases hm.1 h3 with h6|⟨x,hx,h6⟩
    ·exact .inl ⟨r,_,fL _,ek,(hg r).2 (.inl h2),h6⟩
    ·have:=hlt x hx
     exact .inr ⟨x.toNat,by omega,(hg _).2 (.inr ⟨by rw[show((x.toNat:Nat):Int)=x by omega];exact hx,h2⟩),h6⟩
 ·rintro(⟨r,c,h1,h2,h3,h4⟩|⟨r,h1,h2,h3⟩)
  ·have h5:v.getD r false=true:=by
    rcases(hg r).1 h3 with h|⟨h,_⟩
    ·exact h
    ·have:=hlt _ h;omega
   rcases cP k r with h6|h6
   ·exact .inl ⟨r,c,by omega,h2,h5,h4⟩
   ·obtain rfl:r=k:=by omega
    rw[ek]at h2
    obtain rfl:=dY h2
    exact .inr ⟨r,by omega,h5,hm.2 (.inl h4)⟩
  ·rcases(hg r).1 h2 with h|⟨h,h5⟩
   ·exact .inr ⟨r,by omega,h,h3⟩
   ·exact .inr ⟨k,by omega,h5,hm.2 (.inr ⟨_,h,by rw[wQ];exact h3⟩)⟩
theorem aSN {a b:List Int} {code:List cO} {inp:Int} (hi:∀ i c,code[i]?=some c->kH inp i c):∀ (k:Nat) (v:List Bool),k<=code.length->v.length=code.length->(bNY a b code k v↔bNY a b code 0 (aKX code k v))
 |0,v,_,_=>Iff.rfl
 |k+1,v,hk,hv=>by
  rw[bD1 hi hk hv,aKX]
  exact aSN hi k _ aA (by rw[aMK];exact hv)
theorem bNZ {t:rJ} {sh:Int} {a b:List Int} (ha:(a.length:Int)=sh) {inp:Int} (hi:∀ i c,t.cX[i]?=some c->kH inp i c) (he:∀ x∈qR t,0<=x/\x<(t.cX.length:Int)) :
  (∃ r,zP t sh a b r)↔∃ e∈qR t,(wJ a b t.cX t.cX.length).getD e.toNat false=true:=by
 have h:=aSN (a:=a) (b:=b) hi t.cX.length (zO (qR t) (List.replicate t.cX.length false)) (fL _) (by rw[aMJ,al9])
 have hm:∀ r,(zO (qR t) (List.replicate t.cX.length false)).getD r false=true↔(r:Int)∈qR t:=λr=>by
  rw[aV0 r _ _ (λx hx=>by rw[al9];exact he x hx)]
  constructor
  ·rintro(h|h)
   ·rw[jC,List.getElem?_replicate]at h;split at h <;> cases h
   ·exact h
  ·exact .inr
 constructor
 ·rintro⟨r,h1,c,h2,h3,h4,h5⟩
  rcases h.2 (.inl ⟨r,c,iZ _,h2,by rw[jC];show(vX t.cX (qR t))[r]?.getD false=true;rw[h1];rfl,h3,by omega,h5⟩)with⟨r2,c2,h6,h7,_⟩|⟨r2,h6,h7,h8⟩
  ·have:=(mU.1 h7).1;omega
  ·exact⟨r2,(hm r2).1 h7,by rw[wQ];exact h8⟩
 ·rintro⟨e,h1,h2⟩
  have:=he e h1
  rcases h.1 (.inr ⟨e.toNat,by omega,(hm _).2 (by rw[show((e.toNat:Nat):Int)=e by omega];exact h1),h2⟩)with⟨r2,c2,h6,h7,h8,h9,h10,h11⟩|⟨r2,h6,_⟩
  ·refine⟨r2,?_,c2,h7,h9,by omega,h11⟩
   have hl:=(mU.1 h7).1
   have h12:(vX t.cX (qR t)).getD r2 false=true:=h8
   rw[aYS (b:=vX t.cX (qR t)) (k:=r2) (by rw[aVS];exact hl),h12]
  ·omega
theorem yP (l:List Bool) (x:Bool):aDR (l++[x])=.row 1 (((l.map λx=>[aC.bool x]).map (List.map Cell.v))++[[.v (.bool x)]]):=by simp[aDR]
theorem aYV {a b:List Int} {out:List Bool} {c:cO} (h:c.vN=1):aMO a b out c=decide (c.cC<a.length/\¬a.getD c.cC.toNat 0=b.getD c.cC.toNat 0):=if_pos h
theorem bIQ {a b:List Int} {out:List Bool} {c:cO} (h:c.vN=2):aMO a b out c=false:=by rw[aMO,if_neg aA,if_pos h]
theorem bU4 {a b:List Int} {out:List Bool} {c:cO} (h:c.vN=7):aMO a b out c=out.getD c.fA.toNat false:=by rw[aMO,if_neg aA,if_neg aA,if_pos h]
theorem bBU {a b:List Int} {out:List Bool} {c:cO} (h1:¬c.vN=1) (h2:¬c.vN=2) (h7:¬c.vN=7):aMO a b out c=(out.getD c.fA.toNat false || out.getD c.fB.toNat false):=by rw[aMO,if_neg h1,if_neg h2,if_neg h7]
@[go_sem] def bBV:List Nat:=[0,1,2,6,7,8,9,17,28,44,67,72]
@[go_sem] def bRG:List Nat:=[10,42,65,70,80]
@[go_sem] def bRH:Marks:=λid=>match id with|9=>([2,9,14,20],(.op 0 (.op 1 (.op 3 (.op 4 (.op 2 (.op 5 (.op 6 (.op 7 (.op 8 (.op 12 (.op 13 (.op 9 (.op 10 (.op 11 (.op 14 (.op 15 (.op 16 (.op 17 (.op 18 (.op 19 (.op 20 (.op 21 .nil)))))))))))))))))))))),[])|_=>([],.nil,[])
theorem bIR (t:rJ) (a b:List Int) {inp:Int} (hc:t.cX.length<=1048576) (hab:a.length=b.length) (hi:∀ i c,t.cX[i]?=some c->kH inp i c) {h:Heap} {nb:Nat} (hnb:h nb=some (.row 4 [t.c.map .v])):gK Tryz.prog 228 [.op nb 4 0 0,ints a,ints b] h λr h'=>r=cI 1 (λb=>[.bool b]) (wJ a b t.cX t.cX.length)/\h'=h:=by
 rw[rJ.aM]at hnb
 simp only[lU,tP]at hnb
 refine lW 83 bBV bRG bRH Tryz.func228 ?_
 simp -dsimp -implicitDefEqProofs only[go_sem,↓reduceIte,Tryz.f228,hnb]
 refine⟨by decide,?_⟩
 refine cY bBV bRG bRH (λx:Nat×Option Nat=>[(0,.op nb 4 0 0),(1,ints a),(2,ints b),(7,mX 1 x.1 x.2),(8,I x.1)]) (λx=>c7 h (aDR (wJ a b t.cX x.1)) x.2) (λx=>x.1<=t.cX.length/\k7 h (wJ a b t.cX x.1) x.2) (λx=>t.cX.length-x.1) (0,none) ⟨by simp[dT,dB,mX],Heap.le_refl _,iZ _,rfl⟩ ?_
 rintro⟨k,o⟩ ⟨hk,hos⟩
 simp only at hk hos ⊢
 have hml:=aB9 a b t.cX k
 rcases cP k t.cX.length with hlt|hge
 ·have ek:t.cX[k]?=some t.cX[k]:=b6 hlt
  have hins:=hi k _ ek
  have hst:wJ a b t.cX (k+1)=wJ a b t.cX k++[aMO a b (wJ a b t.cX k) t.cX[k]]:=by
   rw[wJ,show t.cX.getD k ⟨0,0,0,0⟩=t.cX[k]by rw[jC,ek];rfl]
  generalize hM:wJ a b t.cX k=M at *
  have hnext:∀ (g:Heap) (n1:Nat),h n1=none->(bT h n1 (aDR (M++[aMO a b M t.cX[k]]))).le g->∃ x':Nat×Option Nat,(.os n1 1 0 (k+1)=mX 1 x'.1 x'.2/\IntKind.i64.wrap ((k:Int)+1)=(x'.1:Int))/\(c7 h (aDR (wJ a b t.cX x'.1)) x'.2).le g/\(x'.1<=t.cX.length/\k7 h (wJ a b t.cX x'.1) x'.2)/\t.cX.length-x'.1<t.cX.length-k:=λg n1 h1 h2 =>
   ⟨(k+1,some n1),⟨rfl,by rw[IntWalk.i64_in _ aA];rfl⟩,by simp only[aL];rw[hst];exact h2,⟨hlt,h1⟩,by simp only;omega⟩
  cases o with
  |none =>
   rw[cZ]at hos
   have k0:k=0:=by rw[←hml,hos];rfl
   subst k0
   subst hos
   rcases(show t.cX[0].vN=1∨t.cX[0].vN=2 by unfold kH at hins;omega)with h1|h1
   ·by_cases hn:t.cX[0].cC<a.length
    ·have pa:a[t.cX[0].cC.toNat]?=some (a.getD t.cX[0].cC.toNat 0):=fU a9C
     have pb:b[t.cX[0].cC.toNat]?=some (b.getD t.cX[0].cC.toNat 0):=fU a9C
     simp -dsimp -implicitDefEqProofs only[go_sem,↓reduceIte,Tryz.f228,dD,aN,hnb,hlt,ek,cO.aM,h1,hn,pa,pb]
     have n0:0<=t.cX[0].cC:=by unfold kH at hins;omega
     refine λ_ n zn=>⟨n0,n0,by omega,cM,cM,cM,λn1 ⟨d1,_,z1⟩=>hnext _ n1 z1 ?_⟩
     rw[aYV h1,a8O,decide_eq_true hn,Bool.true_and,decide_not]
     exact Heap.cD (Heap.aW zn (Heap.aW zn (Heap.le_refl _)))
    ·simp -dsimp -implicitDefEqProofs only[go_sem,↓reduceIte,Tryz.f228,dD,aN,hnb,hlt,ek,cO.aM,h1,hn]
     refine λ_ n zn=>⟨cM,cM,cM,λn1 ⟨d1,_,z1⟩=>hnext _ n1 z1 ?_⟩
     rw[aYV h1,a8O,decide_eq_false hn,bKP]
     exact Heap.cD (Heap.aW zn (Heap.aW zn (Heap.le_refl _)))
   ·simp -dsimp -implicitDefEqProofs only[go_sem,↓reduceIte,Tryz.f228,dD,aN,hnb,hlt,ek,cO.aM,h1]
    refine λ_ n zn=>⟨cM,cM,cM,λn1 ⟨d1,_,z1⟩=>hnext _ n1 z1 ?_⟩
    rw[bIQ h1]
    exact Heap.cD (Heap.aW zn (Heap.aW zn (Heap.le_refl _)))
  |some m =>
   rw[b8]at hos
   by_cases h1:t.cX[k].vN=1
   ·by_cases hn:t.cX[k].cC<a.length
    ·have pa:a[t.cX[k].cC.toNat]?=some (a.getD t.cX[k].cC.toNat 0):=fU a9C
     have pb:b[t.cX[k].cC.toNat]?=some (b.getD t.cX[k].cC.toNat 0):=fU a9C
     have n0:0<=t.cX[k].cC:=by unfold kH at hins;omega
     unfold aDR
     obtain⟨kK,e8,fC,mM⟩:=cE (show ¬nb=m from λq=>by rw[q,hos]at hnb;cases hnb)
     simp -dsimp -implicitDefEqProofs only[go_sem,↓reduceIte,Tryz.f228,bZ,aL,hnb,e8,fC,aD,hlt,ek,cO.aM,h1,hn,pa,pb]
     refine λ_ n ⟨dn,zn⟩=>?_
     obtain⟨bBW,aK0,aK1,bBX⟩:=cE (show ¬n=m from dn)
     simp -dsimp -implicitDefEqProofs only[go_sem,↓reduceIte,Tryz.f228,aK0,aK1,aD,h1,hn,pa,pb]
     refine⟨n0,n0,by omega,cM,cM,cM,by omega,by omega,by omega,λb1 ⟨d1,_,dm,z1⟩=>hnext _ b1 z1 ?_⟩
     rw[yP,aYV h1,a8O,decide_eq_true hn,Bool.true_and,decide_not,gF pW]
     exact Heap.cD (Heap.aW hos (Heap.aW zn (Heap.aW zn (Heap.aW hos (Heap.le_refl _)))))
    ·unfold aDR
     obtain⟨kK,e8,fC,mM⟩:=cE (show ¬nb=m from λq=>by rw[q,hos]at hnb;cases hnb)
     simp -dsimp -implicitDefEqProofs only[go_sem,↓reduceIte,Tryz.f228,bZ,aL,hnb,e8,fC,aD,hlt,ek,cO.aM,h1,hn]
     refine λ_ n ⟨dn,zn⟩=>?_
     obtain⟨bBW,aK0,aK1,bBX⟩:=cE (show ¬n=m from dn)
     simp -dsimp -implicitDefEqProofs only[go_sem,↓reduceIte,Tryz.f228,aK0,aK1,aD,h1,hn]
     refine⟨cM,cM,cM,by omega,by omega,by omega,λb1 ⟨d1,_,dm,z1⟩=>hnext _ b1 z1 ?_⟩
     rw[yP,aYV h1,a8O,decide_eq_false hn,bKP,gF pW]
     exact Heap.cD (Heap.aW hos (Heap.aW zn (Heap.aW zn (Heap.aW hos (Heap.le_refl _)))))
   by_cases h2:t.cX[k].vN=2
   ·unfold aDR
    obtain⟨kK,e8,fC,mM⟩:=cE (show ¬nb=m from λq=>by rw[q,hos]at hnb;cases hnb)
    simp -dsimp -implicitDefEqProofs only[go_sem,↓reduceIte,Tryz.f228,bZ,aL,hnb,e8,fC,aD,hlt,ek,cO.aM,h2]
    refine λ_ n ⟨dn,zn⟩=>?_
    obtain⟨bBW,aK0,aK1,bBX⟩:=cE (show ¬n=m from dn)
    simp -dsimp -implicitDefEqProofs only[go_sem,↓reduceIte,Tryz.f228,aK0,aK1,aD,h2]
    refine⟨cM,cM,cM,by omega,by omega,by omega,λb1 ⟨d1,_,dm,z1⟩=>hnext _ b1 z1 ?_⟩
    rw[yP,bIQ h2,gF pW]
    exact Heap.cD (Heap.aW hos (Heap.aW zn (Heap.aW zn (Heap.aW hos (Heap.le_refl _)))))
   have n0:0<=t.cX[k].fA/\t.cX[k].fA<k:=by unfold kH at hins;omega
   have ga:=aYS (b:=M) (k:=t.cX[k].fA.toNat) aA
   by_cases h7:t.cX[k].vN=7
   ·unfold aDR
    obtain⟨kK,e8,fC,mM⟩:=cE (show ¬nb=m from λq=>by rw[q,hos]at hnb;cases hnb)
    simp -dsimp -implicitDefEqProofs only[go_sem,↓reduceIte,Tryz.f228,bZ,aL,hnb,e8,fC,aD,hlt,ek,cO.aM,h7,ga]
    refine λ_ n ⟨dn,zn⟩=>?_
    obtain⟨bBW,aK0,aK1,bBX⟩:=cE (show ¬n=m from dn)
    simp -dsimp -implicitDefEqProofs only[go_sem,↓reduceIte,Tryz.f228,aK0,aK1,aD,h7,ga]
    refine⟨n0.1,n0.2,cM,cM,cM,by omega,by omega,by omega,λb1 ⟨d1,_,dm,z1⟩=>hnext _ b1 z1 ?_⟩
    rw[yP,bU4 h7,gF pW]
    exact Heap.cD (Heap.aW hos (Heap.aW zn (Heap.aW zn (Heap.aW hos (Heap.le_refl _)))))
   ·have n1:0<=t.cX[k].fB/\t.cX[k].fB<k:=by unfold kH at hins;omega
    have gb:=aYS (b:=M) (k:=t.cX[k].fB.toNat) aA
    unfold aDR
    obtain⟨kK,e8,fC,mM⟩:=cE (show ¬nb=m from λq=>by rw[q,hos]at hnb;cases hnb)
    simp -dsimp -implicitDefEqProofs only[go_sem,↓reduceIte,Tryz.f228,bZ,aL,hnb,e8,fC,aD,hlt,ek,cO.aM,h1,h2,h7,ga,gb]
    refine λ_ n ⟨dn,zn⟩=>?_
    obtain⟨bBW,aK0,aK1,bBX⟩:=cE (show ¬n=m from dn)
    simp -dsimp -implicitDefEqProofs only[go_sem,↓reduceIte,Tryz.f228,aK0,aK1,aD,h1,h2,h7,ga,gb]
    refine⟨n0.1,n0.2,λhq=>?_,λhq=>?_⟩
    ·refine⟨n1.1,n1.2,cM,cM,cM,by omega,by omega,by omega,λb1 ⟨d1,_,dm,z1⟩=>hnext _ b1 z1 ?_⟩
     rw[yP,bBU h1 h2 h7,hq,aPT,gF pW]
     exact Heap.cD (Heap.aW hos (Heap.aW zn (Heap.aW zn (Heap.aW hos (Heap.le_refl _)))))
    ·refine⟨cM,cM,cM,by omega,by omega,by omega,λb1 ⟨d1,_,dm,z1⟩=>hnext _ b1 z1 ?_⟩
     rw[yP,bBU h1 h2 h7,hq,Bool.true_or,gF pW]
     exact Heap.cD (Heap.aW hos (Heap.aW zn (Heap.aW zn (Heap.aW hos (Heap.le_refl _)))))
 ·have hk':k=t.cX.length:=by omega
  subst hk'
  cases o with
  |none =>
   rw[cZ]at hos
   rw[hos]
   simp -dsimp -implicitDefEqProofs only[go_sem,↓reduceIte,Tryz.f228,dD,aN,hnb,cN,fP]
   exact λ_=>⟨_,h,Shift.of (Sub.loose _ _ _) (Heap.le_refl _),rfl,rfl⟩
  |some m =>
   rw[b8]at hos
   obtain⟨kK,e8,fC,mM⟩:=cE (show ¬nb=m from λq=>by rw[q,hos]at hnb;cases hnb)
   simp -dsimp -implicitDefEqProofs only[go_sem,↓reduceIte,Tryz.f228,bZ,aL,hnb,e8,fC,aD,cN,fP]
   exact λ_=>⟨_,h,lV ((wJ a b t.cX t.cX.length).map λx=>[.bool x]) hos (Heap.le_refl _) _ (by rw[k5,hml]),rfl,rfl⟩
theorem bD2 {j:dN} {k:Nat} {point:List Int} {l:List Int} {S:eE} (hR:oH j.bN j.b5 (dV j k)=(⟨(dV j k).length,S.code,S.guards,l⟩,0)) (hpl:(j.cT.length:Int)=j.aU) {inp:Int} (hi:∀ i c,S.code[i]?=some c->kH inp i c)
  (he:∀ x∈qR ⟨(dV j k).length,S.code,S.guards,l⟩,0<=x/\x<(S.code.length:Int)) :
  aYT j k point↔∀ e∈qR ⟨(dV j k).length,S.code,S.guards,l⟩,¬(wJ j.cT point S.code S.code.length).getD e.toNat false=true:=by
 rw[aYT,hR]
 have h:=bNZ (t:=⟨(dV j k).length,S.code,S.guards,l⟩) (b:=point) hpl hi he
 constructor
 ·rintro⟨_,h1⟩ e h2 h3
  exact h1 (h.2 ⟨e,h2,h3⟩)
 ·intro h1
  refine⟨rfl,λh2=>?_⟩
  obtain⟨e,h3,h4⟩:=h.1 h2
  exact h1 e h3 h4
@[go_sem] def aK2:List Nat:=[0,1,2,6,7,10,11,12,13,14,41,63,68,79,84,104]
@[go_sem] def a2T:Marks:=λid=>match id with|1=>([11],(.op 0 (.op 1 (.op 2 (.op 3 (.op 4 (.op 5 (.op 6 (.op 7 (.op 8 (.op 9 (.op 10 (.op 11 (.op 12 .nil))))))))))))),[])|2=>([8],(.op 0 (.op 1 (.op 2 (.op 3 (.op 4 (.op 5 (.op 6 (.op 7 (.op 8 (.op 9 (.op 10 (.op 11 (.op 12 (.op 13 (.op 14 (.op 15 .nil)))))))))))))))),[])|5=>([8,9,10],(.op 0 (.op 1 (.op 2 (.op 3 (.op 4 (.op 5 (.op 6 (.op 7 (.alt 8 (.op 9 (.op 10 .nil)) 9 (.op 8 (.op 10 .nil))))))))))),[])|_=>([],.nil,[])
theorem bIS {j:dN} (hj:j.ok) {k:Nat} (hk:k<j.aQ.length) (point:List Int) (hpt:(point.length:Int)=j.aU):dQ Tryz.prog 197 [.ip 5 [j.c] 0 0,I k,ints point] (.bool (decide (aYT j k point))):=by
 obtain⟨t1,t2,t3,t4,t5,t6,t7,t8⟩:=aIU hj hk
 obtain⟨F,eF,hf,hF,ok⟩:=aGH hj
 obtain⟨F2,eF2,hO1,hO2,hO3,hO4⟩:=aGE hj.1 hf
 have hargs:dQ Tryz.prog 225 [ints j.cT,ints (j.aQ.getD k [])] (ints (dV j k)):=bNI j.cT (j.aQ.getD k []) aA aA
 have hev:=bNJ hj.1 j.b5 hf (dV j k) t2 t4 t3
 have hok:=(aPB hj.1 j.b5 hf (dV j k) t2 t3).1
 have hsim:=(aPB hj.1 j.b5 hf (dV j k) t2 t3).2
 have her:=bBC j.bN 1 j.b5 ((dV j k).map λn=>[n])
 have hrec:=λl S' t=>bD0 (l:=l) (S':=S') (t:=t) hj.1 j.b5 hf (dV j k) t2 t4 t3
 rw[aK.aM]at hev
 simp only[aK.aM]at hrec
 simp only[dN.aM]
 refine dI 105 aK2 cG a2T Tryz.func197 λh=>?_
 simp -dsimp -implicitDefEqProofs only[go_sem,↓reduceIte,Tryz.f197,t1]
 refine⟨hk,?_⟩
 refine aH.mk hargs ?_
 simp -dsimp -implicitDefEqProofs only[go_sem,↓reduceIte,Tryz.f197]
 refine aH.mk (hev.sub (.cons (Sub.cK rfl rfl rfl) (.cons (.refl _) (.cons (.refl _) .nil)))) ?_
 simp -dsimp -implicitDefEqProofs only[go_sem,↓reduceIte,Tryz.f197]
 cases hX:aT7 j.bN j.b5 (dV j k)with
 |error c =>
  rw[hX]at hsim
  cases hY:evF j.bN 1 j.b5 ((dV j k).map λn=>[n])with
  |ok q=>rw[hY]at hsim;exact hsim.elim
  |error d =>
   have hd:¬d=0:=by rcases her d hY with rfl|rfl <;> decide
   rw[hY]at hsim
   have h1:c=d:=hsim
   rw[aVX]
   refine⟨λ_=>?_,λq=>absurd q hd⟩
   exact(decide_eq_false λz=>hd (by have:=z.1;rw[oH,hX]at this;exact h1.symm.trans this)).symm
 |ok q =>
  obtain⟨⟨l,S⟩,t⟩:=q
  rw[hX]at hsim
  cases hY:evF j.bN 1 j.b5 ((dV j k).map λn=>[n])with
  |error d=>rw[hY]at hsim;exact hsim.elim
  |ok q2 =>
  obtain⟨vs,t'⟩:=q2
  obtain⟨g1,g2,⟨g3,g4⟩,g5⟩:=hok _ _ hX
  simp only at g1 g2 g3 g4 g5
  unfold rD at g5
  have g6:=g1.cap
  have g7:=g1.tT
  have g8:=g1.len
  have hR:oH j.bN j.b5 (dV j k)=(⟨(dV j k).length,S.code,S.guards,l⟩,0):=by rw[oH,hX]
  have l0:l[Int.toNat 0]?=some (l.getD 0 0):=fU a9N
  have hpl:(j.cT.length:Int)=j.aU:=ok.2.1.1
  have hends:∀ x∈qR ⟨(dV j k).length,S.code,S.guards,l⟩,0<=x/\x<(S.code.length:Int):=λx hx=>by
   rw[qR,xB]at hx
   rcases pH.1 hx with hx|hx
   ·rcases pH.1 hx with hx|hx
    ·rw[rG.1 hx]
     show 0<=l.getD 0 0/\l.getD 0 0<(S.code.length:Int)
     rw[jC,b6 a9N]
     have:=g4 _ (dG (h:=(by rw[g3,hO3];omega:0<l.length)))
     unfold qQ at this
     rw[g8];exact this
    ·obtain⟨gg,hgg,rfl⟩:=vZ.1 hx
     rw[g8];exact g1.gds gg hgg
   ·obtain⟨cc,hcc,rfl⟩:=vZ.1 hx
    obtain⟨h1,h2⟩:=a4B.1 hcc
    obtain⟨q,hq,rfl⟩:=aM4.1 h1
    have h3:=g1.ins q S.code[q] (b6 hq)
    have h4:(S.code[q]).vN=6:=by simpa using h2
    show 0<=(S.code[q]).fB/\(S.code[q]).fB<(S.code.length:Int)
    have hq':q<S.code.length:=hq
    unfold kH at h3
    omega
  have hst:=bD2 (point:=point) hR hpl g1.ins hends
  have hmv:=λ(h:Heap) (nb:Nat)=>bIR ⟨(dV j k).length,S.code,S.guards,l⟩ j.cT point (by simp only;omega) aA g1.ins (h:=h) (nb:=nb)
  have hml:=aB9 j.cT point S.code S.code.length
  simp only[rJ.aM]at hmv
  have m0:l.getD 0 0∈qR ⟨(dV j k).length,S.code,S.guards,l⟩:=by rw[qR,xB];exact aCH _ (aCH _ al5)
  have mG:∀ g∈S.guards,g.aOJ∈qR ⟨(dV j k).length,S.code,S.guards,l⟩:=λg hg=>by rw[qR,xB];exact aCH _ (xV _ (vZ.2 ⟨g,hg,rfl⟩))
  have mC:∀ c∈S.code,c.vN=6->c.fB∈qR ⟨(dV j k).length,S.code,S.guards,l⟩:=λc hc h6=>by rw[qR];exact xV _ (vZ.2 ⟨c,a4B.2 ⟨hc,by simpa using h6⟩,rfl⟩)
  generalize wJ j.cT point S.code S.code.length=M at *
  have gM:∀ x∈qR ⟨(dV j k).length,S.code,S.guards,l⟩,M[x.toNat]?=some (M.getD x.toNat false):=λx hx=>aYS (by have:=hends x hx;omega)
  have bRI:=hrec l S t hX
  simp only[rJ.aM]at bRI
  rw[show aVX (.ok (vs,t'))=(vs.map (·.getD 0 0),(t':Int),0)from rfl]
  refine⟨λq=>absurd rfl q,λ_=>?_⟩
  have bRJ:=bRI.sub (.cons (Sub.cK (sz:=5) (es:=[[cI 3 aX.c j.bN.aJ,I j.b5,I j.aU,cI 1 (λn=>[I n]) j.cT,cI 1 (λx=>[cI 1 (λn=>[I n]) x]) j.aQ]]) (i:=0) (off:=0) (sz':=1) (e':=[cI 3 aX.c j.bN.aJ]) rfl rfl rfl) (.cons (.refl _) (.cons (.refl _) .nil)))
  refine⟨?_,λn hn=>?_⟩
  ·refine aH.mk bRJ ?_
   simp -dsimp -implicitDefEqProofs only[go_sem,↓reduceIte,Tryz.f197]
   intro n hn
   rw[aF]
   generalize hh7:bT h n (.row 4 [[.v (I (dV j k).length),.v (cI 4 cO.c S.code),.v (cI 2 fK.c S.guards),.v (ints l)]])=h7
   have h7n:h7 n=some (.row 4 [[.v (I (dV j k).length),.v (cI 4 cO.c S.code),.v (cI 2 fK.c S.guards),.v (ints l)]]):=by rw[←hh7,bG]
   have aMN:h.le h7:=by rw[←hh7];exact Heap.aW hn (Heap.le_refl _)
   refine aH.kF (hmv h7 n h7n) ?_
   rintro r h' ⟨rfl,rfl⟩
   simp -dsimp -implicitDefEqProofs only[go_sem,↓reduceIte,Tryz.f197,h7n,l0,gM _ m0]
   have e0:=hends _ m0
   refine⟨by rw[g3,hO3];omega,e0.1,by rw[hml];exact e0.2,λhq=>?_,λhq=>?_⟩
   ·exact⟨(decide_eq_false λz=>hst.1 z _ m0 hq).symm,aMN⟩
   refine cY aK2 cG a2T (λi:Nat=>[(11,.op n 4 0 0),(12,cI 1 (λb=>[.bool b]) M),(13,I i)]) (λ_=>h') (λi=>i<=S.guards.length/\∀ g∈S.guards.take i,M.getD g.aOJ.toNat false=false) (λi=>S.guards.length-i) 0 ⟨by simp[dT,dB],Heap.le_refl _,iZ _,by simp⟩ ?_
   rintro i ⟨hi,hall⟩
   rcases cP i S.guards.length with hlt|hge
   ·have eg:S.guards[i]?=some S.guards[i]:=b6 hlt
    have mg:=mG _ (dG hlt)
    have eg2:=hends _ mg
    simp -dsimp -implicitDefEqProofs only[go_sem,↓reduceIte,Tryz.f197,h7n,hlt,eg,fK.aM,gM _ mg]
    refine λ_=>⟨eg2.1,by rw[hml];exact eg2.2,λhq=>?_,λhq=>?_⟩
    ·exact⟨(decide_eq_false λz=>hst.1 z _ mg hq).symm,aMN⟩
    ·exact⟨i+1,by rw[IntWalk.i64_in _ aA];rfl,⟨hlt,iY hlt hall hq⟩,by omega⟩
   have hi':i=S.guards.length:=by omega
   subst hi'
   rw[eL]at hall
   simp -dsimp -implicitDefEqProofs only[go_sem,↓reduceIte,Tryz.f197,h7n,cN,fP]
   refine λ_=>?_
   refine cY aK2 cG a2T (λi:Nat=>[(11,.op n 4 0 0),(12,cI 1 (λb=>[.bool b]) M),(14,I i)]) (λ_=>h') (λi=>i<=S.code.length/\∀ c∈S.code.take i,c.vN=6->M.getD c.fB.toNat false=false) (λi=>S.code.length-i) 0 ⟨by simp[dT,dB],Heap.le_refl _,iZ _,by simp⟩ ?_
   rintro i ⟨hi,aMQ⟩
   rcases cP i S.code.length with hlt|hge
   ·have eg:S.code[i]?=some S.code[i]:=b6 hlt
    by_cases h6:S.code[i].vN=6
    ·have mg:=mC _ (dG hlt) h6
     have eg2:=hends _ mg
     simp -dsimp -implicitDefEqProofs only[go_sem,↓reduceIte,Tryz.f197,h7n,hlt,eg,cO.aM,h6,gM _ mg]
     refine λ_=>⟨eg2.1,by rw[hml];exact eg2.2,λhq=>?_,λhq=>?_⟩
     ·exact⟨(decide_eq_false λz=>hst.1 z _ mg hq).symm,aMN⟩
     ·exact⟨i+1,by rw[IntWalk.i64_in _ aA];rfl,⟨hlt,iY hlt aMQ λ_=>hq⟩,by omega⟩
    ·simp -dsimp -implicitDefEqProofs only[go_sem,↓reduceIte,Tryz.f197,h7n,hlt,eg,cO.aM,h6]
     exact λ_=>⟨i+1,by rw[IntWalk.i64_in _ aA];rfl,⟨hlt,iY hlt aMQ λq=>absurd q h6⟩,by omega⟩
   have hi':i=S.code.length:=by omega
   subst hi'
   rw[eL]at aMQ
   simp -dsimp -implicitDefEqProofs only[go_sem,↓reduceIte,Tryz.f197,h7n,cN,fP]
   refine λ_=>⟨(decide_eq_true (hst.2 λe he=>?_)).symm,aMN⟩
   rw[qR,xB]at he
   rcases pH.1 he with he|he
   ·rcases pH.1 he with he|he
    ·rw[rG.1 he]
     have hq':M.getD (l.getD 0 0).toNat false=false:=hq
     show ¬M.getD (l.getD 0 0).toNat false=true
     rw[hq'];simp
    ·obtain⟨gg,hgg,rfl⟩:=vZ.1 he
     rw[hall gg hgg];simp
   ·obtain⟨cc,hcc,rfl⟩:=vZ.1 he
    obtain⟨h1,h2⟩:=a4B.1 hcc
    rw[aMQ cc h1 (by simpa using h2)];simp
  ·refine aH.mk bRJ ?_
   simp -dsimp -implicitDefEqProofs only[go_sem,↓reduceIte,Tryz.f197]
   rw[aF]
   generalize hh7:bT h n (.row 4 [[.v (I (dV j k).length),.v (cI 4 cO.c S.code),.v (cI 2 fK.c S.guards),.v (ints l)]])=h7
   have h7n:h7 n=some (.row 4 [[.v (I (dV j k).length),.v (cI 4 cO.c S.code),.v (cI 2 fK.c S.guards),.v (ints l)]]):=by rw[←hh7,bG]
   have aMN:h.le h7:=by rw[←hh7];exact Heap.aW hn (Heap.le_refl _)
   refine aH.kF (hmv h7 n h7n) ?_
   rintro r h' ⟨rfl,rfl⟩
   simp -dsimp -implicitDefEqProofs only[go_sem,↓reduceIte,Tryz.f197,h7n,l0,gM _ m0]
   have e0:=hends _ m0
   refine⟨by rw[g3,hO3];omega,e0.1,by rw[hml];exact e0.2,λhq=>?_,λhq=>?_⟩
   ·exact⟨(decide_eq_false λz=>hst.1 z _ m0 hq).symm,aMN⟩
   refine cY aK2 cG a2T (λi:Nat=>[(11,.op n 4 0 0),(12,cI 1 (λb=>[.bool b]) M),(13,I i)]) (λ_=>h') (λi=>i<=S.guards.length/\∀ g∈S.guards.take i,M.getD g.aOJ.toNat false=false) (λi=>S.guards.length-i) 0 ⟨by simp[dT,dB],Heap.le_refl _,iZ _,by simp⟩ ?_
   rintro i ⟨hi,hall⟩
   rcases cP i S.guards.length with hlt|hge
   ·have eg:S.guards[i]?=some S.guards[i]:=b6 hlt
    have mg:=mG _ (dG hlt)
    have eg2:=hends _ mg
    simp -dsimp -implicitDefEqProofs only[go_sem,↓reduceIte,Tryz.f197,h7n,hlt,eg,fK.aM,gM _ mg]
    refine λ_=>⟨eg2.1,by rw[hml];exact eg2.2,λhq=>?_,λhq=>?_⟩
    ·exact⟨(decide_eq_false λz=>hst.1 z _ mg hq).symm,aMN⟩
    ·exact⟨i+1,by rw[IntWalk.i64_in _ aA];rfl,⟨hlt,iY hlt hall hq⟩,by omega⟩
   have hi':i=S.guards.length:=by omega
   subst hi'
   rw[eL]at hall
   simp -dsimp -implicitDefEqProofs only[go_sem,↓reduceIte,Tryz.f197,h7n,cN,fP]
   refine λ_=>?_
   refine cY aK2 cG a2T (λi:Nat=>[(11,.op n 4 0 0),(12,cI 1 (λb=>[.bool b]) M),(14,I i)]) (λ_=>h') (λi=>i<=S.code.length/\∀ c∈S.code.take i,c.vN=6->M.getD c.fB.toNat false=false) (λi=>S.code.length-i) 0 ⟨by simp[dT,dB],Heap.le_refl _,iZ _,by simp⟩ ?_
   rintro i ⟨hi,aMQ⟩
   rcases cP i S.code.length with hlt|hge
   ·have eg:S.code[i]?=some S.code[i]:=b6 hlt
    by_cases h6:S.code[i].vN=6
    ·have mg:=mC _ (dG hlt) h6
     have eg2:=hends _ mg
     simp -dsimp -implicitDefEqProofs only[go_sem,↓reduceIte,Tryz.f197,h7n,hlt,eg,cO.aM,h6,gM _ mg]
     refine λ_=>⟨eg2.1,by rw[hml];exact eg2.2,λhq=>?_,λhq=>?_⟩
     ·exact⟨(decide_eq_false λz=>hst.1 z _ mg hq).symm,aMN⟩
     ·exact⟨i+1,by rw[IntWalk.i64_in _ aA];rfl,⟨hlt,iY hlt aMQ λ_=>hq⟩,by omega⟩
    ·simp -dsimp -implicitDefEqProofs only[go_sem,↓reduceIte,Tryz.f197,h7n,hlt,eg,cO.aM,h6]
     exact λ_=>⟨i+1,by rw[IntWalk.i64_in _ aA];rfl,⟨hlt,iY hlt aMQ λq=>absurd q h6⟩,by omega⟩
   have hi':i=S.code.length:=by omega
   subst hi'
   rw[eL]at aMQ
   simp -dsimp -implicitDefEqProofs only[go_sem,↓reduceIte,Tryz.f197,h7n,cN,fP]
   refine λ_=>⟨(decide_eq_true (hst.2 λe he=>?_)).symm,aMN⟩
   rw[qR,xB]at he
   rcases pH.1 he with he|he
   ·rcases pH.1 he with he|he
    ·rw[rG.1 he]
     have hq':M.getD (l.getD 0 0).toNat false=false:=hq
     show ¬M.getD (l.getD 0 0).toNat false=true
     rw[hq'];simp
    ·obtain⟨gg,hgg,rfl⟩:=vZ.1 he
     rw[hall gg hgg];simp
   ·obtain⟨cc,hcc,rfl⟩:=vZ.1 he
    obtain⟨h1,h2⟩:=a4B.1 hcc
    rw[aMQ cc h1 (by simpa using h2)];simp
def lI (st:Nat->Prop) [DecidablePred st] (s:aI):Nat->aI
 |0=>s
 |k+1=>if st k then lI st s k else j3 (lI st s k) k
theorem yQ (st:Nat->Prop) [DecidablePred st] (s:aI):∀ k,(lI st s k).bA=s.bA
 |0=>rfl
 |k+1=>by
  rw[lI];split
  ·exact yQ st s k
  ·exact yQ st s k
theorem aMR (st:Nat->Prop) [DecidablePred st] (s:aI):∀ k,(lI st s k).aP.length=s.aP.length/\(lI st s k).bM.length=s.bM.length/\(lI st s k).bW.length=s.bW.length/\(lI st s k).bI.length=s.bI.length
 |0=>⟨rfl,rfl,rfl,rfl⟩
 |k+1=>by
  have h:=aMR st s k
  rw[lI];split
  ·exact h
  ·simp only[j3,yU];exact h
theorem zQ (st:Nat->Prop) [DecidablePred st] (s:aI):∀ k i,k<=i->(lI st s k).aP[i]?=s.aP[i]?/\(lI st s k).bM[i]?=s.bM[i]?
 |0,i,_=>⟨rfl,rfl⟩
 |k+1,i,h=>by
  have h1:=zQ st s k i aA
  rw[lI];split
  ·exact h1
  ·simp only[j3]
   rw[aZL aA,aZL aA];exact h1
def aDS (st:Nat->Prop) (s:aI) (k:Nat):Prop:=¬st k/\s.aP[k]?=some 50
theorem aDT (st:Nat->Prop) [DecidablePred st] (s:aI) (hs:∀ x∈s.aP,0<=x/\x<=50):∀ k,(∀ i,i<k->¬aDS st s i)->∀ x∈(lI st s k).aP,0<=x/\x<=50
 |0,_=>hs
 |k+1,h=>by
  have h1:=aDT st s hs k λi hi=>h i aA
  rw[lI];split
  ·exact h1
  ·rename_i hk
   intro x hx
   simp only[j3]at hx
   rcases a36 hx with hx|hx
   ·exact h1 x hx
   ·subst hx
    rw[wQ,jC,(zQ st s k k (fL _)).1]
    have hn:=h k aA
    cases e:s.aP[k]? with
    |none=>simp
    |some y =>
     have hy:=hs y (rS e)
     have:¬y=50:=λq=>hn ⟨hk,by rw[e,q]⟩
     simp only[a39];omega
def vK (s:aI) (pt:List Int):aI:={ s with bA:={ s.bA with cT:=pt } }
theorem aN7 (st:Nat->Prop) [DecidablePred st] (s:aI) (pt:List Int):∀ k,lI st (vK s pt) k=vK (lI st s k) pt
 |0=>rfl
 |k+1=>by
  rw[lI,lI,aN7 st s pt k];split <;> rfl
def jU (s:aI) (pt:List Int) (k:Nat):Prop:=s.bM[k]?=some true/\aYT s.bA k pt
noncomputable instance (s:aI) (pt:List Int):DecidablePred (jU s pt):=λ_=>Classical.propDecidable _
def aDU (s:aI) (pt:List Int):Prop:=(pt.length:Int)=s.bA.aU/\p4 pt
noncomputable instance (s:aI) (pt:List Int):Decidable (aDU s pt):=Classical.propDecidable _
def xO (s:aI) (pt:List Int):Prop:=∃ k,k<s.aP.length/\aDS (jU s pt) s k
noncomputable instance (s:aI) (pt:List Int):Decidable (xO s pt):=Classical.propDecidable _
noncomputable def aBF (s:aI) (pt:List Int):aI:=vK (lI (jU s pt) s s.aP.length) pt
noncomputable def yI (s:aI) (pt:List Int):aI×Int:=if s.ok then(if aDU s pt then(if xO s pt then(kZ,3)else(aBF s pt,0))else(kZ,2))else(kZ,1)
theorem bD3 {s:aI} {pt:List Int} (h:¬s.ok):yI s pt=(kZ,1):=if_neg h
theorem aV2 {s:aI} {pt:List Int} (h0:s.ok) (h:¬aDU s pt):yI s pt=(kZ,2):=by rw[yI,if_pos h0,if_neg h]
theorem aMS {s:aI} {pt:List Int} (h0:s.ok) (h:aDU s pt) (h2:xO s pt):yI s pt=(kZ,3):=by rw[yI,if_pos h0,if_pos h,if_pos h2]
theorem aSO {s:aI} {pt:List Int} (h0:s.ok) (h:aDU s pt) (h2:¬xO s pt):yI s pt=(aBF s pt,0):=by rw[yI,if_pos h0,if_pos h,if_neg h2]
theorem eW.bIU {h g g2:Heap} (e1:List OV) {e2:List OV} {y y':OV} (x:eW h (OV.cQ (e1++y::e2)) g) (z:eW g y'.rows g2):∃ g3,g3.le g2/\eW h (OV.cQ (e1++y'::e2)) g3:=by
 have w:=x.append z
 rw[OV.kX,OV.gG]at w
 have w2:=w.perm (b:=y.rows++(OV.cQ e1++(y'.rows++OV.cQ e2))) (by
  classical
  rw[List.perm_iff_count]
  intro q
  simp only[bFD]
  omega)
 have w3:=w2.drop
 refine⟨u5 g2 (cS y.rows),aQ3 _ _,?_⟩
 rw[OV.kX,OV.gG];exact w3
theorem aSP {st:Nat->Prop} [DecidablePred st] (s:aI) (k:Nat) (h:¬st k):j3 (lI st s k) k=lI st s (k+1):=by rw[lI,if_neg h]
theorem aSQ {st:Nat->Prop} [DecidablePred st] (s:aI) (k:Nat) (h:st k):lI st s k=lI st s (k+1):=by rw[lI,if_pos h]
theorem pG {st:Nat->Prop} {s:aI} {k:Nat} (h:∀ i,i<k->¬aDS st s i) (hk:¬aDS st s k):∀ i,i<k+1->¬aDS st s i:=λi hi=>by
 rcases aEE.1 hi with hi|rfl
 ·exact h i hi
 ·exact hk
def bRK (s:aI) (pt:List Int) (r:aC) (e':List OV):Prop :=
 (¬aDU s pt/\r=I 2)∨(aDU s pt/\xO s pt/\r=I 3)∨(aDU s pt/\¬xO s pt/\r=I 0/\(aBF s pt).o e')
end Go.Hl

/-
  Contracts of functions and laws of the layer over the walk.
-/
import Derived.Test.YtajjlpophonkoaaGreatDoorVvA
import Derived.Test.YtajjlpophonkoaaGreatDoorHlD
namespace Go.Hl
set_option maxRecDepth 100000
open Go.Proofs
set_option linter.unusedVariables false
set_option linter.unusedSimpArgs false
@[go_sem] def aV9:List Nat:=[0,2,3,4,5,6,14,44]
@[go_sem] def bLH:List Nat:=[60,66]
@[go_sem] def bLI:Marks:=λid=>match id with|5=>([17,18],(.op 0 (.op 1 (.op 2 (.op 3 (.op 4 (.op 5 (.op 6 (.op 7 (.op 8 (.op 9 (.op 10 (.op 11 (.op 12 (.op 13 (.op 14 (.op 15 (.op 16 (.op 17 (.op 18 .nil))))))))))))))))))),[])|9=>([1,12,14,16],(.op 0 (.op 2 (.op 3 (.op 4 (.op 5 (.op 6 (.op 7 (.op 8 (.op 9 (.op 10 (.op 11 (.op 1 (.op 12 (.op 13 (.op 14 (.op 15 (.op 16 .nil))))))))))))))))),[(1,12)])|_=>([],.nil,[])
set_option maxHeartbeats 1000000 in
theorem aS0 (x:aC) (hs:x.s<=1048576):uT Tryz.prog 54 [.ip 1 [x.c] 0 0] (QA x.o):=by
 have hs':=x.u9
 try simp only[l8]at hs'
 simp only[aC.aS]
 refine aBC 70 aV9 bLH bLI Tryz.func54 λh=>?_
 try simp -dsimp -implicitDefEqProofs only[go_sem,↓reduceIte,Tryz.f54,aO,aI]
 intro n2 qn2
 have l4:=qn2
 try simp -dsimp -implicitDefEqProofs only[go_sem,↓reduceIte,Tryz.f54,aO,aI]
 intro n3 qn3
 obtain⟨aWA,nH,nI,b8O⟩:=bB (show ¬n3=n2 from qn3.1)
 have uV:=qn3.2
 try simp -dsimp -implicitDefEqProofs only[go_sem,↓reduceIte,Tryz.f54,aO,aI,nH,nI]
 try(with_reducible intro _)
 refine aL6 aV9 bLH bLI (λs:Nat×List (List OV)×aE×Option Nat=>[(0,.ip 1 [[fN 3 aU.c x.aD]] 0 0),(2,.op n2 1 0 0),(3,.op n3 1 0 0),(4,(I s.1))]) (λs=>(aR (aR (bY s.2.2.1 (.row 3 (OV.cells s.2.1)) s.2.2.2) n2 (.row 1 [[.v .bD]])) n3 (.row 1 [[.v (gW 3 s.2.1.length s.2.2.2)]]))) (λs=>s.1<=x.aD.length/\OR aU.o (x.aD.take s.1) s.2.1/\gB h (OV.bF s.2.1) s.2.2.1/\s.2.2.1 n2=none/\s.2.2.1 n3=none/\yJ s.2.2.1 s.2.1 s.2.2.2/\∀ n:Nat,s.2.2.2=some n->n≠n2/\n≠n3) (λs=>x.aD.length-s.1) (0,[],h,none) ?_ ?_
 ·exact⟨by simp[c4,b7],aE.kE aDZ,fE _,trivial,gB.nil _,l4,uV,rfl,by simp⟩
 rintro⟨ka,esa,ga_,oa_⟩ ⟨hkka,hora,hnewa,l4,uV,hosa,hona⟩
 simp only at hkka hora hnewa l4 uV hosa hona ⊢
 have hlena:esa.length=ka:=by have:=hora.length;simp at this;omega
 rcases bZ ka x.aD.length with hlta|hgea
 ·have eaa:x.aD[ka]?=some x.aD[ka]:=cM hlta
  have hf:=vN aU.s (eI hlta)
  have hf2:=(x.aD[ka]).u9
  simp only[l8]at hf2
  cases oa_ with
  |none =>
   rw[kD]at hosa
   subst hosa
   try simp -dsimp -implicitDefEqProofs only[go_sem,↓reduceIte,Tryz.f54,aO,aI,nH,nI,eaa,hlta,aQ,b5,aU.aS]
   try(with_reducible intro _)
   intro n5 qn5
   obtain⟨aQR,pB,pC,bS7⟩:=bB (show ¬n5=n3 from qn5.1)
   obtain⟨aCS,kU,kV,a3G⟩:=bB (show ¬n5=n2 from qn5.2.1)
   have uF:=qn5.2.2
   try simp -dsimp -implicitDefEqProofs only[go_sem,↓reduceIte,Tryz.f54,aO,aI,nH,nI,pB,pC,kU,kV,eaa,hlta,aQ,b5,aU.aS]
   try(with_reducible intro _)
   refine cZ aV9 bLH bLI (λs:Nat×List (List OV)×aE×Option Nat=>[(0,.ip 1 [[fN 3 aU.c x.aD]] 0 0),(2,.op n2 1 0 0),(3,.op n3 1 0 0),(4,(I ka)),(5,.op n5 3 0 0),(6,(I s.1))]) (λs=>(aR (aR (aR (bY s.2.2.1 (.row 5 (OV.cells s.2.1)) s.2.2.2) n2 (.row 1 [[.v .bD]])) n3 (.row 1 [[.v (.bD)]])) n5 (.row 3 [[.v (.str x.aD[ka].e8),.v (I x.aD[ka].aT),.v (gW 5 s.2.1.length s.2.2.2)]]))) (λs=>s.1<=x.aD[ka].aN.length/\OR aB.o (x.aD[ka].aN.take s.1) s.2.1/\gB ga_ (OV.bF s.2.1) s.2.2.1/\s.2.2.1 n2=none/\s.2.2.1 n3=none/\s.2.2.1 n5=none/\yJ s.2.2.1 s.2.1 s.2.2.2/\∀ n:Nat,s.2.2.2=some n->n≠n2/\n≠n3/\n≠n5) (λs=>x.aD[ka].aN.length-s.1) (0,[],ga_,none) ?_ ?_
   ·exact⟨by simp[c4,b7],aDZ,fE _,trivial,gB.nil _,l4,uV,uF,rfl,by simp⟩
   rintro⟨ki,esi,gi_,oi_⟩ ⟨hkki,hori,hnewi,l4,uV,uF,hosi,honi⟩
   simp only at hkki hori hnewi l4 uV uF hosi honi ⊢
   have hleni:esi.length=ki:=by have:=hori.length;simp at this;omega
   rcases bZ ki x.aD[ka].aN.length with hlti|hgei
   ·have eai:x.aD[ka].aN[ki]?=some x.aD[ka].aN[ki]:=cM hlti
    have hxi:=a3I (x.aD[ka].aN[ki]) (by have:=vN aB.s (eI hlti);omega)
    cases oi_ with
    |none =>
     rw[kD]at hosi
     subst hosi
     try simp -dsimp -implicitDefEqProofs only[go_sem,↓reduceIte,Tryz.f54,aO,aI,nH,nI,pB,pC,kU,kV,eaa,hlta,aQ,b5,eai,hlti,aQ,b5,aB.aS,aU.aS]
     try(with_reducible intro _)
     refine aJ.wn3 (uT.sub gG hxi) l4 ⟨aWA,uV⟩ ⟨aQR,aCS,uF⟩ ?_
     rintro r l_ gb ⟨e_b,oeb,rfl,rfl⟩ wb l4 uV uF
     have oob:=oeb
     rw[aB.pM]at oob
     obtain⟨aHR,rfl,pA⟩:=oob
     try simp -dsimp -implicitDefEqProofs only[go_sem,↓reduceIte,Tryz.f54,aO,aI,nH,nI,pB,pC,kU,kV,eaa,hlta,aQ,b5,eai,hlti,aQ,b5,pA.flat,pA.one,OV.dY,OV.bS,OV.jB,aB.aS,aU.aS]
     repeat'(with_reducible first|refine And.intro aGT ?_)
     intro mi qmi
     obtain⟨aHS,aHT,aHU,a3J⟩:=bB (show ¬mi=n5 from qmi.1)
     obtain⟨aHV,aHW,aHX,a3K⟩:=bB (show ¬mi=n3 from qmi.2.1)
     obtain⟨aHY,aHZ,aH0,a3L⟩:=bB (show ¬mi=n2 from qmi.2.2.1)
     have a3M:=qmi.2.2.2
     try simp -dsimp -implicitDefEqProofs only[go_sem,↓reduceIte,Tryz.f54,aO,aI,nH,nI,pB,pC,kU,kV,aHT,aHU,aHW,aHX,aHZ,aH0,eaa,hlta,aQ,b5,eai,hlti,aQ,b5,pA.flat,pA.one,OV.dY,OV.bS,OV.jB]
     refine⟨(ki+1,([]:List (List OV))++[[.v (.int .i64 x.aD[ka].aN[ki].aP),.v (.int .i64 x.aD[ka].aN[ki].aW),.v (.int .i64 x.aD[ka].aN[ki].bR),.v (.int .i64 x.aD[ka].aN[ki].bI),aHR]],gb,some mi),?_⟩
     simp only
     refine⟨?_,aDZ,⟨by omega,OR.snoc hori hlti oeb,hnewi.snoc wb,l4,uV,uF,a3M,(λn_ e_=>by obtain rfl:=gV e_;exact⟨aHY,aHV,aHS⟩)⟩,by omega⟩
     all_goals(repeat'(with_reducible refine And.intro ?_ ?_))
     all_goals first|rfl|trivial|(rw[IntWalk.i64_in _ aA];omega)
    |some ni =>
     rw[jX]at hosi
     have bFQ:=hosi
     have hni:=honi ni rfl
     obtain⟨bS8,aH1,aH2,a3N⟩:=bB (show ¬ni=n2 from hni.1)
     obtain⟨bS9,aH3,aH4,a3O⟩:=bB (show ¬ni=n3 from hni.2.1)
     obtain⟨bTA,aH5,aH6,a3P⟩:=bB (show ¬ni=n5 from hni.2.2)
     try simp -dsimp -implicitDefEqProofs only[go_sem,↓reduceIte,Tryz.f54,aO,aI,nH,nI,pB,pC,kU,kV,aH1,aH2,aH3,aH4,aH5,aH6,eaa,hlta,aQ,b5,eai,hlti,aK,aY,aB.aS,aU.aS]
     try(with_reducible intro _)
     refine aJ.wn4 (uT.sub gG hxi) bFQ ⟨a3N,l4⟩ ⟨aWA,a3O,uV⟩ ⟨aQR,aCS,a3P,uF⟩ ?_
     rintro r l_ gb ⟨e_b,oeb,rfl,rfl⟩ wb bFQ l4 uV uF
     have oob:=oeb
     rw[aB.pM]at oob
     obtain⟨aHR,rfl,pA⟩:=oob
     try simp -dsimp -implicitDefEqProofs only[go_sem,↓reduceIte,Tryz.f54,aO,aI,nH,nI,pB,pC,kU,kV,aH1,aH2,aH3,aH4,aH5,aH6,eaa,hlta,aQ,b5,eai,hlti,aK,aY,pA.flat,pA.one,OV.dY,OV.bS,OV.jB,aB.aS,aU.aS]
     repeat'(with_reducible first|refine And.intro aGT ?_)
     intro mi qmi
     obtain⟨aHS,aHT,aHU,a3J⟩:=bB (show ¬mi=n5 from qmi.1)
     obtain⟨aHV,aHW,aHX,a3K⟩:=bB (show ¬mi=n3 from qmi.2.1)
     obtain⟨aHY,aHZ,aH0,a3L⟩:=bB (show ¬mi=n2 from qmi.2.2.1)
     obtain⟨bTB,a3Q,a3R,bTC⟩:=bB (show ¬mi=ni from qmi.2.2.2.1)
     have a3M:=qmi.2.2.2.2
     try simp -dsimp -implicitDefEqProofs only[go_sem,↓reduceIte,Tryz.f54,aO,aI,nH,nI,pB,pC,kU,kV,aH1,aH2,aH3,aH4,aH5,aH6,aHT,aHU,aHW,aHX,aHZ,aH0,a3Q,a3R,eaa,hlta,aQ,b5,eai,hlti,aK,aY,pA.flat,pA.one,OV.dY,OV.bS,OV.jB]
     refine⟨(ki+1,esi++[[.v (.int .i64 x.aD[ka].aN[ki].aP),.v (.int .i64 x.aD[ka].aN[ki].aW),.v (.int .i64 x.aD[ka].aN[ki].bR),.v (.int .i64 x.aD[ka].aN[ki].bI),aHR]],gb,some mi),?_⟩
     simp only
     refine⟨?_,aDZ,⟨by omega,OR.snoc hori hlti oeb,hnewi.snoc wb,l4,uV,uF,a3M,(λn_ e_=>by obtain rfl:=gV e_;exact⟨aHY,aHV,aHS⟩)⟩,by omega⟩
     all_goals(repeat'(with_reducible refine And.intro ?_ ?_))
     all_goals first|rfl|trivial|(rw[IntWalk.i64_in _ aA];omega)
   ·have bTD:ki=x.aD[ka].aN.length:=by omega
    subst bTD
    rw[mR]at hori
    have a3S:bY gi_ (.row 5 (OV.cells esi)) oi_ n2=none:=fU l4 λn_ e_=>(honi n_ e_).1
    have a3T:bY gi_ (.row 5 (OV.cells esi)) oi_ n3=none:=fU uV λn_ e_=>(honi n_ e_).2.1
    have a3U:bY gi_ (.row 5 (OV.cells esi)) oi_ n5=none:=fU uF λn_ e_=>(honi n_ e_).2.2
    try simp -dsimp -implicitDefEqProofs only[go_sem,↓reduceIte,Tryz.f54,aO,aI,nH,nI,pB,pC,kU,kV,eaa,hlta,aQ,b5,kH,s7,OV.dY,OV.bS,OV.jB,bX,aU.aS]
    try(with_reducible intro _)
    repeat'(with_reducible first|refine And.intro aGT ?_)
    have l4:=a3S
    have uV:=a3T
    have uF:=a3U
    have wf:=xK (sz:=5) hnewi hosi
    intro ma qma
    obtain⟨bTE,a3V,a3W,bTF⟩:=bB (show ¬ma=n5 from qma.1)
    obtain⟨aVE,a3X,a3Y,bTG⟩:=bB (show ¬ma=n3 from qma.2.1)
    obtain⟨aVD,a3Z,a30,bTH⟩:=bB (show ¬ma=n2 from qma.2.2.1)
    have bTI:=qma.2.2.2
    try simp -dsimp -implicitDefEqProofs only[go_sem,↓reduceIte,Tryz.f54,aO,aI,nH,nI,pB,pC,kU,kV,a3V,a3W,a3X,a3Y,a3Z,a30,eaa,hlta,aQ,b5,kH,s7,OV.dY,OV.bS,OV.jB]
    refine⟨(ka+1,([]:List (List OV))++[[.v (.str x.aD[ka].e8),.v (I x.aD[ka].aT),(gov 5 esi oi_)]],(bY gi_ (.row 5 (OV.cells esi)) oi_),some ma),?_⟩
    simp only
    refine⟨?_,(aE.wk.trans (b:=(aR (aR (bY (bY gi_ (.row 5 (OV.cells esi)) oi_) (.row 3 (OV.cells ([]:List (List OV))++[[Cell.v (.str x.aD[ka].e8),Cell.v (I x.aD[ka].aT),Cell.v (gW 5 esi.length oi_)]])) (some ma)) n2 (.row 1 [[.v .bD]])) n3 (.row 1 [[.v (gW 3 (([]:List (List OV))++[[.v (.str x.aD[ka].e8),.v (I x.aD[ka].aT),(gov 5 esi oi_)]]).length (some ma))]]))) (aE.aVZ (m:=ma) (sz:=3) (es:=(OV.cells ([]:List (List OV))++[[Cell.v (.str x.aD[ka].e8),Cell.v (I x.aD[ka].aT),Cell.v (gW 5 esi.length oi_)]])) (es':=OV.cells (([]:List (List OV))++[[.v (.str x.aD[ka].e8),.v (I x.aD[ka].aT),(gov 5 esi oi_)]])) (λq_ hq_=>by simp only[aG,aK,if_neg hq_]) a6P a6P bYX) (aE.kE aDZ)),⟨by omega,OR.snoc hora hlta ⟨_,rfl,aCL hori hosi⟩,hnewa.snoc bPF,l4,uV,bTI,(λn_ e_=>by obtain rfl:=gV e_;exact⟨aVD,aVE⟩)⟩,by omega⟩
    all_goals(repeat'(with_reducible refine And.intro ?_ ?_))
    all_goals first|rfl|trivial|(rw[IntWalk.i64_in _ aA];omega)
  |some na =>
   rw[jX]at hosa
   have aQS:=hosa
   have hna:=hona na rfl
   obtain⟨b8R,aAP,aAQ,bFR⟩:=bB (show ¬na=n2 from hna.1)
   obtain⟨b8S,aAR,aAS,bFS⟩:=bB (show ¬na=n3 from hna.2)
   try simp -dsimp -implicitDefEqProofs only[go_sem,↓reduceIte,Tryz.f54,aO,aI,nH,nI,aAP,aAQ,aAR,aAS,eaa,hlta,aK,aY,aU.aS]
   try(with_reducible intro _)
   intro n5 qn5
   obtain⟨aQR,pB,pC,bS7⟩:=bB (show ¬n5=n3 from qn5.1)
   obtain⟨aCS,kU,kV,a3G⟩:=bB (show ¬n5=n2 from qn5.2.1)
   obtain⟨bFT,aCT,aCU,b8T⟩:=bB (show ¬n5=na from qn5.2.2.1)
   have uF:=qn5.2.2.2
   try simp -dsimp -implicitDefEqProofs only[go_sem,↓reduceIte,Tryz.f54,aO,aI,nH,nI,aAP,aAQ,aAR,aAS,pB,pC,kU,kV,aCT,aCU,eaa,hlta,aK,aY,aU.aS]
   try(with_reducible intro _)
   refine cZ aV9 bLH bLI (λs:Nat×List (List OV)×aE×Option Nat=>[(0,.ip 1 [[fN 3 aU.c x.aD]] 0 0),(2,.op n2 1 0 0),(3,.op n3 1 0 0),(4,(I ka)),(5,.op n5 3 0 0),(6,(I s.1))]) (λs=>(aR (aR (aR (aR (bY s.2.2.1 (.row 5 (OV.cells s.2.1)) s.2.2.2) na (.row 3 (OV.cells esa))) n2 (.row 1 [[.v .bD]])) n3 (.row 1 [[.v (.os na 3 0 esa.length)]])) n5 (.row 3 [[.v (.str x.aD[ka].e8),.v (I x.aD[ka].aT),.v (gW 5 s.2.1.length s.2.2.2)]]))) (λs=>s.1<=x.aD[ka].aN.length/\OR aB.o (x.aD[ka].aN.take s.1) s.2.1/\gB ga_ (OV.bF s.2.1) s.2.2.1/\s.2.2.1 na=none/\s.2.2.1 n2=none/\s.2.2.1 n3=none/\s.2.2.1 n5=none/\yJ s.2.2.1 s.2.1 s.2.2.2/\∀ n:Nat,s.2.2.2=some n->n≠na/\n≠n2/\n≠n3/\n≠n5) (λs=>x.aD[ka].aN.length-s.1) (0,[],ga_,none) ?_ ?_
   ·exact⟨by simp[c4,b7],aDZ,fE _,trivial,gB.nil _,aQS,l4,uV,uF,rfl,by simp⟩
   rintro⟨ki,esi,gi_,oi_⟩ ⟨hkki,hori,hnewi,aQS,l4,uV,uF,hosi,honi⟩
   simp only at hkki hori hnewi aQS l4 uV uF hosi honi ⊢
   have hleni:esi.length=ki:=by have:=hori.length;simp at this;omega
   rcases bZ ki x.aD[ka].aN.length with hlti|hgei
   ·have eai:x.aD[ka].aN[ki]?=some x.aD[ka].aN[ki]:=cM hlti
    have hxi:=a3I (x.aD[ka].aN[ki]) (by have:=vN aB.s (eI hlti);omega)
    cases oi_ with
    |none =>
     rw[kD]at hosi
     subst hosi
     try simp -dsimp -implicitDefEqProofs only[go_sem,↓reduceIte,Tryz.f54,aO,aI,nH,nI,aAP,aAQ,aAR,aAS,pB,pC,kU,kV,aCT,aCU,eaa,hlta,aK,aY,eai,hlti,aQ,b5,aB.aS,aU.aS]
     try(with_reducible intro _)
     refine aJ.wn4 (uT.sub gG hxi) aQS ⟨bFR,l4⟩ ⟨aWA,bFS,uV⟩ ⟨aQR,aCS,bFT,uF⟩ ?_
     rintro r l_ gb ⟨e_b,oeb,rfl,rfl⟩ wb aQS l4 uV uF
     have oob:=oeb
     rw[aB.pM]at oob
     obtain⟨aHR,rfl,pA⟩:=oob
     try simp -dsimp -implicitDefEqProofs only[go_sem,↓reduceIte,Tryz.f54,aO,aI,nH,nI,aAP,aAQ,aAR,aAS,pB,pC,kU,kV,aCT,aCU,eaa,hlta,aK,aY,eai,hlti,aQ,b5,pA.flat,pA.one,OV.dY,OV.bS,OV.jB,aB.aS,aU.aS]
     repeat'(with_reducible first|refine And.intro aGT ?_)
     intro mi qmi
     obtain⟨aHS,aHT,aHU,a3J⟩:=bB (show ¬mi=n5 from qmi.1)
     obtain⟨aHV,aHW,aHX,a3K⟩:=bB (show ¬mi=n3 from qmi.2.1)
     obtain⟨aHY,aHZ,aH0,a3L⟩:=bB (show ¬mi=n2 from qmi.2.2.1)
     obtain⟨a32,a33,a34,bTJ⟩:=bB (show ¬mi=na from qmi.2.2.2.1)
     have a3M:=qmi.2.2.2.2
     try simp -dsimp -implicitDefEqProofs only[go_sem,↓reduceIte,Tryz.f54,aO,aI,nH,nI,aAP,aAQ,aAR,aAS,pB,pC,kU,kV,aCT,aCU,aHT,aHU,aHW,aHX,aHZ,aH0,a33,a34,eaa,hlta,aK,aY,eai,hlti,aQ,b5,pA.flat,pA.one,OV.dY,OV.bS,OV.jB]
     refine⟨(ki+1,([]:List (List OV))++[[.v (.int .i64 x.aD[ka].aN[ki].aP),.v (.int .i64 x.aD[ka].aN[ki].aW),.v (.int .i64 x.aD[ka].aN[ki].bR),.v (.int .i64 x.aD[ka].aN[ki].bI),aHR]],gb,some mi),?_⟩
     simp only
     refine⟨?_,aDZ,⟨by omega,OR.snoc hori hlti oeb,hnewi.snoc wb,aQS,l4,uV,uF,a3M,(λn_ e_=>by obtain rfl:=gV e_;exact⟨a32,aHY,aHV,aHS⟩)⟩,by omega⟩
     all_goals(repeat'(with_reducible refine And.intro ?_ ?_))
     all_goals first|rfl|trivial|(rw[IntWalk.i64_in _ aA];omega)
    |some ni =>
     rw[jX]at hosi
     have bFQ:=hosi
     have hni:=honi ni rfl
     obtain⟨b8U,a35,a36,bTK⟩:=bB (show ¬ni=na from hni.1)
     obtain⟨bS8,aH1,aH2,a3N⟩:=bB (show ¬ni=n2 from hni.2.1)
     obtain⟨bS9,aH3,aH4,a3O⟩:=bB (show ¬ni=n3 from hni.2.2.1)
     obtain⟨bTA,aH5,aH6,a3P⟩:=bB (show ¬ni=n5 from hni.2.2.2)
     try simp -dsimp -implicitDefEqProofs only[go_sem,↓reduceIte,Tryz.f54,aO,aI,nH,nI,aAP,aAQ,aAR,aAS,pB,pC,kU,kV,aCT,aCU,a35,a36,aH1,aH2,aH3,aH4,aH5,aH6,eaa,hlta,aK,aY,eai,hlti,aK,aY,aB.aS,aU.aS]
     try(with_reducible intro _)
     refine aJ.wn5 (uT.sub gG hxi) bFQ ⟨bTK,aQS⟩ ⟨bFR,a3N,l4⟩ ⟨aWA,bFS,a3O,uV⟩ ⟨aQR,aCS,bFT,a3P,uF⟩ ?_
     rintro r l_ gb ⟨e_b,oeb,rfl,rfl⟩ wb bFQ aQS l4 uV uF
     have oob:=oeb
     rw[aB.pM]at oob
     obtain⟨aHR,rfl,pA⟩:=oob
     try simp -dsimp -implicitDefEqProofs only[go_sem,↓reduceIte,Tryz.f54,aO,aI,nH,nI,aAP,aAQ,aAR,aAS,pB,pC,kU,kV,aCT,aCU,a35,a36,aH1,aH2,aH3,aH4,aH5,aH6,eaa,hlta,aK,aY,eai,hlti,aK,aY,pA.flat,pA.one,OV.dY,OV.bS,OV.jB,aB.aS,aU.aS]
     repeat'(with_reducible first|refine And.intro aGT ?_)
     intro mi qmi
     obtain⟨aHS,aHT,aHU,a3J⟩:=bB (show ¬mi=n5 from qmi.1)
     obtain⟨aHV,aHW,aHX,a3K⟩:=bB (show ¬mi=n3 from qmi.2.1)
     obtain⟨aHY,aHZ,aH0,a3L⟩:=bB (show ¬mi=n2 from qmi.2.2.1)
     obtain⟨a32,a33,a34,bTJ⟩:=bB (show ¬mi=na from qmi.2.2.2.1)
     obtain⟨bTB,a3Q,a3R,bTC⟩:=bB (show ¬mi=ni from qmi.2.2.2.2.1)
     have a3M:=qmi.2.2.2.2.2
     try simp -dsimp -implicitDefEqProofs only[go_sem,↓reduceIte,Tryz.f54,aO,aI,nH,nI,aAP,aAQ,aAR,aAS,pB,pC,kU,kV,aCT,aCU,a35,a36,aH1,aH2,aH3,aH4,aH5,aH6,aHT,aHU,aHW,aHX,aHZ,aH0,a33,a34,a3Q,a3R,eaa,hlta,aK,aY,eai,hlti,aK,aY,pA.flat,pA.one,OV.dY,OV.bS,OV.jB]
     refine⟨(ki+1,esi++[[.v (.int .i64 x.aD[ka].aN[ki].aP),.v (.int .i64 x.aD[ka].aN[ki].aW),.v (.int .i64 x.aD[ka].aN[ki].bR),.v (.int .i64 x.aD[ka].aN[ki].bI),aHR]],gb,some mi),?_⟩
     simp only
     refine⟨?_,aDZ,⟨by omega,OR.snoc hori hlti oeb,hnewi.snoc wb,aQS,l4,uV,uF,a3M,(λn_ e_=>by obtain rfl:=gV e_;exact⟨a32,aHY,aHV,aHS⟩)⟩,by omega⟩
     all_goals(repeat'(with_reducible refine And.intro ?_ ?_))
     all_goals first|rfl|trivial|(rw[IntWalk.i64_in _ aA];omega)
   ·have bTD:ki=x.aD[ka].aN.length:=by omega
    subst bTD
    rw[mR]at hori
    have bTL:bY gi_ (.row 5 (OV.cells esi)) oi_ na=none:=fU aQS λn_ e_=>(honi n_ e_).1
    have a3S:bY gi_ (.row 5 (OV.cells esi)) oi_ n2=none:=fU l4 λn_ e_=>(honi n_ e_).2.1
    have a3T:bY gi_ (.row 5 (OV.cells esi)) oi_ n3=none:=fU uV λn_ e_=>(honi n_ e_).2.2.1
    have a3U:bY gi_ (.row 5 (OV.cells esi)) oi_ n5=none:=fU uF λn_ e_=>(honi n_ e_).2.2.2
    try simp -dsimp -implicitDefEqProofs only[go_sem,↓reduceIte,Tryz.f54,aO,aI,nH,nI,aAP,aAQ,aAR,aAS,pB,pC,kU,kV,aCT,aCU,eaa,hlta,aK,aY,kH,s7,OV.dY,OV.bS,OV.jB,bX,aU.aS]
    try(with_reducible intro _)
    repeat'(with_reducible first|refine And.intro aGT ?_)
    have aQS:=bTL
    have l4:=a3S
    have uV:=a3T
    have uF:=a3U
    have wf:=xK (sz:=5) hnewi hosi
    intro ma qma
    obtain⟨bTE,a3V,a3W,bTF⟩:=bB (show ¬ma=n5 from qma.1)
    obtain⟨aVE,a3X,a3Y,bTG⟩:=bB (show ¬ma=n3 from qma.2.1)
    obtain⟨aVD,a3Z,a30,bTH⟩:=bB (show ¬ma=n2 from qma.2.2.1)
    obtain⟨b8V,bTM,bTN,b8W⟩:=bB (show ¬ma=na from qma.2.2.2.1)
    have bTI:=qma.2.2.2.2
    try simp -dsimp -implicitDefEqProofs only[go_sem,↓reduceIte,Tryz.f54,aO,aI,nH,nI,aAP,aAQ,aAR,aAS,pB,pC,kU,kV,aCT,aCU,a3V,a3W,a3X,a3Y,a3Z,a30,bTM,bTN,eaa,hlta,aK,aY,kH,s7,OV.dY,OV.bS,OV.jB]
    refine⟨(ka+1,esa++[[.v (.str x.aD[ka].e8),.v (I x.aD[ka].aT),(gov 5 esi oi_)]],(bY gi_ (.row 5 (OV.cells esi)) oi_),some ma),?_⟩
    simp only
    refine⟨?_,(aE.wk.trans (b:=(aR (aR (bY (bY gi_ (.row 5 (OV.cells esi)) oi_) (.row 3 (OV.cells esa++[[Cell.v (.str x.aD[ka].e8),Cell.v (I x.aD[ka].aT),Cell.v (gW 5 esi.length oi_)]])) (some ma)) n2 (.row 1 [[.v .bD]])) n3 (.row 1 [[.v (gW 3 (esa++[[.v (.str x.aD[ka].e8),.v (I x.aD[ka].aT),(gov 5 esi oi_)]]).length (some ma))]]))) (aE.aVZ (m:=ma) (sz:=3) (es:=(OV.cells esa++[[Cell.v (.str x.aD[ka].e8),Cell.v (I x.aD[ka].aT),Cell.v (gW 5 esi.length oi_)]])) (es':=OV.cells (esa++[[.v (.str x.aD[ka].e8),.v (I x.aD[ka].aT),(gov 5 esi oi_)]])) (λq_ hq_=>by simp only[aG,aK,if_neg hq_]) a6P a6P bYX) (aE.kE aDZ)),⟨by omega,OR.snoc hora hlta ⟨_,rfl,aCL hori hosi⟩,hnewa.snoc bPF,l4,uV,bTI,(λn_ e_=>by obtain rfl:=gV e_;exact⟨aVD,aVE⟩)⟩,by omega⟩
    all_goals(repeat'(with_reducible refine And.intro ?_ ?_))
    all_goals first|rfl|trivial|(rw[IntWalk.i64_in _ aA];omega)
 ·have b8X:ka=x.aD.length:=by omega
  subst b8X
  rw[mR]at hora
  have b8Y:bY ga_ (.row 3 (OV.cells esa)) oa_ n2=none:=fU l4 λn_ e_=>(hona n_ e_).1
  have b8Z:bY ga_ (.row 3 (OV.cells esa)) oa_ n3=none:=fU uV λn_ e_=>(hona n_ e_).2
  try simp -dsimp -implicitDefEqProofs only[go_sem,↓reduceIte,Tryz.f54,aO,aI,nH,nI,kH,s7,bX]
  try(with_reducible intro _)
  refine⟨_,(bY ga_ (.row 3 (OV.cells esa)) oa_),_,Shift.of (Sub.agg (qV.cons aFT qV.nil)) aDZ,⟨[(gov 3 esa oa_)],?_,rfl,rfl⟩,?_⟩
  ·exact⟨(gov 3 esa oa_),rfl,aCL hora hosa⟩
  ·have hq:=(xK (sz:=3) hnewa hosa)
   simpa only[OV.fC,OV.gZ,OV.sZ,lW,dT,aD6]using hq
theorem bQO (n:Int):n.tmod 1000003=n%1000003∨n.tmod 1000003=n%1000003-1000003:=by
 by_cases h:0<=n
 ·exact .inl (zH h)
 ·have h1:n.tmod 1000003=-((-n)%1000003):=by
   have h2:n=-(-n):=by omega
   rw[h2,Int.neg_tmod,zH aA,Int.neg_neg]
  rw[h1];omega
theorem j6 (n:Int):fM Tryz.prog 181 [I n] (I (n%1000003)):=by
 refine gX 7 aD2 dC cK Tryz.func181 λh=>?_
 simp -dsimp -implicitDefEqProofs only[go_sem,↓reduceIte,Tryz.f181]
 rcases bQO n with h|h
 all_goals
  rw[h,IntWalk.i64_in _ aA,zH aA]
  omega
@[go_sem] def bLJ:List Nat:=[0,2,3,7]
theorem dU (n:Int):fM Tryz.prog 107 [I n] (I (n%1000003)):=by
 refine gX 11 bLJ dC cK Tryz.func107 λh=>?_
 simp -dsimp -implicitDefEqProofs only[go_sem,↓reduceIte,Tryz.f107]
 rcases bQO n with h|h
 all_goals
  rw[h]
  refine⟨λq=>?_,λq=>?_⟩
  all_goals first|omega|(rw[IntWalk.i64_in _ aA];omega)
theorem aWB (a b:Int):fM Tryz.prog 146 [I a,I b] (I ((a+b)%1000003)):=by
 refine gX 11 aE0 dC cK Tryz.func146 λh=>?_
 simp -dsimp -implicitDefEqProofs only[go_sem,↓reduceIte,Tryz.f146]
 first|refine aJ.mk (j6 a) ?_|refine aF.mk (j6 a) ?_|refine aJ.bA (j6 a) ?_|refine aF.mk (aX.cU (j6 a)) ?_
 simp -dsimp -implicitDefEqProofs only[go_sem,↓reduceIte,Tryz.f146]
 first|refine aJ.mk (j6 b) ?_|refine aF.mk (j6 b) ?_|refine aJ.bA (j6 b) ?_|refine aF.mk (aX.cU (j6 b)) ?_
 simp -dsimp -implicitDefEqProofs only[go_sem,↓reduceIte,Tryz.f146]
 rw[IntWalk.i64_in _ aA,zH aA]
 omega
theorem iD (a b:Int):fM Tryz.prog 45 [I a,I b] (I ((a+b)%1000003)):=by
 refine gX 11 aE0 dC cK Tryz.func45 λh=>?_
 simp -dsimp -implicitDefEqProofs only[go_sem,↓reduceIte,Tryz.f45]
 first|refine aJ.mk (dU a) ?_|refine aF.mk (dU a) ?_|refine aJ.bA (dU a) ?_|refine aF.mk (aX.cU (dU a)) ?_
 simp -dsimp -implicitDefEqProofs only[go_sem,↓reduceIte,Tryz.f45]
 first|refine aJ.mk (dU b) ?_|refine aF.mk (dU b) ?_|refine aJ.bA (dU b) ?_|refine aF.mk (aX.cU (dU b)) ?_
 simp -dsimp -implicitDefEqProofs only[go_sem,↓reduceIte,Tryz.f45]
 rw[IntWalk.i64_in _ aA,zH aA]
 omega
def iK (a b:List Int):List Int:=List.zipWith (λx y=>(x+y)%1000003) a b
theorem aJ2 {a b:List Int} (h:b.length=a.length):(iK a b).length=a.length:=by simp[iK,h]
@[go_sem] def b04:Marks:=λid=>match id with|5=>([13],(.op 0 (.op 1 (.op 2 (.op 3 (.op 4 (.op 5 (.op 6 (.op 7 (.op 8 (.op 9 (.op 10 (.op 11 (.op 12 (.op 13 .nil)))))))))))))),[])|_=>([],.nil,[])
theorem added (a b:List Int) (hab:b.length=a.length) (hl:a.length<=1048576) (ha:∀ x∈a,0<=x/\x<1000003) (hb:∀ x∈b,0<=x/\x<1000003):uT Tryz.prog 42 [fN 1 (λn=>[I n]) a,fN 1 (λn=>[I n]) b] (QS (OS (oP I) 1 (iK a b))):=by
 refine aBC 30 a7R dC b04 Tryz.func42 λh=>?_
 simp -dsimp -implicitDefEqProofs only[go_sem,↓reduceIte,Tryz.f42]
 intro _
 refine⟨bN,iH _,by omega,by omega,λn hn _=>?_⟩
 have hc:=aJ2 hab
 rw[zQ]
 refine aHO a7R dC b04 (λk:Nat=>[(0,fN 1 (λn=>[I n]) a),(1,fN 1 (λn=>[I n]) b),(5,.os n 1 0 a.length),(11,I a.length),(12,I k)]) n (λk=>.row 1 (((upL (iK a b) k).map λn=>[I n]).map (List.map .v))) (λk=>k<=a.length) (λk=>a.length-k) 0 ⟨by simp[c4,b7],by rw[aM,aEY,hc],fE _⟩ ?_
 intro k hk
 rcases bZ k a.length with hlt|hge
 ·have ea:a[k]?=some a[k]:=cM hlt
  have eb:b[k]?=some b[k]:=cM aA
  have eu:=aJW (c:=iK a b) (k:=k) aA
  have el:=aJV (iK a b) (k:=k) aA
  simp -dsimp -implicitDefEqProofs only[go_sem,↓reduceIte,Tryz.f42,aO,hlt,ea,eb,eu,el,hc]
  have h1:=ha _ (eI hlt)
  have h2:=hb b[k] (eI aA)
  refine⟨by omega,k+1,by rw[IntWalk.i64_in _ aA];rfl,?_,by omega,by omega⟩
  have hv:(iK a b)[k]'aA=(a[k]+b[k])%1000003:=by simp[iK]
  rw[IntWalk.i64_in _ aA,zH aA,←aFW aA,hv,←yK I]
  exact aE.le_refl _
 ·have hk':k=a.length:=by omega
  subst hk'
  simp -dsimp -implicitDefEqProofs only[go_sem,↓reduceIte,Tryz.f42,aO,bX]
  have hu:upL (iK a b) a.length=iK a b:=by rw[←hc];exact aJU _
  rw[hu,show a.length=(iK a b).length from hc.symm]
  exact zP hn
def bV (n:Nat) (s:List Int):Prop:=s.length=n/\dW s
def iE (a:List Int) (n:Int):List Int:=a.map λx=>x*n%1000003
def aJ3 (a b:List Int):List Int:=iK a (iE b 1000002)
def cvS (a b:List Int) (k:Nat):Nat->Int
 |0=>0
 |i+1=>(cvS a b k i+a.getD i 0*b.getD (k-i) 0)%1000003
def mulL (a b:List Int):List Int:=(List.range a.length).map λk=>cvS a b k (k+1)
def pwN (b:Int) (n:Nat):Int:=b ^ n%1000003
def nV (x:Int):Int:=pwN (x%1000003) 1000001
def dvS (o b:List Int) (k:Nat) (r:Int):Nat->Int
 |0=>r
 |i+1=>(dvS o b k r i-o.getD i 0*b.getD (k-i) 0)%1000003
def lJ (a b:List Int):Nat->List Int
 |0=>[]
 |k+1=>lJ a b k++[dvS (lJ a b k) b k (a.getD k 0) k*nV (b.getD 0 0)%1000003]
def lV (a b:List Int):List Int:=lJ a b a.length
def fQ (n:Int) (sz:Nat):List Int:=(List.replicate sz 0).set 0 n
def dE:aB:=.mk 0 0 0 0 []
def aB.fZ (e:aB) (i:Nat):aB:=e.aL.getD i dE
def aC.outs (p:aC) (f:Int):List aB:=((p.aD[f.toNat]?).map (·.aN)).getD []
def aC.out (p:aC) (f i:Int):aB:=(p.outs f).getD i.toNat dE
abbrev Out (α:Type):=Except Int (α×Nat)
def Out.andThen {α β:Type} (x:Out α) (f:α->Nat->Out β):Out β:=match x with
 | .ok (a,t)=>f a t
 | .error c=>.error c
def jY (ev:Nat->aB->Out (List Int)):List aB->Nat->Out (List (List Int))
 | [],t=>.ok ([],t)
 |e::l,t=>(ev t e).andThen λv t=>(jY ev l t).andThen λvs t=>.ok (v::vs,t)
def pN (f:List (List Int)->Nat->Out (List (List Int))):Nat->List (List Int)->Nat->Out (List (List Int))
 |0,vs,t=>.ok (vs,t)
 |n+1,vs,t=>(f vs t).andThen λvs t=>pN f n vs t
def opE (k:Int) (vs:List (List Int)) (t:Nat):Out (List Int) :=
 if k=3 then .ok (iK (vs.getD 0 []) (vs.getD 1 []),t)
 else if k=4 then .ok (aJ3 (vs.getD 0 []) (vs.getD 1 []),t)
 else if k=5 then .ok (mulL (vs.getD 0 []) (vs.getD 1 []),t)
 else if k=7 then .ok (iE (vs.getD 0 []) 1000002,t)
 else if (vs.getD 1 []).getD 0 0=0 then .error 6
 else .ok (lV (vs.getD 0 []) (vs.getD 1 []),t)
def iM (p:aC) (sz:Nat):Nat->Nat->aB->List (List Int)->Out (List Int)
 |0,_,_,_=>.error 7
 |n+1,t,e,env =>
  if t=3000 then .error 7
  else if e.aP=1 then .ok (fQ e.aW sz,t+1)
  else if e.aP=2 then .ok (env.getD e.aW.toNat [],t+1)
  else if e.aP=8 then(iM p sz n (t+1) (e.fZ 0) env).andThen λc t=>if c.getD 0 0=0 then iM p sz n t (e.fZ 1) env else iM p sz n t (e.fZ 2) env
  else if e.aP=9 then(iM p sz n (t+1) (e.fZ 0) env).andThen λv t=>iM p sz n t (e.fZ 1) (env++[v])
  else(jY (λt e=>iM p sz n t e env) e.aL (t+1)).andThen λvs t =>
   if e.aP=10 then iM p sz n t (p.out e.aW e.bR) vs
   else if e.aP=11 then(pN (λvs t=>jY (λt e=>iM p sz n t e vs) (p.outs e.aW) t) e.bI.toNat vs t).andThen λvs t=>.ok (vs.getD e.bR.toNat [],t)
   else opE e.aP vs t
def kW {α:Type} (X:Out α) (v:α) (t:Nat) (c:Int):Prop:=match X with
 | .ok (w,u)=>c=0/\v=w/\t=u
 | .error d=>c=d/\d≠0
def r6 {α:Type} (c:Int) (X:Out α):Out α:=if c=0 then X else .error c
theorem dF {α:Type} (X:Out α):r6 0 X=X:=if_pos rfl
theorem vO {α:Type} {c:Int} (X:Out α) (h:¬c=0):r6 c X=.error c:=if_neg h
theorem mW {α:Type} {c:Int} (v:α) (t:Nat) (h:¬c=0):kW (.error c:Out α) v t c:=⟨rfl,h⟩
theorem nN {α:Type} (v:α) (t:Nat):kW (.ok (v,t):Out α) v t 0:=⟨rfl,rfl,rfl⟩
theorem jK {α:Type} (v:α) (t:Nat) (c:Int):kW (r6 c (.ok (v,t))) v t c:=by
 by_cases e:c=0
 ·subst e;rw[dF];exact nN v t
 ·rw[vO _ e];exact mW v t e
theorem kW.then {α β:Type} {X:Out α} {F:α->Nat->Out β} {v:α} {t:Nat} {c:Int} {v2:β} {t2:Nat} {c2:Int} (h:kW X v t c) (h2:kW (r6 c (F v t)) v2 t2 c2):kW (X.andThen F) v2 t2 c2:=by
 cases X with
 |ok p =>
  obtain⟨w,u⟩:=p
  obtain⟨rfl,rfl,rfl⟩:=h
  rw[dF]at h2
  exact h2
 |error d =>
  obtain⟨rfl,h⟩:=h
  rw[vO _ h]at h2
  exact h2
theorem kW.err {α:Type} {X:Out α} {v:α} {t:Nat} {c:Int} (h:kW X v t c) (hc:¬c=0):X=.error c:=by
 cases X with
 |ok p=>exact absurd h.1 hc
 |error d=>rw[h.1]
theorem kW.eN {α β:Type} {c0:Int} {X:Out α} {F:α->Nat->Out β} {v:α} {t:Nat} {c:Int} {v2:β} {t2:Nat} {c2:Int} (h:kW (r6 c0 X) v t c) (h2:kW (r6 c (F v t)) v2 t2 c2):kW (r6 c0 (X.andThen F)) v2 t2 c2:=by
 by_cases e:c0=0
 ·subst e
  rw[dF]at h ⊢
  exact h.then h2
 ·rw[vO _ e]at h ⊢
  obtain⟨rfl,h⟩:=h
  rw[vO _ h]at h2
  exact h2
theorem kW.b06 {α:Type} {c0:Int} {X:Out α} {v:α} {t:Nat} {c:Int} (h:kW (r6 c0 X) v t c) (hc:c=0):c0=0:=by
 by_cases e:c0=0
 ·exact e
 ·rw[vO _ e]at h
  exact h.1.symm.trans hc
theorem Out.pV {α β γ:Type} (x:Out α) (f:α->Nat->Out β) (g:β->Nat->Out γ):(x.andThen f).andThen g=x.andThen λa t=>(f a t).andThen g:=by
 cases x <;> rfl
theorem Out.andThen_ok {α β:Type} (a:α) (t:Nat) (f:α->Nat->Out β):Out.andThen (.ok (a,t)) f=f a t:=rfl
theorem aBE (ev:Nat->aB->Out (List Int)) (e:aB):∀ (l:List aB) (t:Nat),jY ev (l++[e]) t=(jY ev l t).andThen λvs t=>(ev t e).andThen λv t=>.ok (vs++[v],t)
 | [],t=>rfl
 |x::l,t=>by
  simp only[aU8,jY,aBE ev e l,Out.pV,Out.andThen_ok]
theorem aCW (f:List (List Int)->Nat->Out (List (List Int))):∀ (n:Nat) (vs:List (List Int)) (t:Nat),pN f (n+1) vs t=(pN f n vs t).andThen f
 |0,vs,t=>by
  show(f vs t).andThen (λvs t=>.ok (vs,t))=f vs t
  cases f vs t with
  |ok p=>rfl
  |error c=>rfl
 |n+1,vs,t=>by
  show(f vs t).andThen (λvs t=>pN f (n+1) vs t)=((f vs t).andThen λvs t=>pN f n vs t).andThen f
  rw[Out.pV]
  congr 1
  funext a t
  exact aCW f n a t
theorem aT1 {f:List (List Int)->Nat->Out (List (List Int))} {vs:List (List Int)} {t:Nat} {c:Int}:∀ (n k:Nat),k<=n->pN f k vs t=.error c->pN f n vs t=.error c
 |0,k,hk,h=>by
  have:k=0:=by omega
  subst this;exact h
 |n+1,k,hk,h=>by
  rcases bZ k (n+1)with hlt|hge
  ·rw[aCW,aT1 n k aA h];rfl
  ·have:k=n+1:=by omega
   subst this;exact h
theorem nY (n:Int):oU (n%1000003):=by unfold oU;omega
theorem bV.len {n:Nat} {s:List Int} (h:bV n s):s.length=n:=h.1
theorem kX {n:Nat} {a b:List Int} (ha:bV n a) (hb:bV n b):bV n (iK a b):=by
 refine⟨by simp[iK,ha.1,hb.1],λx hx=>?_⟩
 obtain⟨i,hi,rfl⟩:=aD8.1 hx
 simp only[iK,List.getElem_zipWith]
 exact nY _
theorem eO {n:Nat} {a:List Int} (k:Int) (ha:bV n a):bV n (iE a k):=by
 refine⟨by simp[iE,ha.1],λx hx=>?_⟩
 obtain⟨y,_,rfl⟩:=qU.1 hx
 exact nY _
theorem xX {n:Nat} {a b:List Int} (ha:bV n a) (hb:bV n b):bV n (aJ3 a b):=kX ha (eO _ hb)
theorem bFU (a b:List Int) (k:Nat):∀ i,oU (cvS a b k i)
 |0=>by unfold cvS oU;omega
 |i+1=>nY _
theorem fR {n:Nat} {a:List Int} (b:List Int) (ha:bV n a):bV n (mulL a b):=by
 refine⟨by simp[mulL,ha.1],λx hx=>?_⟩
 obtain⟨k,_,rfl⟩:=qU.1 hx
 exact bFU _ _ _ _
theorem sE (a b:List Int):∀ k,(lJ a b k).length=k
 |0=>rfl
 |k+1=>by rw[lJ,mV,sE a b k];rfl
theorem yM (a b:List Int):∀ k,dW (lJ a b k)
 |0=>λx hx=>by cases hx
 |k+1=>λx hx=>by
  rw[lJ,pJ,jF]at hx
  rcases hx with hx|rfl
  ·exact yM a b k x hx
  ·exact nY _
theorem tL {n:Nat} {a:List Int} (b:List Int) (ha:bV n a):bV n (lV a b):=⟨by rw[lV,sE,ha.1],yM _ _ _⟩
theorem fP {n:Int} {sz:Nat} (h:oU n):bV sz (fQ n sz):=by
 refine⟨by simp[fQ],λx hx=>?_⟩
 rw[fQ]at hx
 rcases aSE hx with hx|rfl
 ·have:=(aS6.1 hx).2
  subst this;unfold oU;omega
 ·exact h
theorem dW.get {l:List Int} (h:dW l) (i:Nat):oU (l.getD i 0):=by
 rw[dI]
 rcases bZ i l.length with hi|hi
 ·rw[cM hi];exact h _ (eI hi)
 ·rw[a2L hi];unfold oU;simp
def hR (s s':List Int):Prop:=(s=[]/\s'=[])∨∃ x a b,s=x::a/\s'=x::b
theorem bTO:hR [] []:=.inl ⟨rfl,rfl⟩
theorem hR.hd {s s':List Int} (h:hR s s'):s.getD 0 0=s'.getD 0 0:=by
 rcases h with⟨rfl,rfl⟩|⟨x,a,b,rfl,rfl⟩ <;> rfl
theorem bFV {a a' b b':List Int} (ha:hR a a') (hb:hR b b'):hR (iK a b) (iK a' b'):=by
 rcases ha with⟨rfl,rfl⟩|⟨x,a,a',rfl,rfl⟩
 ·exact .inl ⟨rfl,rfl⟩
 ·rcases hb with⟨rfl,rfl⟩|⟨y,b,b',rfl,rfl⟩
  ·exact .inl ⟨rfl,rfl⟩
  ·exact .inr ⟨_,_,_,rfl,rfl⟩
theorem bFW {a a':List Int} (n:Int) (ha:hR a a'):hR (iE a n) (iE a' n):=by
 rcases ha with⟨rfl,rfl⟩|⟨x,a,a',rfl,rfl⟩
 ·exact .inl ⟨rfl,rfl⟩
 ·exact .inr ⟨_,_,_,rfl,rfl⟩
theorem bTP {a a' b b':List Int} (ha:hR a a') (hb:hR b b'):hR (aJ3 a b) (aJ3 a' b'):=bFV ha (bFW _ hb)
theorem aL8 (x:Int) (a b:List Int):∃ t,mulL (x::a) b=(x*b.getD 0 0)%1000003::t:=by
 refine⟨((List.range a.length).map Nat.succ).map λk=>cvS (x::a) b k (k+1),?_⟩
 rw[mulL,al2,List.range_succ_eq_map,nZ]
 congr 1
 simp[cvS]
theorem bTQ {a a' b b':List Int} (ha:hR a a') (hb:hR b b'):hR (mulL a b) (mulL a' b'):=by
 rcases ha with⟨rfl,rfl⟩|⟨x,a,a',rfl,rfl⟩
 ·exact .inl ⟨rfl,rfl⟩
 ·obtain⟨t,h⟩:=aL8 x a b
  obtain⟨t',h'⟩:=aL8 x a' b'
  rw[h,h',hb.hd]
  exact .inr ⟨_,_,_,rfl,rfl⟩
theorem aFY (x:Int) (a b:List Int):∀ k,∃ t,lJ (x::a) b (k+1)=x*nV (b.getD 0 0)%1000003::t
 |0=>⟨[],rfl⟩
 |k+1=>by
  obtain⟨t,h⟩:=aFY x a b k
  rw[lJ,h]
  exact⟨_,rfl⟩
theorem bTR {a a' b b':List Int} (ha:hR a a') (hb:hR b b'):hR (lV a b) (lV a' b'):=by
 rcases ha with⟨rfl,rfl⟩|⟨x,a,a',rfl,rfl⟩
 ·exact .inl ⟨rfl,rfl⟩
 ·obtain⟨t,h⟩:=aFY x a b a.length
  obtain⟨t',h'⟩:=aFY x a' b' a'.length
  rw[lV,lV,al2,al2,h,h',hb.hd]
  exact .inr ⟨_,_,_,rfl,rfl⟩
theorem bFX (n:Int) (sz oC:Nat):hR (fQ n (sz+1)) (fQ n (oC+1)):=by
 rw[fQ,fQ,aYR,aYR]
 exact .inr ⟨_,_,_,rfl,rfl⟩
def eR:List (List Int)->List (List Int)->Prop
 | [],[]=>True
 |s::l,s'::l'=>hR s s'/\eR l l'
 | _,_=>False
theorem eR.get:∀ {l l':List (List Int)},eR l l'->∀ i,hR (l.getD i []) (l'.getD i [])
 | [],[],_,i=>by simp[bTO]
 |s::l,s'::l',h,0=>h.1
 |s::l,s'::l',h,i+1=>by simpa using eR.get h.2 i
 | [],_::_,h,_=>h.elim
 | _::_,[],h,_=>h.elim
theorem eR.len:∀ {l l':List (List Int)},eR l l'->l.length=l'.length
 | [],[],_=>rfl
 |s::l,s'::l',h=>by simp[eR.len h.2]
 | [],_::_,h=>h.elim
 | _::_,[],h=>h.elim
theorem eR.snoc {s s':List Int} (h:hR s s'):∀ {l l':List (List Int)},eR l l'->eR (l++[s]) (l'++[s'])
 | [],[],_=>⟨h,trivial⟩
 |x::l,x'::l',k=>⟨k.1,eR.snoc h k.2⟩
 | [],_::_,k=>k.elim
 | _::_,[],k=>k.elim
def oR {α:Type} (R:α->α->Prop) (X Y:Out α):Prop:=match X,Y with
 | .ok (v,t),.ok (v',t')=>R v v'/\t=t'
 | .error c,.error c'=>c=c'
 | _,_=>False
theorem oR.bind {α β:Type} {R:α->α->Prop} {S:β->β->Prop} {X Y:Out α} {F G:α->Nat->Out β} (h:oR R X Y) (hf:∀ v v' t,R v v'->oR S (F v t) (G v' t)):oR S (X.andThen F) (Y.andThen G):=by
 cases X with
 |ok p =>
  cases Y with
  |ok q =>
   obtain⟨v,t⟩:=p
   obtain⟨v',t'⟩:=q
   obtain⟨h1,rfl⟩:=h
   exact hf _ _ _ h1
  |error c=>exact h.elim
 |error c =>
  cases Y with
  |ok q=>exact h.elim
  |error d=>exact h
theorem oR.pure {α:Type} {R:α->α->Prop} {v v':α} {t:Nat} (h:R v v'):oR R (.ok (v,t)) (.ok (v',t)):=⟨h,rfl⟩
theorem aFZ {ev ev':Nat->aB->Out (List Int)} (h:∀ t e,oR hR (ev t e) (ev' t e)):∀ (l:List aB) (t:Nat),oR eR (jY ev l t) (jY ev' l t)
 | [],t=>⟨trivial,rfl⟩
 |e::l,t=>(h t e).bind λv v' t hv=>(aFZ h l t).bind λvs vs' t hvs=>oR.pure ⟨hv,hvs⟩
theorem aQT {f g:List (List Int)->Nat->Out (List (List Int))} (h:∀ vs vs' t,eR vs vs'->oR eR (f vs t) (g vs' t)):∀ (n:Nat) (vs vs':List (List Int)) (t:Nat),eR vs vs'->oR eR (pN f n vs t) (pN g n vs' t)
 |0,vs,vs',t,hv=>⟨hv,rfl⟩
 |n+1,vs,vs',t,hv=>(h vs vs' t hv).bind λa a' t ha=>aQT h n a a' t ha
theorem bFY (k:Int) {vs vs':List (List Int)} (t:Nat) (h:eR vs vs'):oR hR (opE k vs t) (opE k vs' t):=by
 have h0:=h.get 0
 have h1:=h.get 1
 unfold opE
 split
 ·exact oR.pure (bFV h0 h1)
 split
 ·exact oR.pure (bTP h0 h1)
 split
 ·exact oR.pure (bTQ h0 h1)
 split
 ·exact oR.pure (bFW _ h0)
 rw[h1.hd]
 split
 ·exact rfl
 ·exact oR.pure (bTR h0 h1)
theorem a0L (p:aC) (sz oC:Nat):∀ (n t:Nat) (e:aB) (env env':List (List Int)),eR env env'->oR hR (iM p (sz+1) n t e env) (iM p (oC+1) n t e env')
 |0,t,e,env,env',h=>rfl
 |n+1,t,e,env,env',h=>by
  have ih:=a0L p sz oC n
  rw[iM,iM]
  split
  ·exact rfl
  split
  ·exact oR.pure (bFX _ _ _)
  split
  ·exact oR.pure (h.get _)
  split
  ·refine(ih _ _ _ _ h).bind λc c' t hc=>?_
   rw[hc.hd]
   split
   ·exact ih _ _ _ _ h
   ·exact ih _ _ _ _ h
  split
  ·exact(ih _ _ _ _ h).bind λv v' t hv=>ih _ _ _ _ (eR.snoc hv h)
  refine(aFZ (λt e=>ih t e _ _ h) _ _).bind λvs vs' t hv=>?_
  split
  ·exact ih _ _ _ _ hv
  split
  ·refine(aQT (f:=λvs t=>jY (λt e=>iM p (sz+1) n t e vs) (p.outs e.aW) t) (g:=λvs t=>jY (λt e=>iM p (oC+1) n t e vs) (p.outs e.aW) t) (λa a' u ha=>aFZ (λu x=>ih u x a a' ha) (p.outs e.aW) u) e.bI.toNat vs vs' t hv).bind λa a' u ha=>?_
   exact oR.pure (ha.get _)
  ·exact bFY _ _ hv
def evF (p:aC) (sz:Nat) (f:Int) (args:List (List Int)):Out (List (List Int)):=jY (λt e=>iM p sz 3001 t e args) (p.outs f) 0
theorem bFZ (p:aC) (sz oC:Nat) (f:Int) (args args':List (List Int)) (h:eR args args'):oR eR (evF p (sz+1) f args) (evF p (oC+1) f args') :=
 aFZ (λt e=>a0L p sz oC _ t e _ _ h) _ _
theorem bF0 (b:Int):∀ n:Nat,(b%1000003) ^ n%1000003=b ^ n%1000003
 |0=>by rw[aS7,aS7]
 |n+1=>by
  rw[aYV,aYV,aS8,bF0 b n,Int.emod_emod_of_dvd _ (Int.dvd_refl _),←aS8]
theorem a8A (x b:Int) (n:Nat):x*b ^ n%1000003=(if n%2=1 then x*b%1000003 else x)*(b*b%1000003) ^ (n / 2)%1000003:=by
 have h2:b ^ n=(b*b) ^ (n / 2)*b ^ (n%2):=by
  rw[show b*b=b ^ 2 by rw[aYV,aYV,aS7,aYW],←Int.pow_mul,←Int.pow_add]
  congr 1;omega
 have h3:∀ y:Int,y*(b*b%1000003) ^ (n / 2)%1000003=y*(b*b) ^ (n / 2)%1000003:=λy=>by
  rw[aS8,bF0,←aS8]
 rw[h3,h2]
 split
 ·rename_i h
  rw[h,aYV,aS7,aYW,aS8 (x*b%1000003),Int.emod_emod_of_dvd _ (Int.dvd_refl _),←aS8]
  congr 1
  rw[aOW ((b*b) ^ (n / 2)) b,a58]
 ·rename_i h
  have:n%2=0:=by omega
  rw[this,aS7,Int.mul_one]
theorem a8B (x b:Int) (hx:0<=x/\x<1000003):x*b ^ 0%1000003=x:=by
 rw[aS7,Int.mul_one];omega
theorem bF1 {x b m T:Int} (hm:0<=m) (h:m%2=1) (hp:x*b ^ m.toNat%1000003=T):(x*b%1000003)*(b*b%1000003) ^ (m / 2).toNat%1000003=T:=by
 rw[←hp,a8A x b m.toNat,if_pos aA,show(m / 2).toNat=m.toNat / 2 by omega]
theorem a8C {x b m T:Int} (hm:0<=m) (h:¬m%2=1) (hp:x*b ^ m.toNat%1000003=T):x*(b*b%1000003) ^ (m / 2).toNat%1000003=T:=by
 rw[←hp,a8A x b m.toNat,if_neg aA,show(m / 2).toNat=m.toNat / 2 by omega]
theorem a0M (y:Int):0<=y%1000003/\y%1000003<1000003:=by omega
theorem cI {l:List Int} {i:Nat} (h:i<l.length):l[i]?=some (l.getD i 0):=by
 rw[dI,cM h];rfl
theorem num_inv (x:Int):oU (nV x):=nY _
theorem aCX (o b:List Int) (k:Nat) {r:Int} (hr:oU r):∀ i,oU (dvS o b k r i)
 |0=>hr
 |i+1=>nY _
theorem xY (a b:List Int) {k:Nat}:∀ n,k<=n->(lJ a b n).take k=lJ a b k
 |0,h=>by
  have:k=0:=by omega
  subst this;rfl
 |n+1,h=>by
  rcases bZ k (n+1)with h1|h1
  ·rw[lJ,bDF (by rw[sE];omega),xY a b n aA]
  ·have:k=n+1:=by omega
   subst this
   rw[pQ (by rw[sE];omega)]
theorem uG (a b:List Int):(lV a b).length=a.length:=sE _ _ _
theorem bLK (a b:List Int) {k:Nat} (hk:k<=a.length):upL (lV a b) k=lJ a b k++List.replicate (a.length-k) 0:=by
 rw[upL,uG,lV,xY a b _ hk]
theorem aNA {a b:List Int} {k i:Nat} (hk:k<=a.length) (hi:i<k):(upL (lV a b) k)[i]?=some ((lJ a b k).getD i 0):=by
 rw[bLK a b hk,uU (by rw[sE];exact hi)]
 exact cI (by rw[sE];exact hi)
theorem aQU {a b:List Int} {k:Nat} (hk:k<a.length):(lV a b)[k]'(by rw[uG];exact hk)=dvS (lJ a b k) b k (a.getD k 0) k*nV (b.getD 0 0)%1000003:=by
 have h:=aNA (a:=a) (b:=b) (k:=k+1) (i:=k) aA aA
 have h2:(lJ a b (k+1)).getD k 0=dvS (lJ a b k) b k (a.getD k 0) k*nV (b.getD 0 0)%1000003:=by
  rw[lJ,dI,wZ (by rw[sE];omega),sE,wI];rfl
 rw[h2,upL,uU (by rw[jT,uG];omega),aOS aA,cM (by rw[uG];exact hk)]at h
 exact gV h
theorem num_mul {x y:Int} (hx:oU x) (hy:oU y):0<=x*y/\x*y<=1000004000004:=by
 refine⟨Int.mul_nonneg hx.1 hy.1,?_⟩
 have:=Int.mul_le_mul hx.2 hy.2 hy.1 aA
 omega
theorem vU (a:List Int) (n:Int):(iE a n).length=a.length:=by simp[iE]
theorem aJ5 (a b:List Int):(mulL a b).length=a.length:=by simp[mulL]
theorem vP {l:List Int} (h:dW l):∀ x∈l,0<=x/\x<1000003:=λx hx=>by have:=h x hx;unfold oU at this;omega
theorem a0N {n:Int} (h0:0<=n) (h1:n<=9223372036854775807):(IntKind.i64.wrap n).tmod 1000003=n%1000003:=by
 rw[IntWalk.i64_in _ aA,zH h0]
theorem bF2 {c:List Int} {k:Nat} (hk:k<c.length):(upL c k).set k 0=upL c k:=by
 have h:=aJW hk
 apply List.ext_getElem?
 intro i
 rw[List.getElem?_set]
 split
 ·subst_vars
  split
  ·exact h.symm
  ·rename_i h2
   rw[a2L aA]
 ·rfl
theorem aQV {p:aC} {sz n st:Nat} {e:aB} {env:List (List Int)} (h3:¬st=3000) (hk:e.aP=1):iM p sz (n+1) st e env=.ok (fQ e.aW sz,st+1):=by rw[iM,if_neg h3,if_pos hk]
theorem aQW {p:aC} {sz n st:Nat} {e:aB} {env:List (List Int)} (h3:¬st=3000) (hk:e.aP=2):iM p sz (n+1) st e env=.ok (env.getD e.aW.toNat [],st+1):=by rw[iM,if_neg h3,if_neg aA,if_pos hk]
theorem aJ6 {p:aC} {sz n st:Nat} {e:aB} {env:List (List Int)} (h3:¬st=3000) (hk:e.aP=8):iM p sz (n+1) st e env=(iM p sz n (st+1) (e.fZ 0) env).andThen λc t=>if c.getD 0 0=0 then iM p sz n t (e.fZ 1) env else iM p sz n t (e.fZ 2) env:=by rw[iM,if_neg h3,if_neg aA,if_neg aA,if_pos hk]
theorem aQX {p:aC} {sz n st:Nat} {e:aB} {env:List (List Int)} (h3:¬st=3000) (hk:e.aP=9):iM p sz (n+1) st e env=(iM p sz n (st+1) (e.fZ 0) env).andThen λv t=>iM p sz n t (e.fZ 1) (env++[v]):=by rw[iM,if_neg h3,if_neg aA,if_neg aA,if_neg aA,if_pos hk]
theorem aE2 {p:aC} {sz n st:Nat} {e:aB} {env:List (List Int)} (h3:¬st=3000) (hk:e.aP=10):iM p sz (n+1) st e env=(jY (λt e=>iM p sz n t e env) e.aL (st+1)).andThen λvs t=>iM p sz n t (p.out e.aW e.bR) vs:=by
 rw[iM,if_neg h3,if_neg aA,if_neg aA,if_neg aA,if_neg aA];simp only[if_pos hk]
theorem aE3 {p:aC} {sz n st:Nat} {e:aB} {env:List (List Int)} (h3:¬st=3000) (hk:e.aP=11):iM p sz (n+1) st e env=(jY (λt e=>iM p sz n t e env) e.aL (st+1)).andThen λvs t=>(pN (λvs t=>jY (λt e=>iM p sz n t e vs) (p.outs e.aW) t) e.bI.toNat vs t).andThen λvs t=>.ok (vs.getD e.bR.toNat [],t):=by
 have h:¬e.aP=10:=by omega
 rw[iM,if_neg h3,if_neg aA,if_neg aA,if_neg aA,if_neg aA];simp only[if_neg h,if_pos hk]
theorem pD {p:aC} {sz n st:Nat} {e:aB} {env:List (List Int)} (h3:¬st=3000) (hk:e.aP=3∨e.aP=4∨e.aP=5∨e.aP=6∨e.aP=7):iM p sz (n+1) st e env=(jY (λt e=>iM p sz n t e env) e.aL (st+1)).andThen λvs t=>opE e.aP vs t:=by
 have h:¬e.aP=10:=by omega
 have h2:¬e.aP=11:=by omega
 rw[iM,if_neg h3,if_neg aA,if_neg aA,if_neg aA,if_neg aA];simp only[if_neg h,if_neg h2]
theorem aB.fV {e:aB} {i:Nat} (h:i<e.aL.length):e.aL[i]?=some (e.fZ i):=by
 rw[aB.fZ,dI,cM h];rfl
theorem aB.jN {e:aB} {i:Nat} (h:i<e.aL.length):e.fZ i=e.aL[i]:=by
 have:=aB.fV h
 rw[cM h]at this
 exact(gV this).symm
theorem aB.dX {p:aC} {funcs vars:Int} {e:aB} {i:Nat} (hok:e.ok p funcs vars) (h:i<e.aL.length):(e.fZ i).ok p funcs (jV e.aP i vars):=by
 rw[aB.jN h];exact((aB.cN _ _ _ _).1 hok).2 i h
theorem aB.ld5 (x:aB):(if 5<=x.c.length then some (aH.agg (List.take 5 x.c))else none)=some (.agg x.c):=by
 rw[if_pos (by rw[aB.a7W];exact iH _),pQ (by rw[aB.a7W];exact iH _)]
theorem gQ {k:Int} {i:Nat} {v:Int} (h:¬(k=9/\i=1)):jV k i v=v:=if_neg h
theorem kI {sz:Nat} {env:List (List Int)} (h:∀ s∈env,bV sz s) {i:Nat} (hi:i<env.length):bV sz (env.getD i []):=by
 rw[dI,cM hi];exact h _ (eI hi)
theorem lM {env:List (List Int)} {i:Nat} (hi:i<env.length):env[i]?=some (env.getD i []):=by
 rw[dI,cM hi];rfl
theorem cQ {p:aC} {funcs vars:Int} {e:aB} (hok:e.ok p funcs vars) (hk:¬(e.aP=10∨e.aP=11)):dD e.aP=e.aL.length:=((dA hk).1 ((aB.cN _ _ _ _).1 hok).1).1
theorem cO {p:aC} {funcs vars:Int} {e:aB} (hok:e.ok p funcs vars) (hk:¬e.aP=9):∀ x∈e.aL,x.ok p funcs vars:=λx hx=>by
 obtain⟨i,hi,rfl⟩:=aD8.1 hx
 have:=((aB.cN _ _ _ _).1 hok).2 i hi
 rwa [gQ (λq=>hk q.1)]at this
structure bQP (p:aC) (e:aB) (f:aU):Prop where
 get:p.aD[e.aW.toNat]?=some f
 lo:0<=e.aW
 hi:e.aW<p.aD.length
 pk:0<=e.bR
 pk2:e.bR.toNat<f.aN.length
 kids:(e.aL.length:Int)=f.aT
 params:0<=f.aT/\f.aT<=12
 outs:1<=f.aN.length/\f.aN.length<=12
 oks:∀ x∈f.aN,x.ok p e.aW f.aT
 eq:p.outs e.aW=f.aN
 out:f.aN[e.bR.toNat]?=some (p.out e.aW e.bR)
 loop:e.aP=11->0<=e.bI/\e.bI<=8/\(f.aN.length:Int)=f.aT
theorem nD {p:aC} (hp:p.ok) {e:aB} {funcs vars:Int} (hok:e.ok p funcs vars) (hf:funcs<=p.aD.length) (hk:e.aP=10∨e.aP=11):∃ f,bQP p e f:=by
 have h1:=((aB.cN _ _ _ _).1 hok).1
 have h2:=h1
 unfold oG at h1
 rw[if_pos hk]at h1
 have hlt:e.aW.toNat<p.aD.length:=by omega
 have ef:p.aD[e.aW.toNat]?=some p.aD[e.aW.toNat]:=cM hlt
 rw[vZ hk ef]at h2
 obtain⟨n1,n2,n3,n4,n5,n6,n7⟩:=h2
 have hF:=hp.2 _ _ ef
 have heq:p.outs e.aW=p.aD[e.aW.toNat].aN:=by rw[aC.outs,ef];rfl
 refine⟨_,⟨ef,n1,by omega,n3,by omega,n5,hF.2.1,by have:=hF.2.2.1;omega,λx hx=>?_,heq,?_,n7⟩⟩
 ·have:=(hF.2.2.2.2.2 x hx).2.2.2.2
  rwa [show((e.aW.toNat:Nat):Int)=e.aW by omega]at this
 ·rw[aC.out,heq,dI,cM aA];rfl
def aL9 {α:Type} (X:Out α):Prop:=∀ c,X=.error c->c=6∨c=7
theorem aL9.ok {α:Type} {v:α} {t:Nat}:aL9 (.ok (v,t):Out α):=λc h=>by cases h
theorem aL9.then {α β:Type} {X:Out α} {F:α->Nat->Out β} (h:aL9 X) (hf:∀ v t,aL9 (F v t)):aL9 (X.andThen F):=λc hc=>by
 cases X with
 |ok p=>exact hf p.1 p.2 c hc
 |error d=>exact h c (by cases hc;rfl)
theorem aJ7 {ev:Nat->aB->Out (List Int)} (h:∀ t e,aL9 (ev t e)):∀ (l:List aB) (t:Nat),aL9 (jY ev l t)
 | [],t=>.ok
 |e::l,t=>(h t e).then λv t=>(aJ7 h l t).then λvs t=>.ok
theorem aQY {f:List (List Int)->Nat->Out (List (List Int))} (h:∀ vs t,aL9 (f vs t)):∀ (n:Nat) (vs:List (List Int)) (t:Nat),aL9 (pN f n vs t)
 |0,vs,t=>.ok
 |n+1,vs,t=>(h vs t).then λa t=>aQY h n a t
theorem bLM (k:Int) (vs:List (List Int)) (t:Nat):aL9 (opE k vs t):=by
 unfold opE
 repeat' split
 all_goals first|exact .ok|(intro c h;cases h;exact .inl rfl)
theorem a8D (p:aC) (sz:Nat):∀ (n t:Nat) (e:aB) (env:List (List Int)),aL9 (iM p sz n t e env)
 |0,t,e,env=>λc h=>by rw[iM]at h;cases h;exact .inr rfl
 |n+1,t,e,env=>by
  have ih:=a8D p sz n
  rw[iM]
  split
  ·intro c h;cases h;exact .inr rfl
  split
  ·exact .ok
  split
  ·exact .ok
  split
  ·refine(ih _ _ _).then λv t=>?_
   split
   ·exact ih _ _ _
   ·exact ih _ _ _
  split
  ·exact(ih _ _ _).then λv t=>ih _ _ _
  refine(aJ7 (λt e=>ih t e env) _ _).then λvs t=>?_
  split
  ·exact ih _ _ _
  split
  ·exact(aQY (λvs t=>aJ7 (λt e=>ih t e vs) _ t) _ _ _).then λvs t=>.ok
  ·exact bLM _ _ _
theorem aF0 (p:aC) (sz:Nat) (f:Int) (args:List (List Int)):aL9 (evF p sz f args):=aJ7 (λt e=>a8D p sz 3001 t e args) _ _
def okP {α:Type} (P:α->Prop) (X:Out α):Prop:=∀ v u,X=.ok (v,u)->P v
theorem okP.then {α β:Type} {P:α->Prop} {Q:β->Prop} {X:Out α} {F:α->Nat->Out β} (h:okP P X) (hf:∀ v t,P v->okP Q (F v t)):okP Q (X.andThen F):=λw u hw=>by
 cases X with
 |ok p=>obtain⟨v,t⟩:=p;exact hf v t (h v t rfl) w u hw
 |error c=>cases hw
theorem okP.err {α:Type} {P:α->Prop} {c:Int}:okP P (.error c:Out α):=λw u e=>by cases e
def b07 (sz n:Nat) (l:List (List Int)):Prop:=l.length=n/\∀ s∈l,bV sz s
theorem b07.get {sz n i:Nat} {l:List (List Int)} (h:b07 sz n l) (hi:i<n):bV sz (l.getD i []):=by
 rw[dI,cM (by rw[h.1];exact hi)];exact h.2 _ (eI _)
theorem rE {p:aC} {e:aB} {vars funcs:Int} (h:oG p e vars funcs):e.aP=1∨e.aP=2∨e.aP=3∨e.aP=4∨e.aP=5∨e.aP=6∨e.aP=7∨e.aP=8∨e.aP=9∨e.aP=10∨e.aP=11:=by
 by_cases hk:e.aP=10∨e.aP=11
 ·omega
 ·have h1:=((dA hk).1 h).1
  unfold dD at h1
  repeat'(split at h1)
  all_goals omega
theorem vQ {p:aC} (hp:p.ok) {f:Int} (hf:0<=f/\f<p.aD.length):∃ F,p.aD[f.toNat]?=some F/\(1<=F.aN.length/\F.aN.length<=12)/\(0<=F.aT/\F.aT<=12)/\p.outs f=F.aN/\∀ x∈F.aN,x.ok p f F.aT:=by
 have hlt:f.toNat<p.aD.length:=by omega
 have ef:p.aD[f.toNat]?=some p.aD[f.toNat]:=cM hlt
 have hF:=hp.2 _ _ ef
 refine⟨_,ef,by have:=hF.2.2.1;omega,hF.2.1,by rw[aC.outs,ef];rfl,λx hx=>?_⟩
 have:=(hF.2.2.2.2.2 x hx).2.2.2.2
 rwa [show((f.toNat:Nat):Int)=f by omega]at this
theorem bLN (a:List Int) (m:Int) (hm:oU m) (hl:a.length<=1048576) (ha:dW a):uT Tryz.prog 144 [fN 1 (λn=>[I n]) a,I m] (QS (OS (oP I) 1 (iE a m))):=by
 refine aBC 27 a7R dC cK Tryz.func144 λh=>?_
 simp -dsimp -implicitDefEqProofs only[go_sem,↓reduceIte,Tryz.f144]
 intro _
 refine⟨bN,iH _,by omega,by omega,λn hn _=>?_⟩
 have hc:=vU a m
 rw[zQ]
 refine aHO a7R dC cK (λk:Nat=>[(0,fN 1 (λn=>[I n]) a),(1,I m),(5,.os n 1 0 a.length),(11,I a.length),(12,I k)]) n (λk=>.row 1 (((upL (iE a m) k).map λn=>[I n]).map (List.map .v))) (λk=>k<=a.length) (λk=>a.length-k) 0 ⟨by simp[c4,b7],by rw[aM,aEY,hc],fE _⟩ ?_
 intro k hk
 rcases bZ k a.length with hlt|hge
 ·have ea:a[k]?=some a[k]:=cM hlt
  have eu:=aJW (c:=iE a m) (k:=k) aA
  have el:=aJV (iE a m) (k:=k) aA
  simp -dsimp -implicitDefEqProofs only[go_sem,↓reduceIte,Tryz.f144,aO,hlt,ea,eu,el,hc]
  have h1:=num_mul (ha _ (eI hlt)) hm
  refine⟨k+1,by rw[IntWalk.i64_in _ aA];rfl,?_,by omega,by omega⟩
  have hv:(iE a m)[k]'aA=a[k]*m%1000003:=by simp[iE]
  rw[a0N h1.1 aA,←aFW aA,hv,←yK I]
  exact aE.le_refl _
 ·have hk':k=a.length:=by omega
  subst hk'
  simp -dsimp -implicitDefEqProofs only[go_sem,↓reduceIte,Tryz.f144,aO,bX]
  have hu:upL (iE a m) a.length=iE a m:=by rw[←hc];exact aJU _
  rw[hu,show a.length=(iE a m).length from hc.symm]
  exact zP hn
theorem aG0 {P:Program} {f:FuncId} {args:List aH} {l:List Int} (a:uT P f args (QS (OS (oP I) 1 l))):fM P f args (fN 1 (λn=>[I n]) l):=QS.cU a (λy hy=>OS.pU (c:=λn=>[I n]) (λ_ _ q=>aP2 q) hy)
theorem scaled (a:List Int) (m:Int) (hm:oU m) (hl:a.length<=1048576) (ha:dW a):fM Tryz.prog 144 [fN 1 (λn=>[I n]) a,I m] (fN 1 (λn=>[I n]) (iE a m)):=aG0 (bLN a m hm hl ha)
theorem aQZ (a b:List Int) (hab:b.length=a.length) (hl:a.length<=1048576) (ha:dW a) (hb:dW b):fM Tryz.prog 42 [fN 1 (λn=>[I n]) a,fN 1 (λn=>[I n]) b] (fN 1 (λn=>[I n]) (iK a b)):=aG0 (added a b hab hl (vP ha) (vP hb))
theorem bF3 (a b:List Int) (hab:b.length=a.length) (hl:a.length<=1048576) (ha:dW a) (hb:dW b):uT Tryz.prog 143 [fN 1 (λn=>[I n]) a,fN 1 (λn=>[I n]) b] (QS (OS (oP I) 1 (aJ3 a b))):=by
 refine aBC 9 aE0 dC cK Tryz.func143 λh=>?_
 simp -dsimp -implicitDefEqProofs only[go_sem,↓reduceIte,Tryz.f143]
 first|refine aJ.mk (scaled b 1000002 pK aA hb) ?_|refine aF.mk (scaled b 1000002 pK aA hb) ?_|refine aJ.bA (scaled b 1000002 pK aA hb) ?_|refine aF.mk (aX.cU (scaled b 1000002 pK aA hb)) ?_
 simp -dsimp -implicitDefEqProofs only[go_sem,↓reduceIte,Tryz.f143]
 refine aJ.wn0 (added a (iE b 1000002) aY9 hl (vP ha) (vP (eO _ ⟨rfl,hb⟩).2)) ?_
 rintro r l g ⟨y,oy,rfl,rfl⟩ wn
 simp -dsimp -implicitDefEqProofs only[go_sem,↓reduceIte,Tryz.f143,oy.flat,oy.one]
 exact⟨_,g,_,bQ _ _,⟨y,oy,rfl,rfl⟩,wn⟩
theorem reduced (a b:List Int) (hab:b.length=a.length) (hl:a.length<=1048576) (ha:dW a) (hb:dW b):fM Tryz.prog 143 [fN 1 (λn=>[I n]) a,fN 1 (λn=>[I n]) b] (fN 1 (λn=>[I n]) (aJ3 a b)):=aG0 (bF3 a b hab hl ha hb)
theorem minus (a b:Int):fM Tryz.prog 180 [I a,I b] (I ((a-b)%1000003)):=by
 refine gX 10 aE0 dC cK Tryz.func180 λh=>?_
 simp -dsimp -implicitDefEqProofs only[go_sem,↓reduceIte,Tryz.f180]
 first|refine aJ.mk (j6 b) ?_|refine aF.mk (j6 b) ?_|refine aJ.bA (j6 b) ?_|refine aF.mk (aX.cU (j6 b)) ?_
 simp -dsimp -implicitDefEqProofs only[go_sem,↓reduceIte,Tryz.f180]
 rw[IntWalk.i64_in _ aA]
 first|refine aJ.mk (aWB a (1000003-b%1000003)) ?_|refine aF.mk (aWB a (1000003-b%1000003)) ?_|refine aJ.bA (aWB a (1000003-b%1000003)) ?_|refine aF.mk (aX.cU (aWB a (1000003-b%1000003))) ?_
 simp -dsimp -implicitDefEqProofs only[go_sem,↓reduceIte,Tryz.f180]
 omega
@[go_sem] def a38:List Nat:=[0,1,4,5,6,7,12,13,14,18]
@[go_sem] def bTS:Marks:=λid=>match id with|8=>([5,20],(.op 0 (.op 1 (.op 2 (.op 3 (.op 4 (.op 6 (.op 7 (.op 8 (.op 9 (.op 10 (.op 11 (.op 12 (.op 13 (.op 14 (.op 15 (.op 16 (.op 5 (.op 17 (.op 18 (.op 19 (.op 20 .nil))))))))))))))))))))),[])|_=>([],.nil,[])
theorem a0P (a b:List Int) (hab:b.length=a.length) (hl:a.length<=1048576) (ha:dW a) (hb:dW b):uT Tryz.prog 43 [fN 1 (λn=>[I n]) a,fN 1 (λn=>[I n]) b] (QS (OS (oP I) 1 (mulL a b))):=by
 refine aBC 43 a38 dC bTS Tryz.func43 λh=>?_
 simp -dsimp -implicitDefEqProofs only[go_sem,↓reduceIte,Tryz.f43]
 intro _
 refine⟨bN,iH _,by omega,by omega,λn hn _=>?_⟩
 have hc:=aJ5 a b
 rw[zQ]
 refine aHO a38 dC bTS (λk:Nat=>[(0,fN 1 (λn=>[I n]) a),(1,fN 1 (λn=>[I n]) b),(5,.os n 1 0 a.length),(12,I a.length),(13,I k)]) n (λk=>.row 1 (((upL (mulL a b) k).map λn=>[I n]).map (List.map .v))) (λk=>k<=a.length) (λk=>a.length-k) 0 ⟨by simp[c4,b7],by rw[aM,aEY,hc],fE _⟩ ?_
 intro k hk
 rcases bZ k a.length with hlt|hge
 ·simp -dsimp -implicitDefEqProofs only[go_sem,↓reduceIte,Tryz.f43,aO,hlt]
  refine aHO a38 dC bTS (λi:Nat=>[(0,fN 1 (λn=>[I n]) a),(1,fN 1 (λn=>[I n]) b),(5,.os n 1 0 a.length),(6,I k),(7,I i),(12,I a.length),(13,I k)]) n (λi=>.row 1 ((((upL (mulL a b) k).set k (cvS a b k i)).map λn=>[I n]).map (List.map .v))) (λi=>i<=k+1) (λi=>k+1-i) 0 ⟨by simp[c4,b7],by rw[aM,cvS,bF2 aA],fE _⟩ ?_
  intro i hi
  have el:((upL (mulL a b) k).set k (cvS a b k i)).length=a.length:=by rw[aU6,aJV _ aA,hc]
  have eu:((upL (mulL a b) k).set k (cvS a b k i))[k]?=some (cvS a b k i):=by rw[aLH (by rw[aU6]at el;omega)]
  rcases bZ i (k+1)with mA|aQI
  ·have ea:=cI (l:=a) (i:=i) aA
   have eb:=cI (l:=b) (i:=k-i) aA
   have ew:IntKind.i64.wrap ((k:Int)-(i:Int))=((k-i:Nat):Int):=by rw[IntWalk.i64_in _ aA];omega
   simp -dsimp -implicitDefEqProofs only[go_sem,↓reduceIte,Tryz.f43,aO,hlt,ea,eb,eu,el,hc,ew]
   refine⟨λ_=>⟨by omega,by omega,i+1,by rw[IntWalk.i64_in _ aA];rfl,?_,by omega,by omega⟩,λq=>absurd aA q⟩
   have h1:=num_mul (ha.get i) (hb.get (k-i))
   have h2:=bFU a b k i
   unfold oU at h2
   rw[IntWalk.i64_in (a.getD i 0*b.getD (k-i) 0) aA,a0N aA aA,show(upL (mulL a b) k).set k (cvS a b k (i+1))=((upL (mulL a b) k).set k (cvS a b k i)).set k ((cvS a b k i+a.getD i 0*b.getD (k-i) 0)%1000003)by rw[List.set_set,cvS],←yK I]
   exact aE.le_refl _
  ·have hi':i=k+1:=by omega
   subst hi'
   simp -dsimp -implicitDefEqProofs only[go_sem,↓reduceIte,Tryz.f43,aO,hlt]
   refine⟨λq=>absurd q aA,λ_=>⟨k+1,by rw[IntWalk.i64_in _ aA];rfl,?_,by omega,by omega⟩⟩
   have hv:(mulL a b)[k]'aA=cvS a b k (k+1):=by simp[mulL]
   rw[←hv,aFW aA]
   exact aE.le_refl _
 ·have hk':k=a.length:=by omega
  subst hk'
  simp -dsimp -implicitDefEqProofs only[go_sem,↓reduceIte,Tryz.f43,aO,bX]
  have hu:upL (mulL a b) a.length=mulL a b:=by rw[←hc];exact aJU _
  rw[hu,show a.length=(mulL a b).length from hc.symm]
  exact zP hn
theorem product (a b:List Int) (hab:b.length=a.length) (hl:a.length<=1048576) (ha:dW a) (hb:dW b):fM Tryz.prog 43 [fN 1 (λn=>[I n]) a,fN 1 (λn=>[I n]) b] (fN 1 (λn=>[I n]) (mulL a b)):=aG0 (a0P a b hab hl ha hb)
@[go_sem] def a8E:List Nat:=[0,1,4,5,6,8,12,17]
theorem Power (a n:Int) (hn:0<=n) (hn2:n<=4294967296):fM Tryz.prog 148 [I a,I n] (I (pwN (a%1000003) n.toNat)):=by
 refine gX 27 a8E dC cK Tryz.func148 λh=>?_
 simp -dsimp -implicitDefEqProofs only[go_sem,↓reduceIte,Tryz.f148]
 refine⟨λq=>absurd q aA,λ_=>?_⟩
 first|refine aJ.mk (j6 a) ?_|refine aF.mk (j6 a) ?_|refine aJ.bA (j6 a) ?_|refine aF.mk (aX.cU (j6 a)) ?_
 simp -dsimp -implicitDefEqProofs only[go_sem,↓reduceIte,Tryz.f148]
 generalize hT:pwN (a%1000003) n.toNat=T
 refine aEZ a8E dC cK (λx:Int×Int×Int=>[(1,I x.2.2),(5,I x.1),(6,I x.2.1)]) (λx=>(0<=x.1/\x.1<1000003)/\(0<=x.2.1/\x.2.1<1000003)/\(0<=x.2.2/\x.2.2<=4294967296)/\x.1*x.2.1 ^ x.2.2.toNat%1000003=T) (λx=>x.2.2.toNat) (1,a%1000003,n) ⟨by simp[c4,b7],⟨by simp,by simp⟩,a0M _,⟨hn,hn2⟩,by rw[aYW];exact hT⟩ ?_
 rintro⟨x,b,m⟩ ⟨hx,hb,hm,hp⟩
 simp only at hx hb hm hp ⊢
 simp -dsimp -implicitDefEqProofs only[go_sem,↓reduceIte,Tryz.f148]
 have h1:=num_mul (x:=x) (y:=b) pK pK
 have h2:=num_mul (x:=b) (y:=b) pK pK
 rw[zH hm.1,a57 hm.1,IntWalk.i64_in (m / 2) aA,a0N h1.1 aA,a0N h2.1 aA]
 refine⟨λhg=>⟨λho=>⟨(x*b%1000003,b*b%1000003,m / 2),⟨rfl,rfl,rfl⟩,⟨a0M _,a0M _,(show 0<=m / 2/\m / 2<=4294967296 by omega),bF1 hm.1 ho hp⟩,by simp only;omega⟩,λho=>⟨(x,b*b%1000003,m / 2),⟨rfl,rfl,rfl⟩,⟨hx,a0M _,(show 0<=m / 2/\m / 2<=4294967296 by omega),a8C hm.1 ho hp⟩,by simp only;omega⟩⟩,λhg=>?_⟩
 have:m.toNat=0:=by omega
 rw[this,a8B x b hx]at hp
 exact hp
theorem sQ (a:Int):fM Tryz.prog 106 [I a] (I (nV a)):=by
 refine gX 5 aD2 dC cK Tryz.func106 λh=>?_
 simp -dsimp -implicitDefEqProofs only[go_sem,↓reduceIte,Tryz.f106]
 first|refine aJ.mk (Power a 1000001 cE cE) ?_|refine aF.mk (Power a 1000001 cE cE) ?_|refine aJ.bA (Power a 1000001 cE cE) ?_|refine aF.mk (aX.cU (Power a 1000001 cE cE)) ?_
 simp -dsimp -implicitDefEqProofs only[go_sem,↓reduceIte,Tryz.f106]
 rfl
@[go_sem] def aWC:List Nat:=[0,1,4,5,6,7,8,9,18,19,20,28]
@[go_sem] def bF4:Marks:=λid=>match id with|1=>([2],(.op 0 (.op 1 (.op 3 (.op 4 (.op 5 (.op 6 (.op 2 (.op 7 (.op 8 .nil))))))))),[])|9=>([4],(.op 0 (.op 1 (.op 2 (.op 3 (.op 5 (.op 6 (.op 7 (.op 8 (.op 9 (.op 10 (.op 4 (.op 11 (.op 12 (.op 13 .nil)))))))))))))),[])|_=>([],.nil,[])
theorem bBN (a b:List Int) (hab:b.length=a.length) (hl:a.length<=1048576) (h0:0<a.length) (ha:dW a) (hb:dW b):uT Tryz.prog 145 [fN 1 (λn=>[I n]) a,fN 1 (λn=>[I n]) b] (QS (OS (oP I) 1 (lV a b))):=by
 have e0:b[Int.toNat 0]?=some (b.getD 0 0):=cI (l:=b) (i:=0) aA
 refine aBC 53 aWC dC bF4 Tryz.func145 λh=>?_
 simp -dsimp -implicitDefEqProofs only[go_sem,↓reduceIte,Tryz.f145,e0]
 refine⟨by omega,?_⟩
 first|refine aJ.mk (sQ (b.getD 0 0)) ?_|refine aF.mk (sQ (b.getD 0 0)) ?_|refine aJ.bA (sQ (b.getD 0 0)) ?_|refine aF.mk (aX.cU (sQ (b.getD 0 0))) ?_
 simp -dsimp -implicitDefEqProofs only[go_sem,↓reduceIte,Tryz.f145]
 refine⟨bN,iH _,by omega,by omega,λn hn _=>?_⟩
 have hc:=uG a b
 rw[zQ]
 refine aHO aWC dC bF4 (λk:Nat=>[(0,fN 1 (λn=>[I n]) a),(1,fN 1 (λn=>[I n]) b),(5,.os n 1 0 a.length),(6,I (nV (b.getD 0 0))),(18,I a.length),(19,I k)]) n (λk=>.row 1 (((upL (lV a b) k).map λn=>[I n]).map (List.map .v))) (λk=>k<=a.length) (λk=>a.length-k) 0 ⟨by simp[c4,b7],by rw[aM,aEY,hc],fE _⟩ ?_
 intro k hk
 rcases bZ k a.length with hlt|hge
 ·have ek:=cI hlt
  simp -dsimp -implicitDefEqProofs only[go_sem,↓reduceIte,Tryz.f145,aO,hlt,ek]
  refine aEZ aWC dC bF4 (λi:Nat=>[(0,fN 1 (λn=>[I n]) a),(1,fN 1 (λn=>[I n]) b),(5,.os n 1 0 a.length),(6,I (nV (b.getD 0 0))),(7,I k),(8,I (dvS (lJ a b k) b k (a.getD k 0) i)),(9,I i),(18,I a.length),(19,I k)]) (λi=>i<=k) (λi=>k-i) 0 ⟨by simp[c4,b7,dvS],fE _⟩ ?_
  intro i hi
  have el:=aJV (lV a b) (k:=k) aA
  have eu:=aJW (c:=lV a b) (k:=k) aA
  rcases bZ i k with mA|aQI
  ·have ei:=aNA (a:=a) (b:=b) (i:=i) hk mA
   have eb:=cI (l:=b) (i:=k-i) aA
   have ew:IntKind.i64.wrap ((k:Int)-(i:Int))=((k-i:Nat):Int):=by rw[IntWalk.i64_in _ aA];omega
   simp -dsimp -implicitDefEqProofs only[go_sem,↓reduceIte,Tryz.f145,aO,mA,ei,eb,el,hc,ew]
   have h1:=num_mul ((yM a b k).get i) (hb.get (k-i))
   refine⟨by omega,by omega,?_⟩
   rw[IntWalk.i64_in _ aA]
   first|refine aJ.mk (minus (dvS (lJ a b k) b k (a.getD k 0) i) ((lJ a b k).getD i 0*b.getD (k-i) 0)) ?_|refine aF.mk (minus (dvS (lJ a b k) b k (a.getD k 0) i) ((lJ a b k).getD i 0*b.getD (k-i) 0)) ?_|refine aJ.bA (minus (dvS (lJ a b k) b k (a.getD k 0) i) ((lJ a b k).getD i 0*b.getD (k-i) 0)) ?_|refine aF.mk (aX.cU (minus (dvS (lJ a b k) b k (a.getD k 0) i) ((lJ a b k).getD i 0*b.getD (k-i) 0))) ?_
   simp -dsimp -implicitDefEqProofs only[go_sem,↓reduceIte,Tryz.f145,aO,mA,ei,eb,el,hc,ew]
   exact⟨i+1,⟨rfl,by rw[IntWalk.i64_in _ aA];rfl⟩,by omega,by omega⟩
  ·have hi':i=k:=by omega
   subst hi'
   simp -dsimp -implicitDefEqProofs only[go_sem,↓reduceIte,Tryz.f145,aO,bX,hlt,eu,el,hc]
   have h1:=num_mul (aCX (lJ a b i) b i (ha.get i) i) (num_inv (b.getD 0 0))
   refine⟨i+1,by rw[IntWalk.i64_in _ aA];rfl,?_,by omega,by omega⟩
   rw[a0N h1.1 aA,←aQU hlt,←aFW aA,←yK I]
   exact aE.le_refl _
 ·have hk':k=a.length:=by omega
  subst hk'
  simp -dsimp -implicitDefEqProofs only[go_sem,↓reduceIte,Tryz.f145,aO,bX]
  have hu:upL (lV a b) a.length=lV a b:=by rw[←hc];exact aJU _
  rw[hu,show a.length=(lV a b).length from hc.symm]
  exact zP hn
theorem quotient (a b:List Int) (hab:b.length=a.length) (hl:a.length<=1048576) (h0:0<a.length) (ha:dW a) (hb:dW b):fM Tryz.prog 145 [fN 1 (λn=>[I n]) a,fN 1 (λn=>[I n]) b] (fN 1 (λn=>[I n]) (lV a b)):=aG0 (bBN a b hab hl h0 ha hb)
theorem jZ {h h':aE} {n:Nat} (l:List Int) (h0:h n=none) (hl:(aR h n (.row 1 ((l.map λn=>[I n]).map (List.map .v)))).le h') {len:Nat} (e:len=l.length):Shift (.os n 1 0 len) h' (fN 1 (λn=>[I n]) l) h :=
 aBD (l.map λn=>[I n]) h0 hl len (by rw[nG];exact e)
theorem s8 (n:Int) (sz:Nat):(fQ n sz).length=sz:=by simp[fQ]
theorem aJ8 {sz:Nat} {x:List aH} (h:0<sz):(List.replicate sz x)[Int.toNat 0]?=some x:=by
 show(List.replicate sz x)[0]?=some x
 rw[aMO,if_pos h]
theorem aBF (n:Int) (sz:Nat):((List.replicate sz [aH.int .i64 0]).map (List.map Cell.v)).set 0 [Cell.v (I n)]=((fQ n sz).map λn=>[I n]).map (List.map .v):=by
 rw[zQ,fQ,yK I]
theorem oJ (h:aE) (nb:Nat) (c0 c2 c3:Cell) (n:Int) (sz:Nat) (hb:h nb=some (.row 4 [[c0,.v (I ((sz:Int)-1)),c2,c3]])) (ho:1<=sz/\sz<=1048576):jC Tryz.prog 204 [.op nb 4 0 0,I n] h λr h'=>r=fN 1 (λn=>[I n]) (fQ n sz)/\h'=h:=by
 have e1:IntKind.i64.wrap ((sz:Int)-1+1)=(sz:Int):=by rw[IntWalk.i64_in _ aA];omega
 have e2:=aJ8 (x:=[aH.int .i64 0]) ho.1
 refine lU 16 bQD dC cK Tryz.func204 ?_
 simp -dsimp -implicitDefEqProofs only[go_sem,↓reduceIte,Tryz.f204,hb,e1,nU,e2]
 refine⟨bN,by omega,by omega,by omega,λm hm=>⟨by omega,?_⟩⟩
 rw[aO,show Int.toNat 0=0 from rfl,aBF]
 exact⟨_,h,jZ _ hm (aE.le_refl _) (s8 n sz).symm,rfl,rfl⟩
def dV (p:aC) (sz st:Nat) (c:Int):bE:=.row 4 [[.v (fN 3 aU.c p.aD),.v (I ((sz:Int)-1)),.v (I st),.v (I c)]]
abbrev b6 (l:List (List Int)):aH:=fN 1 (λs=>[ints s]) l
def EvQ (h:aE) (nb:Nat) (p:aC) (sz st:Nat) (c:Int) (X:Out (List Int)):aH->aE->Prop:=λr h'=>∃ s t c',r=ints s/\h'=aR h nb (dV p sz t c')/\bV sz s/\st<=t/\t<=3000/\kW (r6 c X) s t c'
def b80 (h:aE) (nb:Nat) (p:aC) (sz st:Nat) (c:Int) (n:Nat) (X:Out (List (List Int))):aH->aE->Prop:=λr h'=>∃ l t c',r=b6 l/\h'=aR h nb (dV p sz t c')/\l.length=n/\(∀ s∈l,bV sz s)/\st<=t/\t<=3000/\kW (r6 c X) l t c'
@[go_sem] def rF:List Nat:=[0,1,2,4,6,7,8,13,20,34,35,41,48,59,74,102,106,107,126,138,159,168,177,186,197]
@[go_sem] def aBG:List Nat:=[4,90]
@[go_sem] def aBH:Marks:=λid=>match id with|17=>([6,13,15,16],(.op 0 (.op 1 (.op 2 (.op 3 (.op 4 (.op 5 (.op 7 (.op 8 (.op 9 (.op 10 (.op 11 (.op 12 (.op 6 (.op 13 (.op 14 (.op 15 (.op 16 (.op 17 .nil)))))))))))))))))),[])|23=>([5,16],(.op 0 (.op 1 (.op 2 (.op 3 (.op 4 (.op 6 (.op 7 (.op 11 (.op 12 (.op 15 (.op 5 (.op 8 (.op 9 (.op 10 (.op 13 (.op 14 (.op 16 (.op 17 .nil)))))))))))))))))),[])|28=>([5,12],(.op 0 (.op 1 (.op 2 (.op 3 (.op 4 (.op 6 (.op 7 (.op 11 (.op 5 (.op 8 (.op 9 (.op 10 (.op 12 (.op 13 .nil)))))))))))))),[])|31=>([6],(.op 0 (.op 1 (.op 2 (.op 3 (.op 4 (.op 5 (.op 6 (.op 7 .nil)))))))),[])|33=>([6],(.op 0 (.op 1 (.op 2 (.op 3 (.op 4 (.op 5 (.op 6 (.op 7 .nil)))))))),[])|35=>([6],(.op 0 (.op 1 (.op 2 (.op 3 (.op 4 (.op 5 (.op 6 (.op 7 .nil)))))))),[])|41=>([6],(.op 0 (.op 1 (.op 2 (.op 3 (.op 4 (.op 5 (.op 6 (.op 7 .nil)))))))),[])|_=>([],.nil,[])
def rG (p:aC) (sz n:Nat):Prop:=∀ (h:aE) (nb st:Nat) (c:Int) (e:aB) (env:List (List Int)) (funcs:Int),h nb=some (dV p sz st c)->st<=3000->3001<=n+st->e.ok p funcs env.length->0<=funcs->funcs<=p.aD.length->(∀ s∈env,bV sz s)->env.length<=412+st ->
 jC Tryz.prog 179 [.op nb 4 0 0,.agg e.c,b6 env] h (EvQ h nb p sz st c (iM p sz n st e env))
theorem aCY {p:aC} {sz n:Nat} (hv:rG p sz n) (h:aE) (nb st:Nat) (c:Int) (l:List aB) (env:List (List Int)) (funcs:Int) (hb:h nb=some (dV p sz st c)) (hst:st<=3000) (hn:3001<=n+st)
  (hl:l.length<=1048576) (hok:∀ e∈l,e.ok p funcs env.length) (iC:0<=funcs) (hf:funcs<=p.aD.length) (henv:∀ s∈env,bV sz s) (hel:env.length<=412+st) :
  jC Tryz.prog 136 [.op nb 4 0 0,fN 5 aB.c l,b6 env] h (b80 h nb p sz st c l.length (jY (λt e=>iM p sz n t e env) l st)):=by
 refine lU 26 a7S a7T cK Tryz.func136 ?_
 simp -dsimp -implicitDefEqProofs only[go_sem,↓reduceIte,Tryz.f136]
 refine⟨bN,λ_=>?_⟩
 refine cZ a7S a7T cK (λx:Nat×List (List Int)×Nat×Int×Option Nat=>[(0,.op nb 4 0 0),(2,b6 env),(7,iO 1 x.2.1.length x.2.2.2.2),(11,fN 5 aB.c l),(12,I l.length),(13,I x.1)]) (λx=>bY (aR h nb (dV p sz x.2.2.1 x.2.2.2.1)) (.row 1 ((x.2.1.map λs=>[ints s]).map (List.map .v))) x.2.2.2.2) (λx=>x.1<=l.length/\x.2.1.length=x.1/\(∀ s∈x.2.1,bV sz s)/\st<=x.2.2.1/\x.2.2.1<=3000/\kW (r6 c (jY (λt e=>iM p sz n t e env) (l.take x.1) st)) x.2.1 x.2.2.1 x.2.2.2.1/\fT h x.2.1 x.2.2.2.2) (λx=>l.length-x.1) (0,[],st,c,none) ⟨by simp[c4,b7,iO],by simp only[aQ];rw[vX hb];exact aE.le_refl _,fE _,rfl,by simp,iH _,hst,jK _ _ _,rfl⟩ ?_
 rintro⟨k,vs,t,c',o⟩ ⟨hk,hvl,hvs,ht0,ht,ho,hos⟩
 simp only at hk hvl hvs ht0 ht ho hos ⊢
 rcases bZ k l.length with hlt|hge
 ·have ek:l[k]?=some l[k]:=cM hlt
  have hnext:∀ (s:List Int) (t2:Nat) (c2:Int),kW (r6 c' (iM p sz n t l[k] env)) s t2 c2->kW (r6 c (jY (λt e=>iM p sz n t e env) (l.take (k+1)) st)) (vs++[s]) t2 c2:=λs t2 c2 h3=>by
   rw[jU hlt,aBE]
   exact ho.eN (h3.eN (jK _ _ _))
  have hall:∀ s,bV sz s->∀ x∈vs++[s],bV sz x:=λs hs x hx=>by
   rcases pJ.1 hx with hx|hx
   ·exact hvs x hx
   ·rw[jF.1 hx];exact hs
  cases o with
  |none =>
   rw[aZ]at hos
   subst hos
   simp -dsimp -implicitDefEqProofs only[go_sem,↓reduceIte,Tryz.f136,bM,aQ,hlt,ek,aB.aS]
   intro m9 bBP
   obtain⟨bLO,aNZ,aN0,aWD⟩:=bB (show ¬m9=nb from pjx bBP)
   have b81:h m9=none:=pjx bBP
   rw[aO]
   have hvk:=hv (aR (aR h nb (dV p sz t c')) m9 (.row 5 [l[k].c.map .v])) nb t c' l[k] env funcs (by rw[aI _ _ _ _ aWD,aM]) ht aA (hok _ (eI _)) iC hf henv aA
   rw[aB.aS]at hvk
   refine aJ.gS hvk ?_
   rintro r h' ⟨s,t2,c2,rfl,rfl,hs,h1,h2,h3⟩
   simp -dsimp -implicitDefEqProofs only[go_sem,↓reduceIte,Tryz.f136]
   refine⟨bN,bN,bN,?_⟩
   intro b q_b
   obtain⟨mY,dP,dO,kY⟩:=bB (show ¬b=nb from pjx q_b)
   obtain⟨bF5,aQ0,aQ1,bF6⟩:=bB (show ¬b=m9 from pjx q_b)
   have z_b:h b=none:=pjx q_b
   refine⟨(k+1,[s],t2,c2,some b),⟨rfl,by rw[IntWalk.i64_in _ aA];rfl⟩,(o6 (by repeat'(first|exact tY _ _|refine xD (by simp only[iS,↓reduceIte,eq_self,if_true,aN0,dO,aNZ,aQ1,dP,aQ0,nZ,sX]) ?_|refine qY aI2 ?_))),⟨by omega,by simp only[al3]at hvl;subst hvl;rfl,λx hx=>hall s hs x hx,aLG ht0 h1,h2,hnext s t2 c2 h3,z_b⟩,by simp only;omega⟩
  |some m =>
   rw[aV]at hos
   obtain⟨mB,cY,cX,kM⟩:=bB (show ¬m=nb from λe=>by rw[e,hb]at hos;cases hos)
   simp -dsimp -implicitDefEqProofs only[go_sem,↓reduceIte,Tryz.f136,bC,aK,hlt,ek,aB.aS]
   intro m9 bBP
   obtain⟨a4A,aQ2,aQ3,bTT⟩:=bB (show ¬m9=m from pjx bBP)
   obtain⟨bLO,aNZ,aN0,aWD⟩:=bB (show ¬m9=nb from pjx bBP)
   have b81:h m9=none:=pjx bBP
   rw[aO]
   have hvk:=hv (aR (aR (aR h nb (dV p sz t c')) m (.row 1 ((vs.map λs=>[ints s]).map (List.map .v)))) m9 (.row 5 [l[k].c.map .v])) nb t c' l[k] env funcs (by rw[aI _ _ _ _ aWD,aI _ _ _ _ kM,aM]) ht aA (hok _ (eI _)) iC hf henv aA
   rw[aB.aS]at hvk
   refine aJ.gS hvk ?_
   rintro r h' ⟨s,t2,c2,rfl,rfl,hs,h1,h2,h3⟩
   simp -dsimp -implicitDefEqProofs only[go_sem,↓reduceIte,Tryz.f136,aI,cY,aQ3,cX,aN0,aQ2,aNZ]
   refine⟨bN,bN,bN,iH _,by omega,by omega,?_⟩
   intro b q_b
   obtain⟨mY,dP,dO,kY⟩:=bB (show ¬b=nb from pjx q_b)
   obtain⟨bF5,aQ0,aQ1,bF6⟩:=bB (show ¬b=m9 from pjx q_b)
   obtain⟨sG,fI,fJ,rT⟩:=bB (show ¬b=m from pjx q_b)
   have z_b:h b=none:=pjx q_b
   refine⟨(k+1,vs++[s],t2,c2,some b),⟨by rw[bC,mV];rfl,by rw[IntWalk.i64_in _ aA];rfl⟩,?_,⟨by omega,by rw[mV,hvl];rfl,hall s hs,aLG ht0 h1,h2,hnext s t2 c2 h3,z_b⟩,by simp only;omega⟩
   simp only[aK]
   rw[←jD ints]
   exact(o6 (by repeat'(first|exact tY _ _|refine xD (by simp only[iS,↓reduceIte,eq_self,if_true,aN0,dO,cX,aNZ,aQ1,aQ2,dP,aQ0,fI,cY,aQ3,fJ]) ?_|refine qY aI2 ?_)))
 ·have hk':k=l.length:=by omega
  subst hk'
  rw[mR]at ho
  cases o with
  |none =>
   rw[aZ]at hos
   subst hos
   simp -dsimp -implicitDefEqProofs only[go_sem,↓reduceIte,Tryz.f136,bM,aQ,bX]
   exact⟨b6 [],_,Shift.of (Sub.loose _ _ _) (aE.le_refl _),[],t,c',rfl,rfl,hvl,hvs,ht0,ht,ho⟩
  |some m =>
   rw[aV]at hos
   simp -dsimp -implicitDefEqProofs only[go_sem,↓reduceIte,Tryz.f136,bC,aK,bX]
   have hmn:¬m=nb:=λe=>by rw[e,hb]at hos;cases hos
   exact⟨b6 vs,_,aBD (vs.map λs=>[ints s]) (h:=aR h nb (dV p sz t c')) (by rw[aI _ _ _ _ hmn,hos]) (aE.le_refl _) _ aTF,vs,t,c',rfl,rfl,hvl,hvs,ht0,ht,ho⟩
theorem bTU (m:Nat) (es:List (List aH)) (x:aB):lX m es x.c=x.c:=by rw[aB.aS];rfl
theorem bF7 (m sz k:Nat) (x:aB):jG m sz k x.c=true:=by rw[aB.aS];rfl
theorem aJP.a3C {P:Program} {N:Nat} {c:Code} {Q:Exit->bJ->aE->Prop} {τ:bJ} {h:aE} {t:Tag (c,Q)} (n:Nat) {es:List (List aH)} (hh:h n=none) (hb:τ.all (λp=>gA n 1 es.length p.2)=true)
  (x:aJP P N c Q (τ.map λp=>(p.1,p.2.eM n es)) (aR h n .gone) ()):aJP P N c Q τ (aR h n (.row 1 (es.map (List.map .v)))) t:=by
 have y:=tH.vB (c:=c) (Q:=Q) (τ:=τ) (N:=N) (P:=P) (h:=aR h n (.row 1 (es.map (List.map .v)))) n (sz:=1) (es:=es.map (List.map .v)) (aM _ _ _) (by simpa using hb)
 rw[aO,kJ]at y
 exact y x
theorem aJ.bF8 {P:Program} {f:FuncId} {h:aE} {K:aH->aE->Prop} {t:Tag K} {nb m k len:Nat} {x:aH} {es:List (List aH)} (hx:x.eM m es=x) (hx2:gA m 1 es.length x=true) (hne:¬nb=m) (hl:len=es.length) (hm:h m=none) (a:jC P f [.op nb k 0 0,x,.sl 1 es false] (aR h m .gone) K) :
  aJ P f [.op nb k 0 0,x,.os m 1 0 len] (aR h m (.row 1 (es.map (List.map .v)))) K t:=by
 subst hl
 refine aJ.a3C m (aM _ _ _) (by simp[jG,gA,hx2,hne]) ?_
 rw[aO,kJ]
 have h1:lX m es [.op nb k 0 0,x,.os m 1 0 es.length]=[.op nb k 0 0,x,.sl 1 es false]:=by
  simp only[lX,aH.eM,hx,if_neg hne,if_true,aG8,mR]
 rw[h1]
 exact a
theorem aJ.a8F {P:Program} {f:FuncId} {h:aE} {K:aH->aE->Prop} {t:Tag K} {nb m k len:Nat} {e:aB} {es:List (List aH)} (hne:¬nb=m) (hl:len=es.length) (hm:h m=none) (a:jC P f [.op nb k 0 0,.agg e.c,.sl 1 es false] (aR h m .gone) K) :
  aJ P f [.op nb k 0 0,.agg e.c,.os m 1 0 len] (aR h m (.row 1 (es.map (List.map .v)))) K t:=by
 subst hl
 refine aJ.a3C m (aM _ _ _) (by simp[jG,gA,bF7,hne]) ?_
 rw[aO,kJ]
 have h1:lX m es [.op nb k 0 0,.agg e.c,.os m 1 0 es.length]=[.op nb k 0 0,.agg e.c,.sl 1 es false]:=by
  simp only[lX,aH.eM,bTU,if_neg hne,if_true,aG8,mR]
 rw[h1]
 exact a
theorem yN {sz:Nat} {env:List (List Int)} {s:List Int} (he:∀ x∈env,bV sz x) (hs:bV sz s):∀ x∈env++[s],bV sz x:=λx hx=>by
 rcases pJ.1 hx with hx|hx
 ·exact he x hx
 ·rw[jF.1 hx];exact hs
theorem aWE (l:List (List Int)) (hl:l.length<=1048576):fM Tryz.prog 205 [b6 l] (.sl 1 (l.map λs=>[ints s]) true):=by
 refine gX 9 aD2 dC cK Tryz.func205 λh=>?_
 simp -dsimp -implicitDefEqProofs only[go_sem,↓reduceIte,Tryz.f205]
 repeat'(with_reducible first|intro _|refine And.intro ?_ ?_)
 all_goals try omega
 rw[pQ aOY]
theorem mZ:oU 0:=by unfold oU;simp
theorem a4B {p:aC} {sz n:Nat} (c6:1<=sz/\sz<=1048576) (h:aE) (nb st:Nat) (c:Int) (e:aB) (env:List (List Int)) (hb:h nb=some (dV p sz st c)) (hst:st<=3000) (hs:¬c=0∨st=3000) :
  jC Tryz.prog 179 [.op nb 4 0 0,.agg e.c,b6 env] h (EvQ h nb p sz st c (iM p sz (n+1) st e env)):=by
 rw[aB.aS]
 have hb':=hb
 unfold dV at hb'
 refine lU 210 rF aBG aBH Tryz.func179 ?_
 simp -dsimp -implicitDefEqProofs only[go_sem,↓reduceIte,Tryz.f179,hb']
 refine⟨λhc=>?_,λhc=>?_⟩
 ·refine aJ.gS (oJ _ nb _ _ _ 0 sz hb' c6) ?_
  rintro r h' ⟨rfl,rfl⟩
  simp -dsimp -implicitDefEqProofs only[go_sem,↓reduceIte,Tryz.f179]
  have hc':¬c=0:=by simpa using hc
  exact⟨_,_,bQ _ _,_,st,c,rfl,(vX hb).symm,fP mZ,iH _,hst,by rw[vO _ hc'];exact mW _ _ hc'⟩
 ·have hc0:c=0:=by simpa using hc
  subst hc0
  have h3:st=3000:=by rcases hs with hs|hs;exact absurd rfl hs;exact hs
  subst h3
  try simp -dsimp -implicitDefEqProofs only[go_sem,↓reduceIte,Tryz.f179,hb']
  refine⟨λ_=>?_,λq=>absurd q cT⟩
  refine aJ.gS (oJ _ nb _ _ _ 0 sz (aM _ _ _) c6) ?_
  rintro r h' ⟨rfl,rfl⟩
  simp -dsimp -implicitDefEqProofs only[go_sem,↓reduceIte,Tryz.f179]
  refine⟨_,_,bQ _ _,_,3000,7,rfl,rfl,fP mZ,iH _,hst,?_⟩
  rw[dF,iM,if_pos rfl]
  exact mW _ _ cE
theorem bLP {p:aC} (hp:p.ok) {sz n:Nat} (c6:1<=sz/\sz<=1048576) (hv:rG p sz n) (h:aE) (nb st:Nat) (e:aB) (env:List (List Int)) (funcs:Int) (hb:h nb=some (dV p sz st 0)) (hst:st<3000) (hn:3001<=n+1+st)
  (hok:e.ok p funcs env.length) (iC:0<=funcs) (hf:funcs<=p.aD.length) (henv:∀ s∈env,bV sz s) (hel:env.length<=412+st) (hk:e.aP=1) :
  jC Tryz.prog 179 [.op nb 4 0 0,.agg e.c,b6 env] h (EvQ h nb p sz st 0 (iM p sz (n+1) st e env)):=by
 rw[aB.aS]
 have hb':=hb
 unfold dV at hb'
 have e3:((st:Int)=3000)=False:=eq_false aA
 have ew:IntKind.i64.wrap ((st:Int)+1)=((st+1:Nat):Int):=by rw[IntWalk.i64_in _ aA];rfl
 have hnode:=(aB.cN _ _ _ _).1 hok
 have h3:¬st=3000:=by omega
 have hnum:oU e.aW:=((dA aA).1 hnode.1).2.2.2.1 hk
 refine lU 210 rF aBG aBH Tryz.func179 ?_
 simp -dsimp -implicitDefEqProofs only[go_sem,↓reduceIte,Tryz.f179,hb',e3,ew,hk]
 refine aJ.gS (oJ _ nb _ _ _ e.aW sz (aM _ _ _) c6) ?_
 rintro r h' ⟨rfl,rfl⟩
 simp -dsimp -implicitDefEqProofs only[go_sem,↓reduceIte,Tryz.f179]
 refine⟨_,_,bQ _ _,_,st+1,0,rfl,rfl,fP hnum,r7 _,hst,?_⟩
 rw[dF,aQV h3 hk]
 exact nN _ _
theorem bLQ {p:aC} (hp:p.ok) {sz n:Nat} (c6:1<=sz/\sz<=1048576) (hv:rG p sz n) (h:aE) (nb st:Nat) (e:aB) (env:List (List Int)) (funcs:Int) (hb:h nb=some (dV p sz st 0)) (hst:st<3000) (hn:3001<=n+1+st)
  (hok:e.ok p funcs env.length) (iC:0<=funcs) (hf:funcs<=p.aD.length) (henv:∀ s∈env,bV sz s) (hel:env.length<=412+st) (hk:e.aP=2) :
  jC Tryz.prog 179 [.op nb 4 0 0,.agg e.c,b6 env] h (EvQ h nb p sz st 0 (iM p sz (n+1) st e env)):=by
 rw[aB.aS]
 have hb':=hb
 unfold dV at hb'
 have e3:((st:Int)=3000)=False:=eq_false aA
 have ew:IntKind.i64.wrap ((st:Int)+1)=((st+1:Nat):Int):=by rw[IntWalk.i64_in _ aA];rfl
 have hnode:=(aB.cN _ _ _ _).1 hok
 have h3:¬st=3000:=by omega
 have hnum:=((dA aA).1 hnode.1).2.2.2.2.1 hk
 have hlt:e.aW.toNat<env.length:=by omega
 refine lU 210 rF aBG aBH Tryz.func179 ?_
 simp -dsimp -implicitDefEqProofs only[go_sem,↓reduceIte,Tryz.f179,hb',e3,ew,hk,lM hlt]
 refine⟨hnum.1,by omega,_,_,bQ _ _,_,st+1,0,rfl,rfl,kI henv hlt,r7 _,hst,?_⟩
 rw[dF,aQW h3 hk]
 exact nN _ _
theorem bLR {p:aC} (hp:p.ok) {sz n:Nat} (c6:1<=sz/\sz<=1048576) (hv:rG p sz n) (h:aE) (nb st:Nat) (e:aB) (env:List (List Int)) (funcs:Int) (hb:h nb=some (dV p sz st 0)) (hst:st<3000) (hn:3001<=n+1+st)
  (hok:e.ok p funcs env.length) (iC:0<=funcs) (hf:funcs<=p.aD.length) (henv:∀ s∈env,bV sz s) (hel:env.length<=412+st) (hk:e.aP=8) :
  jC Tryz.prog 179 [.op nb 4 0 0,.agg e.c,b6 env] h (EvQ h nb p sz st 0 (iM p sz (n+1) st e env)):=by
 rw[aB.aS]
 have hb':=hb
 unfold dV at hb'
 have e3:((st:Int)=3000)=False:=eq_false aA
 have ew:IntKind.i64.wrap ((st:Int)+1)=((st+1:Nat):Int):=by rw[IntWalk.i64_in _ aA];rfl
 have hnode:=(aB.cN _ _ _ _).1 hok
 have h3:¬st=3000:=by omega
 have hlen:=cQ hok aA
 rw[hk,show dD 8=3 from rfl]at hlen
 have g0:e.aL[Int.toNat 0]?=some (e.fZ 0):=aB.fV aA
 have g1:e.aL[Int.toNat 1]?=some (e.fZ 1):=aB.fV aA
 have g2:e.aL[Int.toNat 2]?=some (e.fZ 2):=aB.fV aA
 have o0:=aB.dX hok (i:=0) aA
 have o1:=aB.dX hok (i:=1) aA
 have o2:=aB.dX hok (i:=2) aA
 rw[gQ aA]at o0 o1 o2
 refine lU 210 rF aBG aBH Tryz.func179 ?_
 simp -dsimp -implicitDefEqProofs only[go_sem,↓reduceIte,Tryz.f179,hb',e3,ew,hk,g0,aB.ld5]
 refine⟨by omega,?_⟩
 refine aJ.gS (hv (aR h nb (dV p sz (st+1) 0)) nb (st+1) 0 (e.fZ 0) env funcs (aM _ _ _) aA aA o0 iC hf henv aA) ?_
 rintro r h' ⟨s1,t1,c1,rfl,rfl,x8,a1,a2,a3⟩
 have gs:s1[Int.toNat 0]?=some (s1.getD 0 0):=cI tD
 simp -dsimp -implicitDefEqProofs only[go_sem,↓reduceIte,Tryz.f179,gs,g1,g2,aB.ld5]
 refine⟨by rw[x8.1];omega,λhz=>⟨by omega,?_⟩,λhz=>⟨by omega,?_⟩⟩
 ·rw[aO]
  refine aJ.gS (hv (aR h nb (dV p sz t1 c1)) nb t1 c1 (e.fZ 1) env funcs (aM _ _ _) aA aA o1 iC hf henv aA) ?_
  rintro r h' ⟨s2,t2,c2,rfl,rfl,xE,b1,b2,b3⟩
  simp -dsimp -implicitDefEqProofs only[go_sem,↓reduceIte,Tryz.f179]
  refine⟨_,_,bQ _ _,s2,t2,c2,rfl,by rw[aO],xE,by omega,b2,?_⟩
  rw[aJ6 h3 hk]
  refine a3.eN ?_
  rw[if_pos hz]
  exact b3
 ·rw[aO]
  refine aJ.gS (hv (aR h nb (dV p sz t1 c1)) nb t1 c1 (e.fZ 2) env funcs (aM _ _ _) aA aA o2 iC hf henv aA) ?_
  rintro r h' ⟨s2,t2,c2,rfl,rfl,xE,b1,b2,b3⟩
  simp -dsimp -implicitDefEqProofs only[go_sem,↓reduceIte,Tryz.f179]
  refine⟨_,_,bQ _ _,s2,t2,c2,rfl,by rw[aO],xE,by omega,b2,?_⟩
  rw[aJ6 h3 hk]
  refine a3.eN ?_
  rw[if_neg hz]
  exact b3
theorem bLS {p:aC} (hp:p.ok) {sz n:Nat} (c6:1<=sz/\sz<=1048576) (hv:rG p sz n) (h:aE) (nb st:Nat) (e:aB) (env:List (List Int)) (funcs:Int) (hb:h nb=some (dV p sz st 0)) (hst:st<3000) (hn:3001<=n+1+st)
  (hok:e.ok p funcs env.length) (iC:0<=funcs) (hf:funcs<=p.aD.length) (henv:∀ s∈env,bV sz s) (hel:env.length<=412+st) (hk:e.aP=9) :
  jC Tryz.prog 179 [.op nb 4 0 0,.agg e.c,b6 env] h (EvQ h nb p sz st 0 (iM p sz (n+1) st e env)):=by
 rw[aB.aS]
 have hb':=hb
 unfold dV at hb'
 have e3:((st:Int)=3000)=False:=eq_false aA
 have ew:IntKind.i64.wrap ((st:Int)+1)=((st+1:Nat):Int):=by rw[IntWalk.i64_in _ aA];rfl
 have hnode:=(aB.cN _ _ _ _).1 hok
 have h3:¬st=3000:=by omega
 have hlen:=cQ hok aA
 rw[hk,show dD 9=2 from rfl]at hlen
 have g0:e.aL[Int.toNat 0]?=some (e.fZ 0):=aB.fV aA
 have g1:e.aL[Int.toNat 1]?=some (e.fZ 1):=aB.fV aA
 have o0:=aB.dX hok (i:=0) aA
 have o1:=aB.dX hok (i:=1) aA
 rw[gQ aA]at o0
 rw[hk,show jV 9 1 (env.length:Int)=env.length+1 from rfl]at o1
 refine lU 210 rF aBG aBH Tryz.func179 ?_
 simp -dsimp -implicitDefEqProofs only[go_sem,↓reduceIte,Tryz.f179,hb',e3,ew,hk,g0,g1,aB.ld5]
 refine⟨by omega,by omega,?_⟩
 first|refine aJ.mk (aWE env aA) ?_|refine aF.mk (aWE env aA) ?_|refine aJ.bA (aWE env aA) ?_|refine aF.mk (aX.cU (aWE env aA)) ?_
 simp -dsimp -implicitDefEqProofs only[go_sem,↓reduceIte,Tryz.f179]
 refine aJ.gS (hv (aR h nb (dV p sz (st+1) 0)) nb (st+1) 0 (e.fZ 0) env funcs (aM _ _ _) aA aA o0 iC hf henv aA) ?_
 rintro r h' ⟨s1,t1,c1,rfl,rfl,x8,a1,a2,a3⟩
 simp -dsimp -implicitDefEqProofs only[go_sem,↓reduceIte,Tryz.f179]
 refine⟨bN,bN,bN,by omega,by omega,?_⟩
 intro m q_m
 obtain⟨mB,cY,cX,kM⟩:=bB (show ¬m=nb from pjx q_m)
 have z_m:h m=none:=pjx q_m
 rw[aO]
 have hrow:env.map (λs=>[ints s])++[[aH.sl 1 (s1.map λn=>[I n]) false]]=(env++[s1]).map λs=>[ints s]:=by rw[kS];rfl
 rw[hrow]
 refine aJ.a8F kM (by rw[nG,mV];rfl) (by rw[aI _ _ _ _ mB];exact z_m) ?_
 refine jC.mono (hv (aR (aR h nb (dV p sz t1 c1)) m .gone) nb t1 c1 (e.fZ 1) (env++[s1]) funcs aY6 aA aA aDS iC hf (yN henv x8) bDS) ?_
 rintro r h' ⟨s2,t2,c2,rfl,rfl,xE,b1,b2,b3⟩
 simp -dsimp -implicitDefEqProofs only[go_sem,↓reduceIte,Tryz.f179]
 refine⟨_,aR h nb (dV p sz t2 c2),bG (o6 bO8),s2,t2,c2,rfl,rfl,xE,by omega,b2,?_⟩
 rw[aQX h3 hk]
 exact a3.eN b3
theorem bF9 {p:aC} (hp:p.ok) {sz n:Nat} (c6:1<=sz/\sz<=1048576) (hv:rG p sz n) (h:aE) (nb st:Nat) (e:aB) (env:List (List Int)) (funcs:Int) (hb:h nb=some (dV p sz st 0)) (hst:st<3000) (hn:3001<=n+1+st)
  (hok:e.ok p funcs env.length) (iC:0<=funcs) (hf:funcs<=p.aD.length) (henv:∀ s∈env,bV sz s) (hel:env.length<=412+st) (hk:e.aP=10) :
  jC Tryz.prog 179 [.op nb 4 0 0,.agg e.c,b6 env] h (EvQ h nb p sz st 0 (iM p sz (n+1) st e env)):=by
 rw[aB.aS]
 have hb':=hb
 unfold dV at hb'
 have e3:((st:Int)=3000)=False:=eq_false aA
 have ew:IntKind.i64.wrap ((st:Int)+1)=((st+1:Nat):Int):=by rw[IntWalk.i64_in _ aA];rfl
 have hnode:=(aB.cN _ _ _ _).1 hok
 have h3:¬st=3000:=by omega
 obtain⟨f,F⟩:=nD hp hok hf (.inl hk)
 have hkl:e.aL.length<=1048576:=by have:=F.kids;have:=F.params;omega
 refine lU 210 rF aBG aBH Tryz.func179 ?_
 simp -dsimp -implicitDefEqProofs only[go_sem,↓reduceIte,Tryz.f179,hb',e3,ew,hk]
 refine aJ.gS (aCY hv (aR h nb (dV p sz (st+1) 0)) nb (st+1) 0 e.aL env funcs (aM _ _ _) aA aA hkl (cO hok aA) iC hf henv aA) ?_
 rintro r h' ⟨vs,t1,c1,rfl,rfl,hvl,hvs,a1,a2,a3⟩
 simp -dsimp -implicitDefEqProofs only[go_sem,↓reduceIte,Tryz.f179,dV]
 refine⟨λhc=>?_,λhc=>?_⟩
 ·have hc':¬c1=0:=by simpa using hc
  refine aJ.gS (oJ _ nb _ _ _ 0 sz (aM _ _ _) c6) ?_
  rintro r h' ⟨rfl,rfl⟩
  simp -dsimp -implicitDefEqProofs only[go_sem,↓reduceIte,Tryz.f179]
  refine⟨_,aR h nb (dV p sz t1 c1),bG x7,_,t1,c1,rfl,rfl,fP mZ,by omega,a2,?_⟩
  rw[aE2 h3 hk]
  exact a3.eN aOX
 ·have hc':c1=0:=by simpa using hc
  subst hc'
  try simp -dsimp -implicitDefEqProofs only[go_sem,↓reduceIte,Tryz.f179,hk,F.get,F.out,aU.aS,aB.ld5,aO]
  have f1:=F.lo
  have f2:=F.hi
  have f3:=F.pk
  have f4:=F.pk2
  have f5:=F.kids
  have f6:=F.params
  refine⟨f1,f2,f3,by omega,?_⟩
  refine aJ.gS (hv (aR h nb (dV p sz t1 0)) nb t1 0 (p.out e.aW e.bR) vs e.aW (aM _ _ _) aA aA a6M f1 aA hvs aA) ?_
  rintro r h' ⟨s2,t2,c2,rfl,rfl,xE,b1,b2,b3⟩
  simp -dsimp -implicitDefEqProofs only[go_sem,↓reduceIte,Tryz.f179]
  refine⟨_,aR h nb (dV p sz t2 c2),bG x7,s2,t2,c2,rfl,rfl,xE,by omega,b2,?_⟩
  rw[aE2 h3 hk]
  exact a3.eN b3
theorem bLT {p:aC} (hp:p.ok) {sz n:Nat} (c6:1<=sz/\sz<=1048576) (hv:rG p sz n) (h:aE) (nb st:Nat) (e:aB) (env:List (List Int)) (funcs:Int) (hb:h nb=some (dV p sz st 0)) (hst:st<3000) (hn:3001<=n+1+st)
  (hok:e.ok p funcs env.length) (iC:0<=funcs) (hf:funcs<=p.aD.length) (henv:∀ s∈env,bV sz s) (hel:env.length<=412+st) (hk:e.aP=7) :
  jC Tryz.prog 179 [.op nb 4 0 0,.agg e.c,b6 env] h (EvQ h nb p sz st 0 (iM p sz (n+1) st e env)):=by
 rw[aB.aS]
 have hb':=hb
 unfold dV at hb'
 have e3:((st:Int)=3000)=False:=eq_false aA
 have ew:IntKind.i64.wrap ((st:Int)+1)=((st+1:Nat):Int):=by rw[IntWalk.i64_in _ aA];rfl
 have hnode:=(aB.cN _ _ _ _).1 hok
 have h3:¬st=3000:=by omega
 have hlen:=cQ hok aA
 rw[hk,show dD 7=1 from rfl]at hlen
 have hkl:e.aL.length<=1048576:=by omega
 refine lU 210 rF aBG aBH Tryz.func179 ?_
 simp -dsimp -implicitDefEqProofs only[go_sem,↓reduceIte,Tryz.f179,hb',e3,ew,hk]
 refine aJ.gS (aCY hv (aR h nb (dV p sz (st+1) 0)) nb (st+1) 0 e.aL env funcs (aM _ _ _) aA aA hkl (cO hok aA) iC hf henv aA) ?_
 rintro r h' ⟨vs,t1,c1,rfl,rfl,hvl,hvs,a1,a2,a3⟩
 have hv0:=kI hvs (i:=0) aA
 simp -dsimp -implicitDefEqProofs only[go_sem,↓reduceIte,Tryz.f179,dV]
 refine⟨λhc=>?_,λhc=>?_⟩
 ·have hc':¬c1=0:=by simpa using hc
  refine aJ.gS (oJ _ nb _ _ _ 0 sz (aM _ _ _) c6) ?_
  rintro r h' ⟨rfl,rfl⟩
  simp -dsimp -implicitDefEqProofs only[go_sem,↓reduceIte,Tryz.f179]
  refine⟨_,aR h nb (dV p sz t1 c1),bG x7,_,t1,c1,rfl,rfl,fP mZ,by omega,a2,?_⟩
  rw[pD h3 aA]
  exact a3.eN aOX
 have hc':c1=0:=by simpa using hc
 subst hc'
 have g0:vs[Int.toNat 0]?=some (vs.getD 0 []):=lM aA
 try simp -dsimp -implicitDefEqProofs only[go_sem,↓reduceIte,Tryz.f179,hk,aO,g0]
 refine⟨by omega,?_⟩
 refine aJ.mk (scaled (vs.getD 0 []) 1000002 pK aTJ hv0.2) ?_
 simp -dsimp -implicitDefEqProofs only[go_sem,↓reduceIte,Tryz.f179]
 refine⟨_,aR h nb (dV p sz t1 0),bG aTG,_,t1,0,rfl,rfl,eO _ hv0,by omega,a2,?_⟩
 rw[pD h3 aA]
 refine a3.eN ?_
 rw[dF,hk]
 exact nN _ _
theorem bLU {p:aC} (hp:p.ok) {sz n:Nat} (c6:1<=sz/\sz<=1048576) (hv:rG p sz n) (h:aE) (nb st:Nat) (e:aB) (env:List (List Int)) (funcs:Int) (hb:h nb=some (dV p sz st 0)) (hst:st<3000) (hn:3001<=n+1+st)
  (hok:e.ok p funcs env.length) (iC:0<=funcs) (hf:funcs<=p.aD.length) (henv:∀ s∈env,bV sz s) (hel:env.length<=412+st) (hk:e.aP=3) :
  jC Tryz.prog 179 [.op nb 4 0 0,.agg e.c,b6 env] h (EvQ h nb p sz st 0 (iM p sz (n+1) st e env)):=by
 rw[aB.aS]
 have hb':=hb
 unfold dV at hb'
 have e3:((st:Int)=3000)=False:=eq_false aA
 have ew:IntKind.i64.wrap ((st:Int)+1)=((st+1:Nat):Int):=by rw[IntWalk.i64_in _ aA];rfl
 have hnode:=(aB.cN _ _ _ _).1 hok
 have h3:¬st=3000:=by omega
 have hlen:=cQ hok aA
 rw[hk,show dD 3=2 from rfl]at hlen
 have hkl:e.aL.length<=1048576:=by omega
 refine lU 210 rF aBG aBH Tryz.func179 ?_
 simp -dsimp -implicitDefEqProofs only[go_sem,↓reduceIte,Tryz.f179,hb',e3,ew,hk]
 refine aJ.gS (aCY hv (aR h nb (dV p sz (st+1) 0)) nb (st+1) 0 e.aL env funcs (aM _ _ _) aA aA hkl (cO hok aA) iC hf henv aA) ?_
 rintro r h' ⟨vs,t1,c1,rfl,rfl,hvl,hvs,a1,a2,a3⟩
 have hv0:=kI hvs (i:=0) aA
 simp -dsimp -implicitDefEqProofs only[go_sem,↓reduceIte,Tryz.f179,dV]
 refine⟨λhc=>?_,λhc=>?_⟩
 ·have hc':¬c1=0:=by simpa using hc
  refine aJ.gS (oJ _ nb _ _ _ 0 sz (aM _ _ _) c6) ?_
  rintro r h' ⟨rfl,rfl⟩
  simp -dsimp -implicitDefEqProofs only[go_sem,↓reduceIte,Tryz.f179]
  refine⟨_,aR h nb (dV p sz t1 c1),bG x7,_,t1,c1,rfl,rfl,fP mZ,by omega,a2,?_⟩
  rw[pD h3 aA]
  exact a3.eN aOX
 have hc':c1=0:=by simpa using hc
 subst hc'
 have g0:vs[Int.toNat 0]?=some (vs.getD 0 []):=lM aA
 have g1:vs[Int.toNat 1]?=some (vs.getD 1 []):=lM aA
 have hv1:=kI hvs (i:=1) aA
 try simp -dsimp -implicitDefEqProofs only[go_sem,↓reduceIte,Tryz.f179,hk,aO,g0,g1]
 refine⟨by omega,by omega,?_⟩
 refine aJ.mk (aQZ (vs.getD 0 []) (vs.getD 1 []) aVF aTJ hv0.2 hv1.2) ?_
 simp -dsimp -implicitDefEqProofs only[go_sem,↓reduceIte,Tryz.f179]
 refine⟨_,aR h nb (dV p sz t1 0),bG aTG,_,t1,0,rfl,rfl,kX hv0 hv1,by omega,a2,?_⟩
 rw[pD h3 aA]
 refine a3.eN ?_
 rw[dF,hk]
 exact nN _ _
theorem bLV {p:aC} (hp:p.ok) {sz n:Nat} (c6:1<=sz/\sz<=1048576) (hv:rG p sz n) (h:aE) (nb st:Nat) (e:aB) (env:List (List Int)) (funcs:Int) (hb:h nb=some (dV p sz st 0)) (hst:st<3000) (hn:3001<=n+1+st)
  (hok:e.ok p funcs env.length) (iC:0<=funcs) (hf:funcs<=p.aD.length) (henv:∀ s∈env,bV sz s) (hel:env.length<=412+st) (hk:e.aP=4) :
  jC Tryz.prog 179 [.op nb 4 0 0,.agg e.c,b6 env] h (EvQ h nb p sz st 0 (iM p sz (n+1) st e env)):=by
 rw[aB.aS]
 have hb':=hb
 unfold dV at hb'
 have e3:((st:Int)=3000)=False:=eq_false aA
 have ew:IntKind.i64.wrap ((st:Int)+1)=((st+1:Nat):Int):=by rw[IntWalk.i64_in _ aA];rfl
 have hnode:=(aB.cN _ _ _ _).1 hok
 have h3:¬st=3000:=by omega
 have hlen:=cQ hok aA
 rw[hk,show dD 4=2 from rfl]at hlen
 have hkl:e.aL.length<=1048576:=by omega
 refine lU 210 rF aBG aBH Tryz.func179 ?_
 simp -dsimp -implicitDefEqProofs only[go_sem,↓reduceIte,Tryz.f179,hb',e3,ew,hk]
 refine aJ.gS (aCY hv (aR h nb (dV p sz (st+1) 0)) nb (st+1) 0 e.aL env funcs (aM _ _ _) aA aA hkl (cO hok aA) iC hf henv aA) ?_
 rintro r h' ⟨vs,t1,c1,rfl,rfl,hvl,hvs,a1,a2,a3⟩
 have hv0:=kI hvs (i:=0) aA
 simp -dsimp -implicitDefEqProofs only[go_sem,↓reduceIte,Tryz.f179,dV]
 refine⟨λhc=>?_,λhc=>?_⟩
 ·have hc':¬c1=0:=by simpa using hc
  refine aJ.gS (oJ _ nb _ _ _ 0 sz (aM _ _ _) c6) ?_
  rintro r h' ⟨rfl,rfl⟩
  simp -dsimp -implicitDefEqProofs only[go_sem,↓reduceIte,Tryz.f179]
  refine⟨_,aR h nb (dV p sz t1 c1),bG x7,_,t1,c1,rfl,rfl,fP mZ,by omega,a2,?_⟩
  rw[pD h3 aA]
  exact a3.eN aOX
 have hc':c1=0:=by simpa using hc
 subst hc'
 have g0:vs[Int.toNat 0]?=some (vs.getD 0 []):=lM aA
 have g1:vs[Int.toNat 1]?=some (vs.getD 1 []):=lM aA
 have hv1:=kI hvs (i:=1) aA
 try simp -dsimp -implicitDefEqProofs only[go_sem,↓reduceIte,Tryz.f179,hk,aO,g0,g1]
 refine⟨by omega,by omega,?_⟩
 refine aJ.mk (reduced (vs.getD 0 []) (vs.getD 1 []) aVF aTJ hv0.2 hv1.2) ?_
 simp -dsimp -implicitDefEqProofs only[go_sem,↓reduceIte,Tryz.f179]
 refine⟨_,aR h nb (dV p sz t1 0),bG aTG,_,t1,0,rfl,rfl,xX hv0 hv1,by omega,a2,?_⟩
 rw[pD h3 aA]
 refine a3.eN ?_
 rw[dF,hk]
 exact nN _ _
theorem bLW {p:aC} (hp:p.ok) {sz n:Nat} (c6:1<=sz/\sz<=1048576) (hv:rG p sz n) (h:aE) (nb st:Nat) (e:aB) (env:List (List Int)) (funcs:Int) (hb:h nb=some (dV p sz st 0)) (hst:st<3000) (hn:3001<=n+1+st)
  (hok:e.ok p funcs env.length) (iC:0<=funcs) (hf:funcs<=p.aD.length) (henv:∀ s∈env,bV sz s) (hel:env.length<=412+st) (hk:e.aP=5) :
  jC Tryz.prog 179 [.op nb 4 0 0,.agg e.c,b6 env] h (EvQ h nb p sz st 0 (iM p sz (n+1) st e env)):=by
 rw[aB.aS]
 have hb':=hb
 unfold dV at hb'
 have e3:((st:Int)=3000)=False:=eq_false aA
 have ew:IntKind.i64.wrap ((st:Int)+1)=((st+1:Nat):Int):=by rw[IntWalk.i64_in _ aA];rfl
 have hnode:=(aB.cN _ _ _ _).1 hok
 have h3:¬st=3000:=by omega
 have hlen:=cQ hok aA
 rw[hk,show dD 5=2 from rfl]at hlen
 have hkl:e.aL.length<=1048576:=by omega
 refine lU 210 rF aBG aBH Tryz.func179 ?_
 simp -dsimp -implicitDefEqProofs only[go_sem,↓reduceIte,Tryz.f179,hb',e3,ew,hk]
 refine aJ.gS (aCY hv (aR h nb (dV p sz (st+1) 0)) nb (st+1) 0 e.aL env funcs (aM _ _ _) aA aA hkl (cO hok aA) iC hf henv aA) ?_
 rintro r h' ⟨vs,t1,c1,rfl,rfl,hvl,hvs,a1,a2,a3⟩
 have hv0:=kI hvs (i:=0) aA
 simp -dsimp -implicitDefEqProofs only[go_sem,↓reduceIte,Tryz.f179,dV]
 refine⟨λhc=>?_,λhc=>?_⟩
 ·have hc':¬c1=0:=by simpa using hc
  refine aJ.gS (oJ _ nb _ _ _ 0 sz (aM _ _ _) c6) ?_
  rintro r h' ⟨rfl,rfl⟩
  simp -dsimp -implicitDefEqProofs only[go_sem,↓reduceIte,Tryz.f179]
  refine⟨_,aR h nb (dV p sz t1 c1),bG x7,_,t1,c1,rfl,rfl,fP mZ,by omega,a2,?_⟩
  rw[pD h3 aA]
  exact a3.eN aOX
 have hc':c1=0:=by simpa using hc
 subst hc'
 have g0:vs[Int.toNat 0]?=some (vs.getD 0 []):=lM aA
 have g1:vs[Int.toNat 1]?=some (vs.getD 1 []):=lM aA
 have hv1:=kI hvs (i:=1) aA
 try simp -dsimp -implicitDefEqProofs only[go_sem,↓reduceIte,Tryz.f179,hk,aO,g0,g1]
 refine⟨by omega,by omega,?_⟩
 refine aJ.mk (product (vs.getD 0 []) (vs.getD 1 []) aVF aTJ hv0.2 hv1.2) ?_
 simp -dsimp -implicitDefEqProofs only[go_sem,↓reduceIte,Tryz.f179]
 refine⟨_,aR h nb (dV p sz t1 0),bG aTG,_,t1,0,rfl,rfl,fR _ hv0,by omega,a2,?_⟩
 rw[pD h3 aA]
 refine a3.eN ?_
 rw[dF,hk]
 exact nN _ _
theorem bLX {p:aC} (hp:p.ok) {sz n:Nat} (c6:1<=sz/\sz<=1048576) (hv:rG p sz n) (h:aE) (nb st:Nat) (e:aB) (env:List (List Int)) (funcs:Int) (hb:h nb=some (dV p sz st 0)) (hst:st<3000) (hn:3001<=n+1+st)
  (hok:e.ok p funcs env.length) (iC:0<=funcs) (hf:funcs<=p.aD.length) (henv:∀ s∈env,bV sz s) (hel:env.length<=412+st) (hk:e.aP=6) :
  jC Tryz.prog 179 [.op nb 4 0 0,.agg e.c,b6 env] h (EvQ h nb p sz st 0 (iM p sz (n+1) st e env)):=by
 rw[aB.aS]
 have hb':=hb
 unfold dV at hb'
 have e3:((st:Int)=3000)=False:=eq_false aA
 have ew:IntKind.i64.wrap ((st:Int)+1)=((st+1:Nat):Int):=by rw[IntWalk.i64_in _ aA];rfl
 have hnode:=(aB.cN _ _ _ _).1 hok
 have h3:¬st=3000:=by omega
 have hlen:=cQ hok aA
 rw[hk,show dD 6=2 from rfl]at hlen
 have hkl:e.aL.length<=1048576:=by omega
 refine lU 210 rF aBG aBH Tryz.func179 ?_
 simp -dsimp -implicitDefEqProofs only[go_sem,↓reduceIte,Tryz.f179,hb',e3,ew,hk]
 refine aJ.gS (aCY hv (aR h nb (dV p sz (st+1) 0)) nb (st+1) 0 e.aL env funcs (aM _ _ _) aA aA hkl (cO hok aA) iC hf henv aA) ?_
 rintro r h' ⟨vs,t1,c1,rfl,rfl,hvl,hvs,a1,a2,a3⟩
 have hv0:=kI hvs (i:=0) aA
 simp -dsimp -implicitDefEqProofs only[go_sem,↓reduceIte,Tryz.f179,dV]
 refine⟨λhc=>?_,λhc=>?_⟩
 ·have hc':¬c1=0:=by simpa using hc
  refine aJ.gS (oJ _ nb _ _ _ 0 sz (aM _ _ _) c6) ?_
  rintro r h' ⟨rfl,rfl⟩
  simp -dsimp -implicitDefEqProofs only[go_sem,↓reduceIte,Tryz.f179]
  refine⟨_,aR h nb (dV p sz t1 c1),bG x7,_,t1,c1,rfl,rfl,fP mZ,by omega,a2,?_⟩
  rw[pD h3 aA]
  exact a3.eN aOX
 have hc':c1=0:=by simpa using hc
 subst hc'
 have g0:vs[Int.toNat 0]?=some (vs.getD 0 []):=lM aA
 have g1:vs[Int.toNat 1]?=some (vs.getD 1 []):=lM aA
 have hv1:=kI hvs (i:=1) aA
 have gs:(vs.getD 1 [])[Int.toNat 0]?=some ((vs.getD 1 []).getD 0 0):=cI (by rw[hv1.1];omega)
 try simp -dsimp -implicitDefEqProofs only[go_sem,↓reduceIte,Tryz.f179,hk,aO,g0,g1,gs]
 refine⟨by omega,by rw[hv1.1];omega,λhz=>?_,λhz=>?_⟩
 ·refine aJ.gS (oJ _ nb _ _ _ 0 sz (aM _ _ _) c6) ?_
  rintro r h' ⟨rfl,rfl⟩
  simp -dsimp -implicitDefEqProofs only[go_sem,↓reduceIte,Tryz.f179]
  refine⟨_,aR h nb (dV p sz t1 6),bG aTG,_,t1,6,rfl,rfl,fP mZ,by omega,a2,?_⟩
  rw[pD h3 aA]
  refine a3.eN ?_
  rw[dF,hk]
  have:opE 6 vs t1=.error 6:=by rw[opE,if_neg cE,if_neg cE,if_neg cE,if_neg cE,if_pos hz]
  rw[this]
  exact mW _ _ cE
 ·try simp -dsimp -implicitDefEqProofs only[go_sem,↓reduceIte,Tryz.f179,hk,aO,g0,g1,gs]
  refine⟨by omega,by omega,?_⟩
  refine aJ.mk (quotient (vs.getD 0 []) (vs.getD 1 []) aVF aTJ aTJ hv0.2 hv1.2) ?_
  simp -dsimp -implicitDefEqProofs only[go_sem,↓reduceIte,Tryz.f179]
  refine⟨_,aR h nb (dV p sz t1 0),bG aTG,_,t1,0,rfl,rfl,tL _ hv0,by omega,a2,?_⟩
  rw[pD h3 aA]
  refine a3.eN ?_
  rw[dF,hk]
  have:opE 6 vs t1=.ok (lV (vs.getD 0 []) (vs.getD 1 []),t1):=by rw[opE,if_neg cE,if_neg cE,if_neg cE,if_neg cE,if_neg hz]
  rw[this]
  exact nN _ _
theorem bGA {p:aC} (hp:p.ok) {sz n:Nat} (c6:1<=sz/\sz<=1048576) (hv:rG p sz n) (h:aE) (nb st:Nat) (e:aB) (env:List (List Int)) (funcs:Int) (hb:h nb=some (dV p sz st 0)) (hst:st<3000) (hn:3001<=n+1+st)
  (hok:e.ok p funcs env.length) (iC:0<=funcs) (hf:funcs<=p.aD.length) (henv:∀ s∈env,bV sz s) (hel:env.length<=412+st) (hk:e.aP=11) :
  jC Tryz.prog 179 [.op nb 4 0 0,.agg e.c,b6 env] h (EvQ h nb p sz st 0 (iM p sz (n+1) st e env)):=by
 rw[aB.aS]
 have hb':=hb
 unfold dV at hb'
 have e3:((st:Int)=3000)=False:=eq_false aA
 have ew:IntKind.i64.wrap ((st:Int)+1)=((st+1:Nat):Int):=by rw[IntWalk.i64_in _ aA];rfl
 have hnode:=(aB.cN _ _ _ _).1 hok
 have h3:¬st=3000:=by omega
 obtain⟨f,F⟩:=nD hp hok hf (.inr hk)
 have hkl:e.aL.length<=1048576:=by have:=F.kids;have:=F.params;omega
 have f1:=F.lo
 have f2:=F.hi
 have f3:=F.pk
 have f4:=F.pk2
 have f5:=F.kids
 have f6:=F.params
 have f7:=F.loop hk
 have f8:=F.outs
 refine lU 210 rF aBG aBH Tryz.func179 ?_
 simp -dsimp -implicitDefEqProofs only[go_sem,↓reduceIte,Tryz.f179,hb',e3,ew,hk]
 refine aJ.gS (aCY hv (aR h nb (dV p sz (st+1) 0)) nb (st+1) 0 e.aL env funcs (aM _ _ _) aA aA hkl (cO hok aA) iC hf henv aA) ?_
 rintro r h' ⟨vs,t1,c1,rfl,rfl,hvl,hvs,a1,a2,a3⟩
 simp -dsimp -implicitDefEqProofs only[go_sem,↓reduceIte,Tryz.f179,dV]
 refine⟨λhc=>?_,λhc=>?_⟩
 ·have hc':¬c1=0:=by simpa using hc
  refine aJ.gS (oJ _ nb _ _ _ 0 sz (aM _ _ _) c6) ?_
  rintro r h' ⟨rfl,rfl⟩
  simp -dsimp -implicitDefEqProofs only[go_sem,↓reduceIte,Tryz.f179]
  refine⟨_,aR h nb (dV p sz t1 c1),bG x7,_,t1,c1,rfl,rfl,fP mZ,by omega,a2,?_⟩
  rw[aE3 h3 hk]
  exact a3.eN aOX
 have hc':c1=0:=by simpa using hc
 subst hc'
 try simp -dsimp -implicitDefEqProofs only[go_sem,↓reduceIte,Tryz.f179,hk,aO]
 have hiter:∀ (k:Nat) (us:List (List Int)) (t:Nat) (c:Int),kW (pN (λvs t=>jY (λt e=>iM p sz n t e vs) (p.outs e.aW) t) k vs t1) us t c->k<=e.bI.toNat->(¬c=0∨k=e.bI.toNat)->kW (r6 0 (iM p sz (n+1) st e env)) (us.getD e.bR.toNat []) t c:=λk us t c ho hk1 hor=>by
  rw[aE3 h3 hk]
  refine a3.eN ?_
  rw[dF]
  refine kW.then (v:=us) (t:=t) (c:=c) ?_ (jK _ _ _)
  rcases hor with hc|rfl
  ·have:=ho.err hc
   rw[aT1 _ k hk1 this]
   exact mW _ _ hc
  ·exact ho
 refine cZ rF aBG aBH (λx:Nat×List (List Int)×Nat×Int=>[(0,.op nb 4 0 0),(4,.ip 5 [[I 11,I e.aW,I e.bR,I e.bI,fN 5 aB.c e.aL]] 0 0),(7,b6 x.2.1),(8,I x.1)]) (λx=>aR h nb (dV p sz x.2.2.1 x.2.2.2)) (λx=>x.1<=e.bI.toNat/\x.2.1.length=f.aN.length/\(∀ s∈x.2.1,bV sz s)/\t1<=x.2.2.1/\x.2.2.1<=3000/\kW (pN (λvs t=>jY (λt e=>iM p sz n t e vs) (p.outs e.aW) t) x.1 vs t1) x.2.1 x.2.2.1 x.2.2.2) (λx=>e.bI.toNat-x.1) (0,vs,t1,0) ⟨by simp[c4,b7],aE.le_refl _,fE _,by simp only;omega,hvs,iH _,a2,nN _ _⟩ ?_
 rintro⟨k,us,t,c⟩ ⟨hk1,hul,hus,ht0,ht,ho⟩
 simp only at hk1 hul hus ht0 ht ho ⊢
 have gp:us[e.bR.toNat]?=some (us.getD e.bR.toNat []):=lM aA
 simp -dsimp -implicitDefEqProofs only[go_sem,↓reduceIte,Tryz.f179,dV,F.get,aU.aS,gp]
 refine⟨λhlt=>⟨λhc=>⟨f1,f2,?_⟩,λhc=>?_⟩,λhge=>?_⟩
 ·subst hc
  refine aJ.gS (aCY hv (aR h nb (dV p sz t 0)) nb t 0 f.aN us e.aW (aM _ _ _) ht aA aA (by rw[hul,f7.2.2];exact F.oks) f1 aA hus aA) ?_
  rintro r h' ⟨l2,t2,c2,rfl,rfl,hl2,xE,b1,b2,b3⟩
  simp -dsimp -implicitDefEqProofs only[go_sem,↓reduceIte,Tryz.f179]
  refine⟨(k+1,l2,t2,c2),⟨rfl,by rw[IntWalk.i64_in _ aA];rfl⟩,by simp only[aO];exact aE.le_refl _,⟨by omega,hl2,xE,by simp only;omega,b2,?_⟩,by simp only;omega⟩
  simp only
  rw[aCW]
  refine ho.then ?_
  rw[F.eq]
  exact b3
 ·exact⟨f3,by omega,_,_,bQ _ _,us.getD e.bR.toNat [],t,c,rfl,rfl,kI hus aA,by omega,ht,hiter k us t c ho hk1 (.inl hc)⟩
 ·exact⟨f3,by omega,_,_,bQ _ _,us.getD e.bR.toNat [],t,c,rfl,rfl,kI hus aA,by omega,ht,hiter k us t c ho hk1 (.inr aA)⟩
theorem value {p:aC} (hp:p.ok) {sz:Nat} (c6:1<=sz/\sz<=1048576):∀ n,rG p sz n
 |0=>λh nb st c e env funcs hb hst hn=>by omega
 |n+1=>λh nb st c e env funcs hb hst hn hok iC hf henv hel=>by
  have hv:=value hp c6 n
  by_cases hs:¬c=0∨st=3000
  ·exact a4B c6 h nb st c e env hb hst hs
  have hc:c=0:=bDC λq=>hs (.inl q)
  have h3:st<3000:=by
   rcases bZ st 3000 with h|h
   ·exact h
   ·exact absurd (.inr aA) hs
  subst hc
  rcases rE ((aB.cN _ _ _ _).1 hok).1 with hk|hk|hk|hk|hk|hk|hk|hk|hk|hk|hk
  ·exact bLP hp c6 hv h nb st e env funcs hb h3 hn hok iC hf henv hel hk
  ·exact bLQ hp c6 hv h nb st e env funcs hb h3 hn hok iC hf henv hel hk
  ·exact bLU hp c6 hv h nb st e env funcs hb h3 hn hok iC hf henv hel hk
  ·exact bLV hp c6 hv h nb st e env funcs hb h3 hn hok iC hf henv hel hk
  ·exact bLW hp c6 hv h nb st e env funcs hb h3 hn hok iC hf henv hel hk
  ·exact bLX hp c6 hv h nb st e env funcs hb h3 hn hok iC hf henv hel hk
  ·exact bLT hp c6 hv h nb st e env funcs hb h3 hn hok iC hf henv hel hk
  ·exact bLR hp c6 hv h nb st e env funcs hb h3 hn hok iC hf henv hel hk
  ·exact bLS hp c6 hv h nb st e env funcs hb h3 hn hok iC hf henv hel hk
  ·exact bF9 hp c6 hv h nb st e env funcs hb h3 hn hok iC hf henv hel hk
  ·exact bGA hp c6 hv h nb st e env funcs hb h3 hn hok iC hf henv hel hk
end Go.Hl

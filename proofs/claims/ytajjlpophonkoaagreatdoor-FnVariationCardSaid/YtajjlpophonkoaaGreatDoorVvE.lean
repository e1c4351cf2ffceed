/-
  Contracts of functions and laws of the layer over the walk.
-/
import Derived.Test.YtajjlpophonkoaaGreatDoorVvD
import Derived.Test.YtajjlpophonkoaaGreatDoorVvC
import Derived.Test.YtajjlpophonkoaaGreatDoorHlD
import Derived.Test.YtajjlpophonkoaaGreatDoorVvA
import Derived.Test.YtajjlpophonkoaaGreatDoorVvB
namespace Go.Hl
set_option maxRecDepth 100000
open Go.Proofs
set_option linter.unusedVariables false
set_option linter.unusedSimpArgs false
structure u3 where
 sT:Int
 bW:List bO
 zY:List j8
 aN:List Int
def u3.c (x:u3):List aH:=[I x.sT,fN 4 bO.c x.bW,fN 2 j8.c x.zY,ints x.aN]
theorem u3.aS (x:u3):x.c=[I x.sT,fN 4 bO.c x.bW,fN 2 j8.c x.zY,ints x.aN]:=rfl
def wV (p:aC) (f:Int) (args:List Int):u3×Int:=match wT p f args with
 | .ok ((l,S),_)=>(⟨args.length,S.code,S.guards,l⟩,0)
 | .error c=>(⟨0,[],[],[]⟩,c)
theorem aBJ.seal {bx:dS->Option Nat->Option Nat->Option Nat->bE} {h0 h F hh:aE} {nb:Nat} {inp:Int} {S:dS} {om og ov:Option Nat} (H:aBJ bx h0 nb S om og ov h) (l:List Int) (d:Int)
  (hF:∀ n,some n=om∨some n=og->F n=h n) (hl:hh.le F) (hn:∀ n,some n=om∨some n=og->hh n=none) :
  Shift (.jO [.agg [I inp,gW 4 S.code.length om,gW 2 S.guards.length og,ints l],I d]) F (.jO [.agg [I inp,fN 4 bO.c S.code,fN 2 j8.c S.guards,ints l],I d]) hh:=by
 have hc:=H.code
 have hg:=H.gds
 have ap:=H.apart
 cases om with
 |none =>
  have hc0:S.code=[]:=qO.1 hc
  cases og with
  |none =>
   have hg0:S.guards=[]:=qO.1 hg
   rw[hc0,hg0]
   exact Shift.of (Sub.jO (.cons (Sub.agg (.cons (.refl _) (.cons (Sub.nil _ _) (.cons (Sub.nil _ _) (.cons (.refl _) .nil))))) (.cons (.refl _) .nil))) hl
  |some g =>
   have hgF:=(hF g (.inr rfl)).trans hg.2
   rw[hc0]
   refine Shift.trans (Shift.of (Sub.jO (.cons (Sub.agg (.cons (.refl _) (.cons (Sub.nil 4 false) (.cons (.refl _) (.cons (.refl _) .nil))))) (.cons (.refl _) .nil))) (aE.le_refl F)) ?_
   refine s9 (n:=g) (sz:=2) (S.guards.map j8.c) (hn g (.inr rfl)) ?_ bD1 ?_
   ·intro q
    by_cases e:q=g
    ·subst e;right;rw[aM];exact hgF.symm
    ·rw[aI _ _ _ _ e];exact hl q
   ·simp[aH.eM,lX,gW,pQ]
 |some m =>
  have hmF:=(hF m (.inl rfl)).trans hc.2
  cases og with
  |none =>
   have hg0:S.guards=[]:=qO.1 hg
   rw[hg0]
   refine Shift.trans (Shift.of (Sub.jO (.cons (Sub.agg (.cons (.refl _) (.cons (.refl _) (.cons (Sub.nil 2 false) (.cons (.refl _) .nil))))) (.cons (.refl _) .nil))) (aE.le_refl F)) ?_
   refine s9 (n:=m) (sz:=4) (S.code.map bO.c) (hn m (.inl rfl)) ?_ bD1 ?_
   ·intro q
    by_cases e:q=m
    ·subst e;right;rw[aM];exact hmF.symm
    ·rw[aI _ _ _ _ e];exact hl q
   ·simp[aH.eM,lX,gW,pQ]
  |some g =>
   have hgF:=(hF g (.inr rfl)).trans hg.2
   have hne:¬g=m:=λe=>((ap g).2.1 (by rw[e])).1 rfl
   refine Shift.trans (b:=.jO [.agg [I inp,gW 4 S.code.length (some m),fN 2 j8.c S.guards,ints l],I d]) (h2:=aR hh m (.row 4 (rowsOf bO.c S.code))) ?_ ?_
   ·refine s9 (n:=g) (sz:=2) (S.guards.map j8.c) (by rw[aI _ _ _ _ hne];exact hn g (.inr rfl)) ?_ (by simp[gA,jG,gW];exact λe=>hne e.symm) ?_
    ·intro q
     by_cases e:q=g
     ·subst e;right;rw[aM];exact hgF.symm
     ·rw[aI _ _ _ _ e]
      by_cases e2:q=m
      ·subst e2;right;rw[aM];exact hmF.symm
      ·rw[aI _ _ _ _ e2];exact hl q
    ·have hne':¬m=g:=λe=>hne e.symm
     simp[aH.eM,lX,gW,pQ,hne']
   ·refine s9 (n:=m) (sz:=4) (S.code.map bO.c) (hn m (.inl rfl)) (aE.le_refl _) bD1 ?_
    simp[aH.eM,lX,gW,pQ]
theorem aBJ.keep {h0 h:aE} {nb:Nat} {bx:dS->Option Nat->Option Nat->Option Nat->bE} {S:dS} {om og ov:Option Nat} (H:aBJ bx h0 nb S om og ov h) {n:Nat} {o:bE} (hn:h0 n=some o):h n=some o/\¬n=nb/\¬some n=om/\¬some n=og/\¬some n=ov:=by
 have hne:∀ q,¬(q=nb∨some q=om∨some q=og∨some q=ov)∨h0 q=.none:=λq=>by
  by_cases e:q=nb∨some q=om∨some q=og∨some q=ov
  ·exact .inr (H.fresh q e)
  ·exact .inl e
 have h1:¬(n=nb∨some n=om∨some n=og∨some n=ov):=by
  rcases hne n with e|e
  ·exact e
  ·rw[hn]at e;cases e
 have e1:¬n=nb:=λe=>h1 (.inl e)
 have e2:¬some n=om:=λe=>h1 (.inr (.inl e))
 have e3:¬some n=og:=λe=>h1 (.inr (.inr (.inl e)))
 have e4:¬some n=ov:=λe=>h1 (.inr (.inr (.inr e)))
 exact⟨(H.upto n e1 e2 e3 e4).trans hn,e1,e2,e3,e4⟩
theorem aBJ.le {h0 h:aE} {nb:Nat} {bx:dS->Option Nat->Option Nat->Option Nat->bE} {S:dS} {om og ov:Option Nat} (H:aBJ bx h0 nb S om og ov h):h0.le h:=λq=>by
 cases e:h0 q with
 |none=>exact .inl rfl
 |some o=>right;exact(H.keep e).1.symm
theorem a4M {h0:aE} {nb:Nat} (p:aC) (inp:Int) (hn:h0 nb=none):lC h0 nb p inp ⟨[],[],[]⟩ 0 0 (aR h0 nb (dQ p inp ⟨[],[],[]⟩ none none none 0 0)) :=
 ⟨none,none,none,aM _ _ _,aQ9 _ _ _ _,rfl,rfl,rfl,λn h=>(by rcases h with rfl|h|h|h;exact hn;cases h;cases h;cases h),λn h1 _ _ _=>aI _ _ _ _ h1⟩
def aNP (args:List Int) (k:Nat):dS:=⟨(List.range k).map λi:Nat=>⟨1,0,0,(i:Int)⟩,args.take k,[]⟩
def aWZ (k:Nat):List Int:=(List.range k).map λi:Nat=>(i:Int)
theorem bGS (args:List Int):aNP args args.length=inS args:=by rw[aNP,mR];rfl
theorem aT9 {args:List Int} {k:Nat} (hk:k<args.length):aNP args (k+1)=(aNP args k).put ⟨1,0,0,(k:Int)⟩ args[k]:=by
 rw[aNP,aNP,dS.put,a6B,kS,jU hk];rfl
theorem bBV (k:Nat):aWZ (k+1)=aWZ k++[(k:Int)]:=by rw[aWZ,aWZ,a6B,kS];rfl
@[go_sem] def bGT:List Nat:=[0,1,2,3,6,7,8,9,10,11,12,28,30,44,45,46,47,77]
@[go_sem] def b1Y:List Nat:=[3,43,57]
@[go_sem] def b1Z:Marks:=λid=>match id with|6=>([9],(.op 0 (.op 1 (.op 2 (.op 3 (.op 4 (.op 5 (.op 6 (.op 7 (.op 8 (.op 9 (.op 10 .nil))))))))))),[])|15=>([4,5],(.op 0 (.op 1 (.op 2 (.op 3 (.op 4 (.op 5 (.op 6 .nil))))))),[(4,5)])|_=>([],.nil,[])
theorem bUL {p:aC} (hp:p.ok) (hps:p.s<=4194304) (f:Int) (hf:0<=f/\f<p.aD.length) (args:List Int) (ha:dW args) (b9C:args.length<=12) (hl:∀ F,p.aD[f.toNat]?=some F->(args.length:Int)=F.aT) :
  fM Tryz.prog 22 [.agg p.c,I f,ints args] (.jO [.agg (wV p f args).1.c,I (wV p f args).2]):=by
 have hif:=bFG p f hps
 obtain⟨F,ef,hF1,hF2,hF3,hF4⟩:=vQ hp hf
 have hla:=hl F ef
 rw[if_pos hp,if_pos aA]at hif
 simp only[aC.aS]at hif ⊢
 have han:=aP9 args F.aT
 rw[decide_eq_true (show(args.length:Int)=F.aT/\dW args from⟨hla,ha⟩)]at han
 refine iN 87 bGT b1Y b1Z Tryz.func22 λh=>?_
 simp -dsimp -implicitDefEqProofs only[go_sem,↓reduceIte,Tryz.f22,ef,aU.aS]
 intro n6 z6
 try simp -dsimp -implicitDefEqProofs only[go_sem,↓reduceIte,Tryz.f22,ef,aU.aS]
 first|refine aJ.mk (hif) ?_|refine aF.mk (hif) ?_|refine aJ.bA (hif) ?_|refine aF.mk (aX.cU (hif)) ?_
 simp -dsimp -implicitDefEqProofs only[go_sem,↓reduceIte,Tryz.f22,ef,aU.aS]
 refine⟨hf.1,hf.2,?_⟩
 first|refine aJ.mk (han) ?_|refine aF.mk (han) ?_|refine aJ.bA (han) ?_|refine aF.mk (aX.cU (han)) ?_
 simp -dsimp -implicitDefEqProofs only[go_sem,↓reduceIte,Tryz.f22,ef,aU.aS]
 refine⟨hf.1,hf.2,λnb ⟨hb6,zb⟩=>⟨bN,λ_=>?_⟩⟩
 obtain⟨bMN,a8Y,a8Z,b5A⟩:=bB (show ¬nb=n6 from hb6)
 generalize hh6:aR h n6 (.row 4 [[.v (.int .i64 0),.v .bD,.v .bD,.v .bD]])=h6
 have zb6:h6 nb=none:=by rw[←hh6,aI _ _ _ _ bMN];exact zb
 have hin:=a4M (h0:=h6) p F.aT zb6
 refine cZ bGT b1Y b1Z (λx:Nat×aE×Option Nat=>[(1,I f),(3,.ip 1 [[fN 3 aU.c p.aD]] 0 0),(6,.op n6 4 0 0),(9,.op nb 8 0 0),(10,iO 1 x.1 x.2.2),(44,ints args),(45,I args.length),(46,I x.1)]) (λx=>bY x.2.1 (.row 1 (((aWZ x.1).map λn=>[I n]).map (List.map .v))) x.2.2) (λx=>x.1<=args.length/\lC h6 nb p F.aT (aNP args x.1) 0 0 x.2.1/\fT x.2.1 (aWZ x.1) x.2.2) (λx=>args.length-x.1) (0,aR h6 nb (dQ p F.aT ⟨[],[],[]⟩ none none none 0 0),none) ⟨by simp[c4,b7,iO],aE.le_refl _,fE _,hin,rfl⟩ ?_
 rintro⟨k,g,o⟩ ⟨hk,hR,hos⟩
 simp only at hk hR hos ⊢
 have hel:(aWZ k).length=k:=by simp[aWZ]
 rcases bZ k args.length with hlt|hge
 ·have ek:args[k]?=some args[k]:=cM hlt
  have hsl:(aNP args k).code.length=(aNP args k).jE.length:=by simp[aNP];omega
  have hvl:(aNP args k).jE.length=k:=by simp[aNP];omega
  have hy:=bBV k
  cases o with
  |none =>
   rw[aZ]at hos
   have k0:k=0:=by rw[←hel,hos];rfl
   subst k0
   simp -dsimp -implicitDefEqProofs only[go_sem,↓reduceIte,Tryz.f22,bM,aQ,hlt,ek]
   refine aJ.gS (aRA hR ⟨1,0,0,((0:Nat):Int)⟩ args[0] hsl aA) ?_
   rintro r h' ⟨rfl,hR2⟩
   simp -dsimp -implicitDefEqProofs only[go_sem,↓reduceIte,Tryz.f22]
   refine⟨bN,bN,bN,λb hb2=>⟨(1,h',some b),⟨rfl,by rw[IntWalk.i64_in _ aA];rfl⟩,?_,⟨hlt,by rw[aT9 hlt];exact hR2,hb2⟩,by simp only;omega⟩⟩
   rw[hvl]
   exact aE.le_refl _
  |some m =>
   rw[aV]at hos
   simp -dsimp -implicitDefEqProofs only[go_sem,↓reduceIte,Tryz.f22,bC,aK,hlt,ek]
   refine aJ.gS (aRA (hR.over hos) ⟨1,0,0,(k:Int)⟩ args[k] hsl aA) ?_
   rintro r h' ⟨rfl,hR2⟩
   obtain⟨g2,rfl,hg2,hR2⟩:=hR2.base (hR.none hos)
   simp -dsimp -implicitDefEqProofs only[go_sem,↓reduceIte,Tryz.f22]
   refine⟨bN,bN,bN,Nat.le_of_eq hel.symm,by omega,by omega,λb ⟨hbm,hb2⟩=>⟨(k+1,g2,some b),⟨rfl,by rw[IntWalk.i64_in _ aA];rfl⟩,?_,⟨hlt,by rw[aT9 hlt];exact hR2,hb2⟩,by simp only;omega⟩⟩
   simp only[aK]
   rw[hvl,hy,←jD (λn=>I n),hel]
   exact qM hg2
 ·have hk':k=args.length:=by omega
  subst hk'
  rw[bGS]at hR
  have hg0:=aKH args ha b9C
  rw[hla]at hg0
  have hie:aWZ args.length=inE args:=rfl
  have hall:∀ {h0 g:aE},lC h0 nb p F.aT (inS args) 0 0 g->jC Tryz.prog 63 [.op nb 8 0 0,fN 5 aB.c F.aN,ints (inE args)] g (bQZ h0 nb p F.aT 0 0 F.aN.length (tA (λt e S=>fH p 3001 t e (inE args) S) F.aN 0 (inS args))):=λhR =>
   xN hp (reg hp 3001) _ _ nb 0 0 F.aN (inE args) (inS args) f hR aA aA aA (λx hx=>by rw[←hie,hel,hla];exact hF4 x hx) hf.1 aA (λ_=>⟨hg0,aWJ args⟩) (by rw[←hie,hel];omega)
  cases o with
  |none =>
   rw[aZ,hie]at hos
   simp -dsimp -implicitDefEqProofs only[go_sem,↓reduceIte,Tryz.f22,bM,aQ,bX,dB,ef,aU.aS]
   refine⟨hf.1,hf.2,aJ.gS (jC.sub (.cons (.refl _) (.cons (.refl _) (.cons (by rw[hos];exact Sub.loose _ _ _) .nil))) (hall hR)) ?_⟩
   rintro r h2 ⟨l,S2,t2,c2,rfl,⟨om,og,ov,H2⟩,hll,a1,a2,a3⟩
   have hb2:=H2.box
   unfold dQ at hb2
   have hz:=H2.keep (n:=n6) (by rw[←hh6,aM])
   have hz1:=hz.1
   simp -dsimp -implicitDefEqProofs only[go_sem,↓reduceIte,Tryz.f22,hb2,hz1,a8Y,a8Z,aI]
   generalize hE:h2=h2H at *
   have hle:h.le h2H:=by
    have h1:=H2.le
    rw[←hh6]at h1
    intro q
    by_cases e:q=n6
    ·subst e;exact .inl z6
    ·have:=h1 q
     rwa [aI _ _ _ _ e]at this
   have hfr:∀ n,some n=om∨some n=og->h n=none/\¬n=n6/\¬n=nb:=λn hn=>by
    have h1:=H2.fresh n bPG
    have h3:¬n=n6:=λe=>by rw[←hh6,e,aM]at h1;cases h1
    refine⟨by rwa [←hh6,aI _ _ _ _ h3]at h1,h3,λe=>?_⟩
    rcases hn with hn|hn
    ·exact((H2.apart n).1 e).1 hn
    ·exact((H2.apart n).1 e).2.1 hn
   refine⟨λhc=>?_,λhc=>⟨by rw[kH,kH];rfl,?_⟩⟩
   ·have e2:wV p f args=(⟨0,[],[],[]⟩,c2):=by
     rw[dF]at a3
     rw[wV,wT,hF3,a3.err hc]
    rw[e2]
    exact Shift.of (Sub.jO (.cons (Sub.agg (.cons (.refl _) (.cons (Sub.nil 4 false) (.cons (Sub.nil 2 false) (.cons (Sub.nil 1 false) .nil))))) (.cons (.refl _) .nil))) (aE.bP z6 (aE.bP zb (hle)))
   ·obtain⟨_,e1⟩:=a3.ok hc
    have e2:wV p f args=(⟨args.length,S2.code,S2.guards,l⟩,0):=by
     rw[wV,wT,hF3,e1]
    rw[e2,u3.aS,hla]
    refine H2.seal l 0 (λn hn=>?_) (aE.bP z6 (aE.bP zb (hle))) (λn hn=>(hfr n hn).1)
    obtain⟨v1,v2,v3⟩:=hfr n hn
    rw[aI _ _ _ _ v2,aI _ _ _ _ v3]
  |some m =>
   rw[aV]at hos
   simp -dsimp -implicitDefEqProofs only[go_sem,↓reduceIte,Tryz.f22,bC,aK,bX,dB,ef,aU.aS]
   obtain⟨kM,cX,cY,mB⟩:=bB (show ¬nb=m from λe=>by obtain⟨_,_,_,H1⟩:=hR;have:=H1.box;rw[e,hos]at this;cases this)
   refine⟨hf.1,hf.2,aJ.bF8 rfl rfl kM (by rw[nG];exact hel.symm) hos ?_⟩
   refine jC.mono (hall (hR.over (o:=.gone) hos)) ?_
   rintro r h2 ⟨l,S2,t2,c2,rfl,hR2,hll,a1,a2,a3⟩
   obtain⟨g3,rfl,hg3,⟨om,og,ov,H2⟩⟩:=hR2.base (hR.none hos)
   have hb2:=H2.box
   unfold dQ at hb2
   have hz:=H2.keep (n:=n6) (by rw[←hh6,aM])
   have hz1:=hz.1
   obtain⟨bUM,bUN,bUO,b9E⟩:=bB (show ¬n6=m from λe=>by rw[e,hg3]at hz1;cases hz1)
   simp -dsimp -implicitDefEqProofs only[go_sem,↓reduceIte,Tryz.f22,hb2,hz1,a8Y,cX,a8Z,bUN,cY,bUO,aI]
   have hgo:∀ n,some n=om∨some n=og->¬n=m:=λn hn e=>by
    have:=(H2.apart n).2.2.2 (by rw[e];exact hg3)
    rcases hn with hn|hn
    ·exact this.2.1 hn
    ·exact this.2.2.1 hn
   have hhm:h m=none:=by
    have h1:=hR.none hos
    rw[←hh6,aI _ _ _ _ (λe=>bUM e.symm)]at h1
    exact h1
   generalize hE:g3=h2H at *
   have hle:h.le h2H:=by
    have h1:=H2.le
    rw[←hh6]at h1
    intro q
    by_cases e:q=n6
    ·subst e;exact .inl z6
    ·have:=h1 q
     rwa [aI _ _ _ _ e]at this
   have hfr:∀ n,some n=om∨some n=og->h n=none/\¬n=n6/\¬n=nb:=λn hn=>by
    have h1:=H2.fresh n bPG
    have h3:¬n=n6:=λe=>by rw[←hh6,e,aM]at h1;cases h1
    refine⟨by rwa [←hh6,aI _ _ _ _ h3]at h1,h3,λe=>?_⟩
    rcases hn with hn|hn
    ·exact((H2.apart n).1 e).1 hn
    ·exact((H2.apart n).1 e).2.1 hn
   refine⟨λhc=>?_,λhc=>⟨by rw[kH,kH];rfl,?_⟩⟩
   ·have e2:wV p f args=(⟨0,[],[],[]⟩,c2):=by
     rw[dF]at a3
     rw[wV,wT,hF3,a3.err hc]
    rw[e2]
    exact Shift.of (Sub.jO (.cons (Sub.agg (.cons (.refl _) (.cons (Sub.nil 4 false) (.cons (Sub.nil 2 false) (.cons (Sub.nil 1 false) .nil))))) (.cons (.refl _) .nil))) (aE.bP z6 (aE.bP zb (aE.bP hhm hle)))
   ·obtain⟨_,e1⟩:=a3.ok hc
    have e2:wV p f args=(⟨args.length,S2.code,S2.guards,l⟩,0):=by
     rw[wV,wT,hF3,e1]
    rw[e2,u3.aS,hla]
    refine H2.seal l 0 (λn hn=>?_) (aE.bP z6 (aE.bP zb (aE.bP hhm hle))) (λn hn=>(hfr n hn).1)
    obtain⟨v1,v2,v3⟩:=hfr n hn
    rw[aI _ _ _ _ v2,aI _ _ _ _ v3,aI _ _ _ _ (hgo n hn)]
def opW (k:Int) (a b:List Int):List Int:=if k=3 then iK a b else if k=4 then aJ3 a b else if k=5 then mulL a b else if k=7 then iE a 1000002 else lV a b
def opS (sz:Nat) (args rs:List (List Int)) (c:bO):List Int:=if c.lB=1 then args.getD c.aW.toNat []else if c.lB=2 then fQ c.aW sz else opW c.lB (rs.getD c.fA.toNat []) (rs.getD c.fB.toNat [])
def tP (sz:Nat) (args:List (List Int)) (code:List bO):Nat->List (List Int)
 |0=>[]
 |k+1=>tP sz args code k++[opS sz args (tP sz args code k) (code.getD k ⟨0,0,0,0⟩)]
theorem qP (sz:Nat) (args:List (List Int)) (code:List bO):∀ k,(tP sz args code k).length=k
 |0=>rfl
 |k+1=>by rw[tP,mV,qP sz args code k];rfl
theorem aBT (sz:Nat) (args:List (List Int)) (code:List bO) {r k:Nat} (hr:r<k):∀ n,k<=n->(tP sz args code n).getD r []=(tP sz args code k).getD r []
 |0,h=>by omega
 |n+1,h=>by
  rcases bZ n k with h1|h1
  ·have:k=n+1:=by omega
   rw[this]
  ·rw[←aBT sz args code hr n h1,tP,dI,uU (by rw[qP];omega),dI]
def pW (sz:Nat) (args:List (List Int)) (code:List bO) (r:Nat):List Int:=(tP sz args code code.length).getD r []
theorem a4N {sz:Nat} {args:List (List Int)} {code:List bO} {k:Nat} {c:bO} (e:code[k]?=some c):pW sz args code k=opS sz args (tP sz args code k) c:=by
 have h:=(mS.1 e).1
 rw[pW,aBT sz args code (aD9 k) code.length h,tP,dI,wZ (by rw[qP];exact iH _),qP,wI,dI,e];rfl
theorem aRF {sz:Nat} {args:List (List Int)} {code:List bO} {k:Nat} {c:bO} (e:code[k]?=some c) (h1:c.lB=1):pW sz args code k=args.getD c.aW.toNat []:=by rw[a4N e,opS,if_pos h1]
theorem aOA {sz:Nat} {args:List (List Int)} {code:List bO} {k:Nat} {c:bO} (e:code[k]?=some c) (h1:c.lB=2):pW sz args code k=fQ c.aW sz:=by rw[a4N e,opS,if_neg aA,if_pos h1]
theorem aRG {sz:Nat} {args:List (List Int)} {code:List bO} {inp:Int} {k:Nat} {c:bO} (e:code[k]?=some c) (hi:cV inp k c) (h1:¬c.lB=1) (h2:¬c.lB=2):pW sz args code k=opW c.lB (pW sz args code c.fA.toNat) (pW sz args code c.fB.toNat):=by
 have h:=(mS.1 e).1
 unfold cV at hi
 rw[a4N e,opS,if_neg h1,if_neg h2,pW,pW,aBT sz args code (k:=k) aA code.length aA,aBT sz args code (k:=k) aA code.length aA]
theorem bMO {sz:Nat} (k:Int) {a b:List Int} (ha:bV sz a) (hb:bV sz b):bV sz (opW k a b):=by
 unfold opW
 repeat' split
 ·exact kX ha hb
 ·exact xX ha hb
 ·exact fR _ ha
 ·exact eO _ ha
 ·exact tL _ ha
theorem aF5 {sz:Nat} {args:List (List Int)} {code:List bO} {inp:Int} (hi:∀ i c,code[i]?=some c->cV inp i c) (ha:∀ s∈args,bV sz s) (hl:(args.length:Int)=inp) (k:Nat) (hk:k<code.length):bV sz (pW sz args code k):=by
 induction k using Nat.strongRecOn with
 |ind k ih =>
  have e:=cM hk
  have hc:=hi k _ e
  generalize code[k]=c at e hc
  by_cases h1:c.lB=1
  ·rw[aRF e h1]
   unfold cV at hc
   exact kI ha aA
  by_cases h2:c.lB=2
  ·rw[aOA e h2]
   have hn:oU c.aW:=by rcases hc with q|q|q|q <;> first|exact q.2.2.2|(have:=q.1;omega)
   exact fP hn
  ·rw[aRG e hc h1 h2]
   unfold cV at hc
   exact bMO _ (ih _ aA aA) (ih _ aA aA)
theorem bUP {sz:Nat} (c6:1<=sz) {k:Int} {a b:List Int} (ha:a.length=sz) (hb:b.length=sz) {v:Int} (h:opV k (a.getD 0 0) (b.getD 0 0)=some v):(opW k a b).getD 0 0=v:=by
 obtain⟨x,a',rfl⟩:∃ x a',a=x::a':=by
  cases a with
  |nil=>simp at ha;omega
  |cons x a'=>exact⟨x,a',rfl⟩
 obtain⟨y,b',rfl⟩:∃ x a',b=x::a':=by
  cases b with
  |nil=>simp at hb;omega
  |cons x a'=>exact⟨x,a',rfl⟩
 have g:∀ (z:Int) (l:List Int),(z::l).getD 0 0=z:=λ_ _=>rfl
 rw[g,g]at h
 unfold opV at h
 unfold opW
 by_cases h3:k=3
 ·rw[if_pos h3]at h ⊢
  rw[←gV h];rfl
 rw[if_neg h3]at h ⊢
 by_cases h4:k=4
 ·rw[if_pos h4]at h ⊢
  rw[←gV h]
  show(x+y*1000002%1000003)%1000003=_
  omega
 rw[if_neg h4]at h ⊢
 by_cases h5:k=5
 ·rw[if_pos h5]at h ⊢
  obtain⟨t,e⟩:=aL8 x a' (y::b')
  rw[e,←gV h];rfl
 rw[if_neg h5]at h ⊢
 by_cases h7:k=7
 ·rw[if_pos h7]at h ⊢
  rw[←gV h]
  show x*1000002%1000003=_
  omega
 rw[if_neg h7]at h ⊢
 by_cases hy:y=0
 ·rw[if_pos hy]at h;cases h
 ·rw[if_neg hy]at h
  obtain⟨t,e⟩:=aFY x a' (y::b') a'.length
  rw[lV,al2,e,←gV h];rfl
theorem then_ok {α β:Type} {x:Out α} {f:α->Nat->Out β} {w:β} {u:Nat} (h:x.andThen f=.ok (w,u)):∃ v t,x=.ok (v,t)/\f v t=.ok (w,u):=by
 cases x with
 |ok p=>obtain⟨v,t⟩:=p;exact⟨v,t,rfl,h⟩
 |error c=>cases h
structure bBW (inp:Int) (F:dS) (N:Nat->Prop):Prop where
 ins:∀ i c,F.code[i]?=some c->cV inp i c
 ops:∀ (i:Nat) (c:bO),F.code[i]?=some c->N i->(3<=c.lB/\c.lB<=6->N c.fA.toNat/\N c.fB.toNat)/\(c.lB=7->N c.fA.toNat)
 gds:∀ g∈F.guards,N g.bBR.toNat
 div:∀ (i:Nat) (c:bO),F.code[i]?=some c->c.lB=6->N c.fB.toNat
def HD (rg:Nat->List Int) (N:Nat->Prop) (S:dS):Prop:=(∀ i,i<S.jE.length->N i->(rg i).getD 0 0=S.jE.getD i 0)/\∀ (i:Nat) (c:bO),S.code[i]?=some c->c.lB=6->¬S.val c.fB=0
def bBX (rg:Nat->List Int) (F:dS) (N:Nat->Prop) (X:Out (Int×dS)) (Y:Out (List Int)):Prop:=∀ r S' u,X=.ok ((r,S'),u)->S'.ext F->Y=.ok (rg r.toNat,u)/\HD rg N S'
def bMP (rg:Nat->List Int) (F:dS) (N:Nat->Prop) (X:Out (List Int×dS)) (Y:Out (List (List Int))):Prop:=∀ r S' u,X=.ok ((r,S'),u)->S'.ext F->Y=.ok (r.map λk=>rg k.toNat,u)/\HD rg N S'
theorem aBU {rg:Nat->List Int} {F:dS} {N:Nat->Prop} {ev:Nat->aB->dS->Out (Int×dS)} {ev':Nat->aB->Out (List Int)} {inp:Int}:∀ (l:List aB) (t:Nat) (S:dS),Good inp S t->t<=3000->HD rg N S->(∀ e∈l,∀ u S',Good inp S' u->S.ext S'->pP S t S' u->wS (aH8 inp S' u) (ev u e S')/\(HD rg N S'->bBX rg F N (ev u e S') (ev' u e)))->bMP rg F N (tA ev l t S) (jY ev' l t)
 | [],t,S,hg,ht,hd,_=>λr S' u h _=>by
  cases h
  exact⟨rfl,hd⟩
 |e::l,t,S,hg,ht,hd,h=>λr S' u hx he=>by
  obtain⟨h1,h2⟩:=h e x6 t S hg S.uH (.refl ht)
  rw[tA]at hx
  obtain⟨⟨r1,S1⟩,t1,e1,hx⟩:=then_ok hx
  obtain⟨q1,q2,q3,q4⟩:=h1 _ _ e1
  simp only at hx q1 q2 q3 q4
  obtain⟨⟨rs,S2⟩,t2,e2,hx⟩:=then_ok hx
  cases hx
  have hl:=λx hx u' S' a b c=>h x (w6 _ hx) u' S' a (q2.trans b) (q4.trans c)
  have hk:=kR l t1 S1 q1 q4.2.2.2 (λx hx u' S' a b c=>(hl x hx u' S' a b c).1) _ _ e2
  obtain⟨a1,a2⟩:=h2 hd r1 S1 t1 e1 (hk.2.1.trans he)
  obtain⟨b1,b2⟩:=aBU l t1 S1 q1 q4.2.2.2 a2 hl rs _ _ e2 he
  rw[jY,a1,Out.andThen_ok,b1]
  exact⟨rfl,b2⟩
theorem aUA {rg:Nat->List Int} {F:dS} {N:Nat->Prop} {f:List Int->Nat->dS->Out (List Int×dS)} {g:List (List Int)->Nat->Out (List (List Int))} {inp:Int} {m:Nat} (h:∀ vs t S,Good inp S t->(vs.length=m/\∀ x∈vs,rQ S x)->t<=3000->wS (aDX inp S t m) (f vs t S)/\(HD rg N S->bMP rg F N (f vs t S) (g (vs.map λk=>rg k.toNat) t))) :
  ∀ (n:Nat) (vs:List Int) (t:Nat) (S:dS),Good inp S t->(vs.length=m/\∀ x∈vs,rQ S x)->t<=3000->HD rg N S->bMP rg F N (uZ f n vs t S) (pN g n (vs.map λk=>rg k.toNat) t)
 |0,vs,t,S,hg,hv,ht,hd=>λr S' u hx _=>by
  cases hx
  exact⟨rfl,hd⟩
 |n+1,vs,t,S,hg,hv,ht,hd=>λr S' u hx he=>by
  obtain⟨h1,h2⟩:=h vs t S hg hv ht
  rw[uZ]at hx
  obtain⟨⟨r1,S1⟩,t1,e1,hx⟩:=then_ok hx
  obtain⟨q1,q2,q3,q4⟩:=h1 _ _ e1
  simp only at hx q1 q2 q3 q4
  have hk:=wA (λvs t S a b c=>(h vs t S a b c).1) n r1 t1 S1 q1 q3 q4.2.2.2 _ _ hx
  obtain⟨a1,a2⟩:=h2 hd r1 S1 t1 e1 (hk.2.1.trans he)
  obtain⟨b1,b2⟩:=aUA h n r1 t1 S1 q1 q3 q4.2.2.2 a2 r S' u hx he
  rw[pN,a1,Out.andThen_ok,b1]
  exact⟨rfl,b2⟩
theorem a4O {S F:dS} {inp:Int} {t:Nat} {c:bO} {v:Int} (hg:Good inp S t) (he:(S.put c v).ext F):F.code[S.jE.length]?=some c:=by
 obtain⟨x,hx⟩:=he.1
 rw[←hx,dS.put,aD6,wZ (by rw[hg.len];exact iH _),hg.len,wI];rfl
theorem HD.put {rg:Nat->List Int} {N:Nat->Prop} {S:dS} (h:HD rg N S) {inp:Int} {t:Nat} (hg:Good inp S t) {c:bO} {v:Int} (hv:N S.jE.length->(rg S.jE.length).getD 0 0=v) (hz:c.lB=6->¬S.val c.fB=0/\rQ S c.fB):HD rg N (S.put c v):=by
 refine⟨λi hi hn=>?_,λi d hd h6=>?_⟩
 ·rw[dS.put,mV,u4]at hi
  show _=(S.jE++[v]).getD i 0
  rw[dI (l:=S.jE++[v])]
  rcases bZ i S.jE.length with h1|h1
  ·rw[uU h1,←dI];exact h.1 i h1 hn
  ·obtain rfl:i=S.jE.length:=by omega
   rw[wZ (iH _),wI];exact hv hn
 ·have hx:=S.aKG c v
  rcases bZ i S.code.length with h1|h1
  ·rw[dS.put,uU h1]at hd
   have hin:=hg.ins i d hd
   have hl:=hg.len
   unfold cV at hin
   rw[hx.val aA aA]
   exact h.2 i d hd h6
  ·rw[dS.put,wZ h1]at hd
   obtain⟨h2,h3⟩:=mS.1 hd
   simp at h2 h3
   subst h3
   rw[hx.val (hz h6).2.1 (hz h6).2.2]
   exact(hz h6).1
theorem yR {rg:Nat->List Int} {l:List Int} {i:Nat} (hi:i<l.length):(l.map λk=>rg k.toNat).getD i []=rg (l.getD i 0).toNat:=by
 simp[dI,cM hi]
theorem bMQ {sz:Nat} (c6:1<=sz) {args:List (List Int)} {inp:Int} {F:dS} {N:Nat->Prop} (C:bBW inp F N) (ha:∀ s∈args,bV sz s) (hl:(args.length:Int)=inp) {k:Int} {vs:List Int} {S:dS} {t m:Nat} (hk:k=3∨k=4∨k=5∨k=6∨k=7) (hm:vs.length=m/\∀ x∈vs,rQ S x) (hm1:1<=m) (hm2:¬k=7->2<=m) (hg:Good inp S t) (hd:HD (pW sz args F.code) N S):bBX (pW sz args F.code) F N (opR k vs S t) (opE k (vs.map λk=>pW sz args F.code k.toNat) t):=λr S' u hx he=>by
 have at_:∀ i,i<m->rQ S (vs.getD i 0):=λi hi=>by
  rw[dI,cM aA]
  exact hm.2 _ (eI _)
 unfold opR at hx
 split at hx
 ·cases hx
 rename_i v hv
 cases hx
 have ec:=a4O hg he
 have hin:=C.ins _ _ ec
 have hrs:=λi (hi:i<F.code.length)=>aF5 (sz:=sz) C.ins ha hl i hi
 have hF:S.jE.length<F.code.length:=(mS.1 ec).1
 have e0:=aRG (sz:=sz) (args:=args) ec hin aO0 aO0
 simp only at e0
 have i0:=at_ 0 aA
 have iB:0<=opB k vs/\opB k vs<S.jE.length:=by
  unfold opB
  split
  ·unfold rQ at i0;omega
  ·rename_i h7
   exact at_ 1 (hm2 h7)
 have s0:=hrs (vs.getD 0 0).toNat (by unfold rQ at i0;omega)
 have s1:=hrs (opB k vs).toNat aA
 have hN:N S.jE.length->N (vs.getD 0 0).toNat/\(¬k=7->N (opB k vs).toNat):=λhn=>by
  have ho:=C.ops _ _ ec hn
  simp only at ho
  by_cases h7:k=7
  ·exact⟨ho.2 h7,λq=>absurd h7 q⟩
  ·have h36:=ho.1 aA
   exact⟨h36.1,λ_=>h36.2⟩
 have hd0:∀ x:Int,0<=x/\x<S.jE.length->N x.toNat->(pW sz args F.code x.toNat).getD 0 0=S.val x:=λx hx hn=>hd.1 x.toNat aA hn
 have hzz:k=6->¬S.val (opB k vs)=0:=λq q2=>by
  rw[q2,q,opV,if_neg cE,if_neg cE,if_neg cE,if_neg cE,if_pos rfl]at hv
  cases hv
 refine⟨?_,hd.put hg (λhn=>?_) (λq=>⟨hzz q,iB⟩)⟩
 ·rw[nU,e0]
  have g0:=yR (rg:=pW sz args F.code) (l:=vs) (i:=0) aA
  unfold opE opW
  rcases hk with rfl|rfl|rfl|rfl|rfl
  all_goals simp only[reduceCtorEq,if_true,if_false,Int.reduceEq]
  ·rw[g0,yR (rg:=pW sz args F.code) (i:=1) a6Y];rfl
  ·rw[g0,yR (rg:=pW sz args F.code) (i:=1) a6Y];rfl
  ·rw[g0,yR (rg:=pW sz args F.code) (i:=1) a6Y];rfl
  ·have hdv:=C.div _ _ ec rfl
   have e6:=hd0 _ iB hdv
   rw[show opB 6 vs=vs.getD 1 0 from rfl]at e6
   rw[g0,yR (rg:=pW sz args F.code) (i:=1) a6Y,e6]
   rw[show opB 6 vs=vs.getD 1 0 from rfl]at hv
   have hz:¬S.val (vs.getD 1 0)=0:=λq=>by
    rw[opV,if_neg cE,if_neg cE,if_neg cE,if_neg cE,if_pos q]at hv
    cases hv
   rw[if_neg hz];rfl
  ·rw[g0]
 ·obtain⟨n0,n1⟩:=hN hn
  rw[e0]
  refine bUP c6 s0.1 s1.1 ?_
  rw[hd0 _ i0 n0]
  by_cases h7:k=7
  ·subst h7
   rw[←hv];rfl
  ·rw[hd0 _ iB (n1 h7)];exact hv
theorem aRH {p:aC} (hp:p.ok) {sz:Nat} (c6:1<=sz) {args:List (List Int)} {inp:Int} {F:dS} {N:Nat->Prop} (C:bBW inp F N) (ha:∀ s∈args,bV sz s) (hl:(args.length:Int)=inp):∀ (n t:Nat) (e:aB) (env:List Int) (S:dS) (funcs:Int),e.ok p funcs env.length->funcs<=p.aD.length->Good inp S t->t<=3000->(∀ x∈env,rQ S x)->HD (pW sz args F.code) N S->bBX (pW sz args F.code) F N (fH p n t e env S) (iM p sz n t e (env.map λk=>pW sz args F.code k.toNat))
 |0,t,e,env,S,funcs,_,_,_,_,_,_=>λr S' u hx _=>by rw[fH]at hx;cases hx
 |n+1,t,e,env,S,funcs,hok,hf,hg,ht,henv,hd=>by
  have ih:=aRH hp c6 C ha hl n
  have io:=vS hp (inp:=inp) n
  have hnode:=((aB.cN _ _ _ _).1 hok).1
  by_cases h3:t=3000
  ·intro r S' u hx _
   rw[fH,if_pos h3]at hx;cases hx
  have o7:=hg.later (r7 t)
  have hcap:=hg.cap
  have hgcap:=hg.aCZ
  have henvE:∀ {S'},S.ext S'->∀ x∈env,rQ S' x:=λe x hx=>(henv x hx).ext e
  have kidsS:¬e.aP=9->∀ x∈e.aL,∀ u S',Good inp S' u->S.ext S'->pP S (t+1) S' u->wS (aH8 inp S' u) (fH p n u x env S')/\(HD (pW sz args F.code) N S'->bBX (pW sz args F.code) F N (fH p n u x env S') (iM p sz n u x (env.map λk=>pW sz args F.code k.toNat))):=λh9 x hx u S' a b c =>
   ⟨io u x env S' funcs (cO hok h9 x hx) hf a c.2.2.2 (henvE b),λhd'=>ih u x env S' funcs (cO hok h9 x hx) hf a c.2.2.2 (henvE b) hd'⟩
  intro r S' u hx he
  rcases rE hnode with hk|hk|hk|hk|hk|hk|hk|hk|hk|hk|hk
  ·rw[aQ4 h3 hk]at hx
   rw[aQV h3 hk]
   cases hx
   have ec:=a4O hg he
   have er:=aOA (sz:=sz) (args:=args) ec rfl
   rw[nU,er]
   refine⟨rfl,hd.put hg (λ_=>?_) (λq=>absurd (show(2:Int)=6 from q) cE)⟩
   rw[er]
   obtain⟨w,rfl⟩:∃ w,sz=w+1:=⟨sz-1,by omega⟩
   simp[fQ,aYR]
  ·rw[aQ5 h3 hk]at hx
   rw[aQW h3 hk]
   cases hx
   have hn:=((dA aA).1 hnode).2.2.2.2.1 hk
   exact⟨by rw[yR aA],hd⟩
  iterate 5
   ·have hlen:=cQ hok aA
    rw[hk]at hlen
    rw[qB h3 aA]at hx
    rw[pD h3 aA]
    have hs:=kidsS aA
    obtain⟨⟨rs,S1⟩,t1,e1,hx⟩:=then_ok hx
    simp only at hx
    have hrk:=kR _ _ S o7 aA (λx hx u S' a b c=>(hs x hx u S' a b c).1) _ _ e1
    obtain⟨r1,r2,r3,r4⟩:=hrk
    have hex:S1.ext S':=by
     have hx2:=hx
     unfold opR at hx2
     split at hx2
     ·cases hx2
     ·cases hx2;exact S1.aKG _ _
    obtain⟨a1,a2⟩:=aBU _ _ S o7 aA hd hs _ _ _ e1 (hex.trans he)
    rw[a1,Out.andThen_ok]
    exact bMQ c6 C ha hl aA r3 a6Q (λq=>by unfold dD at hlen;simp at hlen;omega) r1 a2 _ _ _ hx he
  ·have hlen:=cQ hok aA
   rw[hk,show dD 8=3 from rfl]at hlen
   have o0:=aB.dX hok (i:=0) aA
   have o1:=aB.dX hok (i:=1) aA
   have o2:=aB.dX hok (i:=2) aA
   rw[gQ aA]at o0 o1 o2
   rw[aC0 h3 hk]at hx
   rw[aJ6 h3 hk]
   obtain⟨⟨rr,S1⟩,t1,e1,hx⟩:=then_ok hx
   simp only at hx
   obtain⟨r1,r2,r3,r4⟩:=io _ _ _ _ _ o0 hf o7 aA henv _ _ e1
   simp only at r1 r2 r3 r4
   have r4':=r4
   unfold pP at r4'
   have go:∀ (b:Bool) (k:aB),k.ok p funcs env.length->fH p n t1 k env (S1.guard ⟨rr,b⟩)=.ok ((r,S'),u)->(S1.ext F/\N rr.toNat)/\(HD (pW sz args F.code) N S1->iM p sz n t1 k (env.map λk=>pW sz args F.code k.toNat)=.ok (pW sz args F.code r.toNat,u)/\HD (pW sz args F.code) N S'):=λb k hk hq=>by
    have hx1:S1.ext (S1.guard ⟨rr,b⟩):=S1.tN _
    have hgd:=r1.guard (b:=b) r3 aA
    obtain⟨q1,q2,q3,q4⟩:=io t1 k env _ _ hk hf hgd aA (henvE (r2.trans hx1)) _ _ hq
    simp only at q2
    refine⟨⟨hx1.trans (q2.trans he),?_⟩,λhdd=>ih t1 k env _ _ hk hf hgd aA (henvE (r2.trans hx1)) hdd _ _ _ hq he⟩
    have hm:(⟨rr,b⟩:j8)∈F.guards:=by
     have h1:(⟨rr,b⟩:j8)∈(S1.guard ⟨rr,b⟩).guards:=by simp[dS.guard]
     exact(q2.trans he).2.2.subset h1
    exact C.gds _ hm
   by_cases hz:S1.val rr=0
   ·rw[if_pos hz]at hx
    obtain⟨⟨g1,g2⟩,g3⟩:=go _ _ o1 hx
    obtain⟨a1,a2⟩:=ih _ _ _ _ _ o0 hf o7 aA henv hd _ _ _ e1 g1
    rw[a1,Out.andThen_ok,if_pos bPK]
    exact g3 a2
   ·rw[if_neg hz]at hx
    obtain⟨⟨g1,g2⟩,g3⟩:=go _ _ o2 hx
    obtain⟨a1,a2⟩:=ih _ _ _ _ _ o0 hf o7 aA henv hd _ _ _ e1 g1
    rw[a1,Out.andThen_ok,if_neg bPK]
    exact g3 a2
  ·have hlen:=cQ hok aA
   rw[hk,show dD 9=2 from rfl]at hlen
   have o0:=aB.dX hok (i:=0) aA
   have o1:=aB.dX hok (i:=1) aA
   rw[gQ aA]at o0
   rw[hk,show jV 9 1 (env.length:Int)=env.length+1 from rfl]at o1
   rw[aQ6 h3 hk]at hx
   rw[aQX h3 hk]
   obtain⟨⟨rr,S1⟩,t1,e1,hx⟩:=then_ok hx
   simp only at hx
   obtain⟨r1,r2,r3,r4⟩:=io _ _ _ _ _ o0 hf o7 aA henv _ _ e1
   simp only at r1 r2 r3 r4
   have bGU:∀ x∈env++[rr],rQ S1 x:=λx hx=>by
    rcases pJ.1 hx with hx|hx
    ·exact henvE r2 x hx
    ·rw[jF.1 hx];exact r3
   obtain⟨q1,q2,q3,q4⟩:=io t1 (e.fZ 1) (env++[rr]) S1 funcs aDS hf r1 r4.2.2.2 bGU _ _ hx
   obtain⟨a1,a2⟩:=ih _ _ _ _ _ o0 hf o7 aA henv hd _ _ _ e1 (q2.trans he)
   rw[a1,Out.andThen_ok]
   have:=ih t1 (e.fZ 1) (env++[rr]) S1 funcs aDS hf r1 r4.2.2.2 bGU a2 _ _ _ hx he
   rwa [kS]at this
  ·obtain⟨f,Fc⟩:=nD hp hok hf (.inl hk)
   have f2:=Fc.hi
   have f4:=Fc.pk2
   rw[aF3 h3 hk]at hx
   rw[aE2 h3 hk]
   have hs:=kidsS aA
   obtain⟨⟨rs,S1⟩,t1,e1,hx⟩:=then_ok hx
   simp only at hx
   obtain⟨r1,r2,r3,r4⟩:=kR _ _ S o7 aA (λx hx u S' a b c=>(hs x hx u S' a b c).1) _ _ e1
   simp only at r1 r2 r3 r4
   have hco:(p.out e.aW e.bR).ok p e.aW rs.length:=by rw[r3.1,Fc.kids];exact Fc.oks _ (nO Fc.out)
   obtain⟨q1,q2,q3,q4⟩:=io t1 _ rs S1 e.aW hco aA r1 r4.2.2.2 r3.2 _ _ hx
   obtain⟨a1,a2⟩:=aBU _ _ S o7 aA hd hs _ _ _ e1 (q2.trans he)
   rw[a1,Out.andThen_ok]
   exact ih t1 _ rs S1 e.aW hco aA r1 r4.2.2.2 r3.2 a2 _ _ _ hx he
  ·obtain⟨f,Fc⟩:=nD hp hok hf (.inr hk)
   have f2:=Fc.hi
   have f4:=Fc.pk2
   have f9:=Fc.loop hk
   rw[aF4 h3 hk]at hx
   rw[aE3 h3 hk]
   have hs:=kidsS aA
   obtain⟨⟨rs,S1⟩,t1,e1,hx⟩:=then_ok hx
   simp only at hx
   obtain⟨r1,r2,r3,r4⟩:=kR _ _ S o7 aA (λx hx u S' a b c=>(hs x hx u S' a b c).1) _ _ e1
   simp only at r1 r2 r3 r4
   obtain⟨⟨rs2,S2⟩,t2,e2,hx⟩:=then_ok hx
   cases hx
   have hfl:∀ vs t S,Good inp S t->(vs.length=f.aN.length/\∀ x∈vs,rQ S x)->t<=3000->wS (aDX inp S t f.aN.length) (tA (λt e S=>fH p n t e vs S) (p.outs e.aW) t S)/\(HD (pW sz args F.code) N S->bMP (pW sz args F.code) F N (tA (λt e S=>fH p n t e vs S) (p.outs e.aW) t S) (jY (λt e=>iM p sz n t e (vs.map λk=>pW sz args F.code k.toNat)) (p.outs e.aW) t)):=λvs w S' hg' hv hw=>by
    rw[Fc.eq]
    have hx2:∀ x∈f.aN,∀ u S'',Good inp S'' u->S'.ext S''->pP S' w S'' u->wS (aH8 inp S'' u) (fH p n u x vs S'')/\(HD (pW sz args F.code) N S''->bBX (pW sz args F.code) F N (fH p n u x vs S'') (iM p sz n u x (vs.map λk=>pW sz args F.code k.toNat))):=λx hx u S'' a b c =>
     ⟨io u x vs S'' e.aW (by rw[hv.1,f9.2.2];exact Fc.oks x hx) aA a c.2.2.2 λy hy=>(hv.2 y hy).ext b,λhdd=>ih u x vs S'' e.aW (by rw[hv.1,f9.2.2];exact Fc.oks x hx) aA a c.2.2.2 (λy hy=>(hv.2 y hy).ext b) hdd⟩
    exact⟨kR _ _ S' hg' hw λx hx u S'' a b c=>(hx2 x hx u S'' a b c).1,λhdd=>aBU _ _ S' hg' hw hdd hx2⟩
   have hv0:rs.length=f.aN.length/\∀ x∈rs,rQ S1 x:=⟨by have:=r3.1;have:=Fc.kids;omega,r3.2⟩
   have hk2:=wA (inp:=inp) (m:=f.aN.length) (λvs t S a b c=>(hfl vs t S a b c).1) _ _ _ _ r1 hv0 r4.2.2.2 _ _ e2
   obtain⟨a1,a2⟩:=aBU _ _ S o7 aA hd hs _ _ _ e1 (hk2.2.1.trans he)
   rw[a1,Out.andThen_ok]
   obtain⟨b1,b2⟩:=aUA (inp:=inp) (m:=f.aN.length) (g:=λvs t=>jY (λt e=>iM p sz n t e vs) (p.outs e.aW) t) hfl _ _ _ _ r1 hv0 r4.2.2.2 a2 _ _ _ e2 he
   rw[b1,Out.andThen_ok]
   exact⟨by rw[yR (by have:=hk2.2.2.1.1;simp only at this;omega)],b2⟩
theorem bBY {p:aC} (hp:p.ok) {sz:Nat} (c6:1<=sz) {f:Int} (hf:0<=f/\f<p.aD.length) {oV:List Int} (ha0:dW oV) (hl0:∀ G,p.aD[f.toNat]?=some G->(oV.length:Int)=G.aT) {L:List Int} {F:dS} {u:Nat} (hX:wT p f oV=.ok ((L,F),u)) {N:Nat->Prop} (C:bBW oV.length F N) {args:List (List Int)} (ha:∀ s∈args,bV sz s) (hl:args.length=oV.length) (hd:∀ i,i<oV.length->N i->(args.getD i []).getD 0 0=oV.getD i 0) :
  evF p sz f args=.ok (L.map λk=>pW sz args F.code k.toNat,u)/\HD (pW sz args F.code) N F:=by
 obtain⟨G,ef,hF1,hF2,hF3,hF4⟩:=vQ hp hf
 have hla:=hl0 G ef
 have hg:=aKH oV ha0 aA
 have hin:=aWJ oV
 have hel:(inE oV).length=oV.length:=by simp[inE]
 obtain⟨q1,q2,q3,q4⟩:=(aKI hp f hf oV ha0 hl0).1 _ _ hX
 simp only at q1 q2 q3 q4
 have hcode:∀ i,i<oV.length->F.code[i]?=some ⟨1,0,0,(i:Int)⟩:=λi hi=>by
  obtain⟨x,hx⟩:=q2.1
  rw[←hx,uU (by simp[inS];exact hi)]
  simp[inS,hi]
 have hrg:∀ i,i<oV.length->pW sz args F.code i=args.getD i []:=λi hi=>by
  rw[aRF (hcode i hi) rfl,nU]
 have hd0:HD (pW sz args F.code) N (inS oV):=⟨λi hi hn=>by
  have hi':i<oV.length:=hi
  rw[hrg i hi'];exact hd i hi' hn,λi c hc h6=>by
  obtain⟨h1,h2⟩:=mS.1 hc
  simp[inS]at h1 h2
  subst h2
  simp at h6⟩
 have hmap:(inE oV).map (λk=>pW sz args F.code k.toNat)=args:=by
  apply vT
  ·rw[nG,hel,hl]
  ·intro i h1 h2
   rw[r8]
   have e1:(inE oV)[i]'(by rw[hel];omega)=(i:Int):=by simp[inE]
   rw[e1,nU,hrg i aA,dI,cM h2];rfl
 have hx2:∀ x∈p.outs f,∀ u S'',Good oV.length S'' u->(inS oV).ext S''->pP (inS oV) 0 S'' u->wS (aH8 oV.length S'' u) (fH p 3001 u x (inE oV) S'')/\(HD (pW sz args F.code) N S''->bBX (pW sz args F.code) F N (fH p 3001 u x (inE oV) S'') (iM p sz 3001 u x args)):=λx hx u S'' a b c=>by
  have hxo:x.ok p f (inE oV).length:=by rw[hel,hla];exact hF4 x (by rw[←hF3];exact hx)
  refine⟨vS hp _ u x _ S'' f hxo aA a c.2.2.2 λy hy=>(hin y hy).ext b,λhdd=>?_⟩
  have:=aRH hp c6 C ha aA 3001 u x (inE oV) S'' f hxo aA a c.2.2.2 (λy hy=>(hin y hy).ext b) hdd
  rwa [hmap]at this
 exact aBU _ _ _ hg aA hd0 hx2 _ _ _ hX F.uH
theorem bBZ {n i k:Nat} (h:¬i=k):(aE7 n i).getD k 0=0:=by
 rw[aE7,dI,aLI h,aMO]
 split <;> rfl
theorem aC5 (n i:Nat):dW (aE7 n i):=λx hx=>by
 rcases aSE hx with hx|rfl
 ·rw[(aS6.1 hx).2];unfold oU;omega
 ·unfold oU;omega
def nF (c:List Int) (a:Nat) (sd:Int):bE:=.row 3 [[.v (.sl 1 (c.map λn=>[.int .u8 n]) false),.v (I a),.v (.int .u64 sd)]]
theorem bUR (x:Int):(0:Int)<=((BitVec.ofInt 64 x &&& BitVec.ofInt 64 255).toNat:Int)/\((BitVec.ofInt 64 x &&& BitVec.ofInt 64 255).toNat:Int)<=255:=by
 have h:(BitVec.ofInt 64 x &&& BitVec.ofInt 64 255).toNat<=255:=by
  rw[BitVec.toNat_and]
  exact aLG Nat.and_le_right cE
 omega
@[go_sem] def bGV:List Nat:=[0,2,3,13,53]
@[go_sem] def b10:Marks:=λid=>match id with|2=>([3,7],(.op 0 (.op 1 (.op 2 (.op 4 (.op 5 (.op 6 (.op 3 (.op 7 (.op 8 (.op 9 .nil)))))))))),[])|3=>([3,7,9],(.op 0 (.op 1 (.op 2 (.op 4 (.op 5 (.op 6 (.op 3 (.op 7 (.op 8 (.op 9 (.op 10 (.op 11 .nil)))))))))))),[])|6=>([3,7],(.op 0 (.op 1 (.op 2 (.op 4 (.op 5 (.op 6 (.op 3 (.op 7 (.op 8 (.op 9 .nil)))))))))),[])|_=>([],.nil,[])
theorem bQ1 {ns:Nat} {c:List Int} (hc:∀ x∈c,InB x) (hl:c.length<=4096) {a:Nat} (ha:a<=1000000000) {sd:Int} {g:aE} (hg:g ns=some (nF c a sd)) :
  jC Tryz.prog 85 [.op ns 3 0 0] g λr h'=>∃ x sd',r=I x/\0<=x/\x<=255/\h'=aR g ns (nF c (a+1) sd'):=by
 have w1:IntKind.i64.wrap ((a:Int)+1)=((a+1:Nat):Int):=by rw[IntWalk.i64_in _ aA];omega
 unfold nF at hg
 rcases bZ a c.length with hlt|hge
 ·have ea:c[a]?=some c[a]:=cM hlt
  obtain⟨b0,b1⟩:=hc _ (eI hlt)
  generalize c[a]=x at ea b0 b1
  have w2:IntKind.i64.wrap x=x:=IntWalk.i64_in _ aA
  have c1:(a<c.length)=True:=eq_true hlt
  have c2:(a+1<=c.length)=True:=eq_true hlt
  refine aP0 62 bGV dC b10 Tryz.func85 ?_
  simp -dsimp -implicitDefEqProofs only[go_sem,↓reduceIte,Tryz.f85,hg,w1,dZ,eC,eE,eF,eH,lW,dT,iI,ea,c1,c2,w2]
  rw[aO]
  exact⟨_,aE.le_refl _,x,_,rfl,b0,b1,rfl⟩
 ·have c1:(a<c.length)=False:=eq_false aA
  have c2:(a+1<=c.length)=False:=eq_false aA
  refine aP0 62 bGV dC b10 Tryz.func85 ?_
  simp -dsimp -implicitDefEqProofs only[go_sem,↓reduceIte,Tryz.f85,hg,w1,dZ,eC,eE,eF,eH,lW,dT,iI,c1,c2]
  rw[aO]
  generalize (IntKind.u64.wrap _:Int)=sd2
  obtain⟨b0,b1⟩:=bUR (sd2.fdiv (2 ^ min (Int.toNat 40) 64))
  refine⟨_,aE.le_refl _,_,sd2,rfl,?_,?_,rfl⟩
  ·rw[show IntKind.u64.bits=64 from rfl,IntWalk.u64_in _ aA,IntWalk.i64_in _ aA];exact b0
  ·rw[show IntKind.u64.bits=64 from rfl,IntWalk.u64_in _ aA,IntWalk.i64_in _ aA];exact b1
@[go_sem] def bGW:List Nat:=[0,1,4,5,7,11]
theorem wB {ns:Nat} {c:List Int} (hc:∀ x∈c,InB x) (hl:c.length<=4096) {a:Nat} (ha:a<=900000000) {sd:Int} (n:Int) (hn:n<=100000) {g:aE} (hg:g ns=some (nF c a sd)) :
  jC Tryz.prog 32 [.op ns 3 0 0,I n] g λr h'=>∃ x a' sd',r=I x/\0<=x/\(1<=n->x<n)/\(n<=1->x=0)/\(a<=a'/\a'<=a+2)/\h'=aR g ns (nF c a' sd'):=by
 by_cases h1:n<=1
 ·refine aP0 20 bGW dC cK Tryz.func32 ?_
  simp -dsimp -implicitDefEqProofs only[go_sem,↓reduceIte,Tryz.f32,h1]
  exact⟨g,aE.le_refl _,0,a,sd,rfl,aLJ _,λh=>by omega,rfl,by omega,(vX hg).symm⟩
 ·refine aP0 20 bGW dC cK Tryz.func32 ?_
  simp -dsimp -implicitDefEqProofs only[go_sem,↓reduceIte,Tryz.f32,h1]
  refine aJ.gS (bQ1 hc hl aA hg) ?_
  rintro r_ h' ⟨x,sd',rfl,x0,x1,rfl⟩
  simp -dsimp -implicitDefEqProofs only[go_sem,↓reduceIte,Tryz.f32]
  refine⟨λh2=>?_,λh2=>?_⟩
  ·refine aJ.gS (bQ1 hc hl (a:=a+1) aA (aM ..)) ?_
   rintro r_ h' ⟨y,sd2,rfl,y0,y1,rfl⟩
   simp -dsimp -implicitDefEqProofs only[go_sem,↓reduceIte,Tryz.f32]
   have e1:IntKind.i64.wrap (IntKind.i64.wrap (x*256)+y)=x*256+y:=by rw[IntWalk.i64_in (x*256) aA,IntWalk.i64_in _ aA]
   have e2:(x*256+y).tmod n=(x*256+y)%n:=zH aA
   have e3:=Int.emod_nonneg (x*256+y) (show n≠0 by omega)
   have e4:=Int.emod_lt_of_pos (x*256+y) (show 0<n by omega)
   rw[e1,e2,aO]
   exact⟨by omega,_,aE.le_refl _,_,a+1+1,sd2,rfl,e3,λ_=>e4,λq=>absurd q h1,by omega,rfl⟩
  ·have e2:x.tmod n=x%n:=zH x0
   have e3:=Int.emod_nonneg x (show n≠0 by omega)
   have e4:=Int.emod_lt_of_pos x (show 0<n by omega)
   rw[e2]
   exact⟨by omega,_,aE.le_refl _,_,a+1,sd',rfl,e3,λ_=>e4,λq=>absurd q h1,by omega,rfl⟩
theorem bB0 {ns:Nat} {c:List Int} (hc:∀ x∈c,InB x) (hl:c.length<=4096) {a:Nat} (ha:a<=900000000) {sd:Int} (n:Int) (hn:n<=100000) {g:aE} (hg:g ns=some (nF c a sd)) :
  jC Tryz.prog 33 [.op ns 3 0 0,I n] g λr h'=>∃ x a' sd',r=.bool x/\(a<=a'/\a'<=a+2)/\h'=aR g ns (nF c a' sd'):=by
 refine aP0 9 aE0 dC cK Tryz.func33 ?_
 simp -dsimp -implicitDefEqProofs only[go_sem,↓reduceIte,Tryz.f33]
 refine aJ.gS (wB hc hl ha n hn hg) ?_
 rintro r_ h' ⟨x,a',sd',rfl,-,-,-,ha',rfl⟩
 simp -dsimp -implicitDefEqProofs only[go_sem,↓reduceIte,Tryz.f33]
 exact⟨_,aE.le_refl _,_,a',sd',rfl,ha',rfl⟩
theorem b11 {ns:Nat} {c:List Int} (hc:∀ x∈c,InB x) (hl:c.length<=4096) {a:Nat} (ha:a<=900000000) {sd:Int} (l:List (List UInt8)) (bz:Bool) (h1:1<=l.length) (h2:l.length<=1000) {g:aE} (hg:g ns=some (nF c a sd)) :
  jC Tryz.prog 84 [.op ns 3 0 0,.sl 1 (l.map λs=>[.str s]) bz] g λr h'=>∃ x a' sd',r=.str x/\x∈l/\(a<=a'/\a'<=a+2)/\h'=aR g ns (nF c a' sd'):=by
 refine aP0 12 aE0 dC cK Tryz.func84 ?_
 simp -dsimp -implicitDefEqProofs only[go_sem,↓reduceIte,Tryz.f84]
 intro _
 refine aJ.gS (wB hc hl ha l.length aA hg) ?_
 rintro r_ h' ⟨x,a',sd',rfl,x0,x1,-,ha',rfl⟩
 have x1:=x1 aA
 obtain⟨k,rfl⟩:∃ k:Nat,x=k:=⟨x.toNat,by omega⟩
 have ek:l[k]?=some l[k]:=cM aA
 simp -dsimp -implicitDefEqProofs only[go_sem,↓reduceIte,Tryz.f84,ek]
 exact⟨by omega,_,aE.le_refl _,_,a',sd',rfl,eI _,ha',rfl⟩
@[go_sem] def bUS:List Nat:=[0,2,4,5,10]
theorem bUT {ns:Nat} {c:List Int} (hc:∀ x∈c,InB x) (hl:c.length<=4096) {a:Nat} (ha:a<=850000000) {sd:Int} {g:aE} (hg:g ns=some (nF c a sd)) :
  jC Tryz.prog 89 [.op ns 3 0 0] g λr h'=>∃ x a' sd',r=I x/\oU x/\(a<=a'/\a'<=a+8)/\h'=aR g ns (nF c a' sd'):=by
 refine aP0 25 bUS dC cK Tryz.func89 ?_
 simp -dsimp -implicitDefEqProofs only[go_sem,↓reduceIte,Tryz.f89]
 refine aJ.gS (wB hc hl aA 6 aA hg) ?_
 rintro r_ h' ⟨x,a1,sd1,rfl,x0,x1,-,ha1,rfl⟩
 simp -dsimp -implicitDefEqProofs only[go_sem,↓reduceIte,Tryz.f89]
 refine⟨λe0=>?_,λe0=>⟨λe1=>?_,λe1=>?_⟩⟩
 ·refine aJ.gS (wB hc hl aA 3 aA (aM ..)) ?_
  rintro r_ h' ⟨y,a2,sd2,rfl,y0,y1,-,ha2,rfl⟩
  have y1:=y1 aA
  simp -dsimp -implicitDefEqProofs only[go_sem,↓reduceIte,Tryz.f89]
  rw[aO]
  exact⟨_,aE.le_refl _,_,a2,sd2,rfl,by rw[IntWalk.i64_in _ aA];unfold oU;omega,by omega,rfl⟩
 ·refine aJ.gS (wB hc hl aA 256 aA (aM ..)) ?_
  rintro r_ h' ⟨y,a2,sd2,rfl,y0,y1,-,ha2,rfl⟩
  have y1:=y1 aA
  simp -dsimp -implicitDefEqProofs only[go_sem,↓reduceIte,Tryz.f89]
  refine aJ.gS (wB hc hl aA 256 aA (aM ..)) ?_
  rintro r_ h' ⟨z,a3,sd3,rfl,z0,z1,-,ha3,rfl⟩
  have z1:=z1 aA
  simp -dsimp -implicitDefEqProofs only[go_sem,↓reduceIte,Tryz.f89]
  refine aJ.gS (wB hc hl aA 256 aA (aM ..)) ?_
  rintro r_ h' ⟨u,a4,sd4,rfl,u0,u1,-,ha4,rfl⟩
  have u1:=u1 aA
  simp -dsimp -implicitDefEqProofs only[go_sem,↓reduceIte,Tryz.f89]
  simp only[aO]
  refine⟨_,aE.le_refl _,_,a4,sd4,rfl,?_,by omega,rfl⟩
  rw[IntWalk.i64_in (y*65536) aA,IntWalk.i64_in (z*256) aA,IntWalk.i64_in (y*65536+z*256) aA,IntWalk.i64_in _ aA,zH aA]
  unfold oU;omega
 ·refine aJ.gS (wB hc hl aA 7 aA (aM ..)) ?_
  rintro r_ h' ⟨y,a2,sd2,rfl,y0,y1,-,ha2,rfl⟩
  have y1:=y1 aA
  simp -dsimp -implicitDefEqProofs only[go_sem,↓reduceIte,Tryz.f89]
  rw[aO]
  exact⟨_,aE.le_refl _,_,a2,sd2,rfl,by unfold oU;omega,by omega,rfl⟩
def nA (ns np:Nat) (L:Int) (pl:Bool):bE:=.row 4 [[.v (.op ns 3 0 0),.v (.op np 1 0 0),.v (I L),.v (.bool pl)]]
def mL (L:Int):Nat:=(L-1).toNat
def aFC (p:aC) (np:Nat) (B:aE):Prop:=∃ es o,OR aU.o p.aD es/\B np=some (.row 1 [[.v (gW 3 p.aD.length o)]])/\(o=none->p.aD=[])/\∀ m,o=some m->B m=some (.row 3 (OV.cells es))
theorem aFC.le {p:aC} {np:Nat} {B B':aE} (h:aFC p np B) (hl:B.le B'):aFC p np B':=by
 obtain⟨es,o,h1,h2,h3,h4⟩:=h
 exact⟨es,o,h1,aE.aVV hl h2,h3,λm e=>aE.aVV hl (h4 m e)⟩
@[go_sem] def bUU:List Nat:=[0,1,4,14]
theorem a81 {ns ng np:Nat} {c:List Int} {pl:Bool} (hc:∀ x∈c,InB x) (hl:c.length<=4096) (hne:¬ns=ng) (vars:Int) (hv:vars<=1000) {B:aE} {a:Nat} {sd L:Int} (hB1:B ns=none) (hB2:B ng=none) (ha:a<=800001000) :
  jC Tryz.prog 86 [.op ng 4 0 0,I vars] (aR (aR B ns (nF c a sd)) ng (nA ns np L pl)) λr h'=>∃ k n a' sd',r=.agg [I k,I n,I 0,I 0,.bD]/\((k=1/\oU n)∨(k=2/\0<=n/\n<vars))/\(a<=a'/\a'<=a+10)/\h'=aR (aR B ns (nF c a' sd')) ng (nA ns np L pl):=by
 obtain⟨zI,bK,bL,lO⟩:=bB (show ¬ns=ng from hne)
 have hg:(aR (aR B ns (nF c a sd)) ng (nA ns np L pl)) ng=some (nA ns np L pl):=aM ..
 unfold nA at hg
 refine aP0 28 bUU dC cK Tryz.func86 ?_
 simp -dsimp -implicitDefEqProofs only[go_sem,↓reduceIte,Tryz.f86]
 intro n4 q4
 have a4:¬n4=ng:=by grind
 have b4:¬n4=ns:=by grind
 have z4:B n4=none:=by grind
 obtain⟨bMS,aF6,aF7,b5C⟩:=bB (show ¬n4=ng from a4)
 obtain⟨aKL,aF8,aF9,bJ8⟩:=bB (show ¬n4=ns from b4)
 simp -dsimp -implicitDefEqProofs only[go_sem,↓reduceIte,Tryz.f86,aF6,aF8,aF7,bL,aF9,bK,aI,aG,nA,dZ,eC,eE,eF,eH,lW,dT,iI]
 have hle:∀ X Y Z,(aR (aR B ns X) ng Y).le (aR (aR (aR B ns X) ng Y) n4 Z):=λX Y Z=>aE.bP (by rw[aI _ _ _ _ bMS,aI _ _ _ _ aKL];exact z4) (aE.le_refl _)
 refine⟨λhp=>?_,λhp=>?_⟩
 ·refine aJ.gS (bB0 (a:=a) (sd:=sd) hc hl aA 4 aA a6K) ?_
  rintro r_ h' ⟨b,a1,sd1,rfl,ha1,rfl⟩
  simp only[cH aKL,cH lO,aO]
  cases b
  ·simp -dsimp -implicitDefEqProofs only[go_sem,↓reduceIte,Tryz.f86,aF6,aF8,aF7,bL,aF9,bK,aI,aG,dZ,eC,eE,eF,eH,lW,dT,iI]
   refine aJ.gS (wB (a:=a1) (sd:=sd1) hc hl aA vars aA a6K) ?_
   rintro r_ h' ⟨x,a2,sd2,rfl,x0,x1,-,ha2,rfl⟩
   simp only[cH aKL,cH lO,aO]
   simp -dsimp -implicitDefEqProofs only[go_sem,↓reduceIte,Tryz.f86,aF6,aF8,aF7,bL,aF9,bK,aI,aG,aO,dZ,eC,eE,eF,eH,lW,dT,iI]
   exact⟨_,hle _ _ _,2,x,a2,sd2,rfl,.inr ⟨rfl,x0,x1 aA⟩,by omega,rfl⟩
  ·simp -dsimp -implicitDefEqProofs only[go_sem,↓reduceIte,Tryz.f86,aF6,aF8,aF7,bL,aF9,bK,aI,aG,dZ,eC,eE,eF,eH,lW,dT,iI]
   refine aJ.gS (bUT (a:=a1) (sd:=sd1) hc hl aA a6K) ?_
   rintro r_ h' ⟨x,a2,sd2,rfl,hx,ha2,rfl⟩
   simp only[cH aKL,cH lO,aO]
   simp -dsimp -implicitDefEqProofs only[go_sem,↓reduceIte,Tryz.f86,aF6,aF8,aF7,bL,aF9,bK,aI,aG,aO,dZ,eC,eE,eF,eH,lW,dT,iI]
   exact⟨_,hle _ _ _,1,x,a2,sd2,rfl,.inl ⟨rfl,hx⟩,by omega,rfl⟩
 ·refine aJ.gS (bUT (a:=a) (sd:=sd) hc hl aA a6K) ?_
  rintro r_ h' ⟨x,a2,sd2,rfl,hx,ha2,rfl⟩
  simp only[cH aKL,cH lO,aO]
  simp -dsimp -implicitDefEqProofs only[go_sem,↓reduceIte,Tryz.f86,aF6,aF8,aF7,bL,aF9,bK,aI,aG,aO,dZ,eC,eE,eF,eH,lW,dT,iI]
  exact⟨_,hle _ _ _,1,x,a2,sd2,rfl,.inl ⟨rfl,hx⟩,by omega,rfl⟩
theorem Shift.own {h h':aE} (e:List OV) (ho:xH h' (OV.cJ e)) (hl:h.le (jL h' (bH (OV.cJ e)))):Shift (.agg (e.map OV.val)) h' (.agg (e.map OV.pU)) h:=λE w v R rx =>
 ⟨E,(Ev.jL _).forget hl,(R.jL _).forget hl,(gC.aP1 R e v ho (λp hp=>dR.2 ⟨p.2,hp⟩) rx).sB λb hb=>qK.le hl hb⟩
def lI (l:List Int):bE:=.row 1 ((l.map λn=>[I n]).map (List.map .v))
theorem aA1 (l:List Int) (x:Int):lI (l++[x])=.row 1 (((l.map λn=>[I n]).map (List.map Cell.v))++[[.v (I x)]]):=by simp[lI]
@[go_sem] def bGX:List Nat:=[0,1,4,5,6,10]
@[go_sem] def b12:List Nat:=[7,16]
theorem aBV {ns:Nat} {c:List Int} (hc:∀ x∈c,InB x) (hl:c.length<=4096) (size:Int) (c6:size<=1000) {B:aE} (hB:B ns=none) {a:Nat} (ha:a<=800000000) {sd:Int} :
  jC Tryz.prog 35 [.op ns 3 0 0,I size] (aR B ns (nF c a sd)) λr h'=>∃ l a' sd',l.length=size.toNat/\dW l/\r=ints l/\(a<=a'/\a'<=a+8*size.toNat)/\h'=aR B ns (nF c a' sd'):=by
 refine lU 19 bGX b12 cK Tryz.func35 ?_
 simp -dsimp -implicitDefEqProofs only[go_sem,↓reduceIte,Tryz.f35]
 refine⟨by decide,?_⟩
 refine cZ bGX b12 cK (λx:List Int×Option Nat×Nat×Int=>[(0,.op ns 3 0 0),(1,I size),(5,iO 1 x.1.length x.2.1),(6,I x.1.length)]) (λx=>aR (bY B (lI x.1) x.2.1) ns (nF c x.2.2.1 x.2.2.2)) (λx=>(x.1.length<=size.toNat/\dW x.1)/\fT B x.1 x.2.1/\(∀ m,x.2.1=some m->¬m=ns)/\(a<=x.2.2.1/\x.2.2.1<=a+8*x.1.length)) (λx=>size.toNat-x.1.length) ([],none,a,sd) ⟨by simp[c4,b7,iO],aE.le_refl _,⟨fE _,λx hx=>by cases hx⟩,rfl,(λm e=>by cases e),by simp⟩ ?_
 rintro⟨l,o,a1,sd1⟩ ⟨⟨hll,hnl⟩,hos,hon,ha1⟩
 simp only at hll hnl hos hon ha1 ⊢
 simp -dsimp -implicitDefEqProofs only[go_sem,↓reduceIte,Tryz.f35]
 refine⟨λhlt=>?_,λhge=>?_⟩
 ·refine aJ.gS (bUT (a:=a1) (sd:=sd1) hc hl aA (aM ..)) ?_
  rintro r_ h' ⟨x,a2,sd2,rfl,hx,ha2,rfl⟩
  rw[aO]
  simp -dsimp -implicitDefEqProofs only[go_sem,↓reduceIte,Tryz.f35]
  refine⟨by decide,by decide,?_⟩
  have hnx:dW (l++[x]):=λy hy=>by
   rcases pJ.1 hy with hy|hy
   ·exact hnl y hy
   ·rw[jF.1 hy];exact hx
  have hstep:(l++[x]).length=l.length+1:=by simp
  cases o with
  |none =>
   rw[aZ]at hos
   subst hos
   simp -dsimp -implicitDefEqProofs only[go_sem,↓reduceIte,Tryz.f35,bM,aQ]
   refine⟨by decide,λn ⟨d1,z1⟩=>⟨([x],some n,a2,sd2),⟨rfl,IntWalk.i64_in _ aA⟩,?_,⟨⟨by simp only[u4];omega,hnx⟩,z1,λm e=>by cases e;exact d1,by show a<=a2/\a2<=a+8*1;simp only[al3]at ha1;omega⟩,by simp only[u4,al3]at hlt ⊢;omega⟩⟩
   simp only[aK]
   rw[cH d1]
   exact aE.le_refl _
  |some m0 =>
   rw[aV]at hos
   have k1:=hon m0 rfl
   obtain⟨aC6,iX,iY,aB5⟩:=bB (show ¬m0=ns from k1)
   simp -dsimp -implicitDefEqProofs only[go_sem,↓reduceIte,Tryz.f35,bC,aK,iX,iY,aI,aG,lI]
   refine⟨by decide,iH _,by omega,by omega,λb hb=>?_⟩
   have b1:¬b=ns:=by grind
   have b2:¬b=m0:=by grind
   have b3:B b=none:=by grind
   refine⟨(l++[x],some b,a2,sd2),⟨by rw[hstep];rfl,by rw[hstep,IntWalk.i64_in _ aA];rfl⟩,?_,⟨⟨by rw[hstep];omega,hnx⟩,b3,λm e=>by cases e;exact b1,by show a<=a2/\a2<=a+8*(l++[x]).length;rw[hstep];omega⟩,by show size.toNat-(l++[x]).length<_;rw[hstep];omega⟩
   simp only[aK]
   have hr:=aA1 l x
   unfold lI at hr
   rw[pQ cT,hr]
   intro q_
   simp only[aG]
   grind
 ·have he:l.length=size.toNat:=by omega
  cases o with
  |none =>
   rw[aZ]at hos
   subst hos
   exact⟨ints [],_,Shift.of (Sub.loose _ _ _) (aE.le_refl _),[],a1,sd1,he,hnl,rfl,by omega,rfl⟩
  |some m0 =>
   rw[aV]at hos
   have k1:=hon m0 rfl
   exact⟨ints l,aR B ns (nF c a1 sd1),jZ l (by rw[aI _ _ _ _ k1];exact hos) (by rw[aK,cH k1];exact aE.le_refl _) rfl,l,a1,sd1,he,hnl,rfl,by omega,rfl⟩
def a06 (x:bO) (k inp:Int):Prop :=
 (x.lB=1/\x.fA=0/\x.fB=0/\0<=x.aW/\x.aW<=inp-1)∨(x.lB=2/\x.fA=0/\x.fB=0/\oU x.aW) ∨
 ((3<=x.lB/\x.lB<=6)/\x.aW=0/\(0<=x.fA/\x.fA<=k-1)/\(0<=x.fB/\x.fB<=k-1))∨(x.lB=7/\x.aW=0/\x.fB=0/\0<=x.fA/\x.fA<=k-1)
instance (x:bO) (k inp:Int):Decidable (a06 x k inp):=by unfold a06 oU;infer_instance
def a4P (s:Int) (l:List Int):Prop:=∀ r∈l,0<=r/\r<=s-1
instance (s:Int) (l:List Int):Decidable (a4P s l):=by unfold a4P;infer_instance
def bGY (s:Int) (l:List j8):Prop:=∀ g∈l,0<=g.bBR/\g.bBR<=s-1
instance (s:Int) (l:List j8):Decidable (bGY s l):=by unfold bGY;infer_instance
def aW0 (inp:Int) (l:List bO):Prop:=∀ (k:Nat) (h:k<l.length),a06 l[k] k inp
instance (inp:Int) (l:List bO):Decidable (aW0 inp l):=by unfold aW0;infer_instance
structure u3.ok (t:u3):Prop where
 inp:0<=t.sT/\t.sT<=12
 lens:t.bW.length<=3200/\t.zY.length<=3200/\1<=t.aN.length/\t.aN.length<=12
 code:aW0 t.sT t.bW
 gds:bGY t.bW.length t.zY
 outs:a4P t.bW.length t.aN
@[go_sem] def b9G:List Nat:=[0,1,2,3,4,6,8,9,27,42,64]
@[go_sem] def b9H:List Nat:=[0,1,3]
@[go_sem] def b9I:List Nat:=[0,1,2,3,4,5,7,30,35,36,37,38,46,49,50,51,52,60]
theorem Shift.b13 {x y:aH} {h h':aE} (s:Shift x h' y h) (n:Int):Shift (.jO [x,I n]) h' (.jO [y,I n]) h:=λE w v R r=>by
 cases r with
 |jO _ vs hl hr =>
  match vs,hl with
  | [v0,v1],_ =>
   obtain⟨E',ev,R',r'⟩:=s E w v0 R (hr 0 x v0 rfl rfl)
   have h1:=hr 1 (I n) v1 rfl rfl
   cases h1
   refine⟨E',ev,R',.jO _ _ rfl λi z u hz hu=>?_⟩
   match i with
   |0=>cases hz;cases hu;exact r'
   |1=>cases hz;cases hu;exact .int _ _
   |i+2=>cases hz
def lE (l:List (List Int)):bE:=.row 1 ((l.map λs=>[ints s]).map (List.map .v))
theorem a4Q (l:List (List Int)) (s:List Int):lE (l++[s])=.row 1 (((l.map λs=>[ints s]).map (List.map Cell.v))++[[.v (ints s)]]):=by simp[lE]
theorem tB (l:List (List Int)) {k:Nat} (h:l.length=k) (s:List Int):bE.row 1 (List.take k ((l.map λs=>[ints s]).map (List.map Cell.v))++[[.v (aH.sl 1 (s.map λn=>[I n]) false)]])=lE (l++[s]):=by
 rw[a4Q,pQ (by simp[h])]
@[go_sem] def b5D:List Nat:=[0,1,2,4,6,9,10,11,12,13,20]
@[go_sem] def bMT:List Nat:=[0,1,3,4]
theorem bGZ (n:Int) {sz:Nat} (c6:1<=sz/\sz<=1048576):fM Tryz.prog 142 [I n,.ip 1 [[I ((sz:Int)-1)]] 0 0] (ints (fQ n sz)):=by
 have e1:IntKind.i64.wrap ((sz:Int)-1+1)=(sz:Int):=by rw[IntWalk.i64_in _ aA];omega
 have e2:=aJ8 (x:=[aH.int .i64 0]) c6.1
 refine iN 12 bMT dC cK Tryz.func142 λh=>?_
 simp -dsimp -implicitDefEqProofs only[go_sem,↓reduceIte,Tryz.f142,e1,nU,e2]
 refine⟨bN,by omega,by omega,by omega,λm hm=>⟨by omega,?_⟩⟩
 rw[aO,show Int.toNat 0=0 from rfl,aBF]
 exact jZ _ hm (aE.le_refl _) (s8 n sz).symm
@[go_sem] def a82:List Nat:=[0,1,2,3,5,6,7,8,9,11,12,16,17,18,19,27,28,35,48,61,74,82,91]
@[go_sem] def bQ3:List Nat:=[3,5,13,105]
@[go_sem] def bQ4:Marks:=λid=>match id with|11=>([2,4,7,9],(.op 0 (.op 1 (.op 5 (.op 6 (.op 2 (.op 3 (.op 4 (.op 7 (.op 8 (.op 9 (.op 10 (.op 11 .nil)))))))))))),[])|13=>([2,4,7,9],(.op 0 (.op 1 (.op 5 (.op 6 (.op 2 (.op 3 (.op 4 (.op 7 (.op 8 (.op 9 (.op 10 (.op 11 .nil)))))))))))),[])|15=>([2,4,7,9],(.op 0 (.op 1 (.op 5 (.op 6 (.op 2 (.op 3 (.op 4 (.op 7 (.op 8 (.op 9 (.op 10 (.op 11 .nil)))))))))))),[])|21=>([2,4,7,9],(.op 0 (.op 1 (.op 5 (.op 6 (.op 2 (.op 3 (.op 4 (.op 7 (.op 8 (.op 9 (.op 10 (.op 11 .nil)))))))))))),[])|_=>([],.nil,[])
theorem bB3 (t:u3) {sz:Nat} (c6:1<=sz/\sz<=1048576) (hins:∀ i c,t.bW[i]?=some c->cV t.sT i c) (hcl:t.bW.length<=3200) (args:List (List Int)) (ha:∀ s∈args,bV sz s) (hal:(args.length:Int)=t.sT)
  (hdiv:∀ (i:Nat) (c:bO),t.bW[i]?=some c->c.lB=6->¬(pW sz args t.bW c.fB.toNat).getD 0 0=0):fM Tryz.prog 100 [.agg t.c,b6 args,I ((sz:Int)-1)] (.jO [b6 (tP sz args t.bW t.bW.length),I 0]):=by
 rw[u3.aS]
 refine iN 109 a82 bQ3 bQ4 Tryz.func100 λh=>?_
 simp -dsimp -implicitDefEqProofs only[go_sem,↓reduceIte,Tryz.f100]
 refine⟨by decide,λ_=>?_⟩
 refine cZ a82 bQ3 bQ4 (λx:Nat×Option Nat=>[(1,b6 args),(8,iO 1 x.1 x.2),(9,.fn (.func 142) [] [.ip 1 [[I ((sz:Int)-1)]] 0 0]),(16,fN 4 bO.c t.bW),(17,I t.bW.length),(18,I x.1)]) (λx=>bY h (lE (tP sz args t.bW x.1)) x.2) (λx=>x.1<=t.bW.length/\fT h (tP sz args t.bW x.1) x.2) (λx=>t.bW.length-x.1) (0,none) ⟨by simp[c4,b7,iO],aE.le_refl _,fE _,rfl⟩ ?_
 rintro⟨k,o⟩ ⟨hk,hos⟩
 simp only at hk hos ⊢
 have hml:=qP sz args t.bW k
 rcases bZ k t.bW.length with hlt|hge
 ·have ek:t.bW[k]?=some t.bW[k]:=cM hlt
  have hin:=hins k _ ek
  have hdk:=hdiv k _ ek
  have hst:tP sz args t.bW (k+1)=tP sz args t.bW k++[opS sz args (tP sz args t.bW k) t.bW[k]]:=by
   rw[tP,show t.bW.getD k ⟨0,0,0,0⟩=t.bW[k]by rw[dI,ek];rfl]
  generalize hc:t.bW[k]=c at *
  have hconst:=bGZ c.aW c6
  generalize hR:tP sz args t.bW k=R at *
  have hgR:∀ i:Int,0<=i/\i<k->R[i.toNat]?=some (R.getD i.toNat [])/\bV sz (R.getD i.toNat []):=λi hi=>by
   refine⟨lM aA,?_⟩
   have h1:=aF5 (sz:=sz) hins ha hal i.toNat aA
   rwa [pW,aBT sz args t.bW (k:=k) aA _ aA,hR]at h1
  cases o with
  |none =>
   rw[aZ]at hos
   subst hos
   obtain rfl:k=0:=hml.symm
   simp -dsimp -implicitDefEqProofs only[go_sem,↓reduceIte,Tryz.f100,bM,aQ,hlt,ek,bO.aS]
   intro m hm
   rw[aO]
   first|refine aJ.mk (hconst) ?_|refine aF.mk (hconst) ?_|refine aJ.bA (hconst) ?_|refine aF.mk (aX.cU (hconst)) ?_
   simp -dsimp -implicitDefEqProofs only[go_sem,↓reduceIte,Tryz.f100]
   have hnext:∀ (g:aE) (b:Nat) (s:List Int),s=opS sz args [] c->h b=none->(aR h b (lE [s])).le g->∃ x':Nat×Option Nat,(aH.os b 1 0 1=iO 1 x'.1 x'.2/\IntKind.i64.wrap (((0:Nat):Int)+1)=(x'.1:Int))/\(bY h (lE (tP sz args t.bW x'.1)) x'.2).le g/\(x'.1<=t.bW.length/\fT h (tP sz args t.bW x'.1) x'.2)/\t.bW.length-x'.1<t.bW.length-0:=λg b s e z l=>by
    subst e
    exact⟨(1,some b),⟨rfl,IntWalk.i64_in _ aA⟩,by simp only[aK,hst];exact l,⟨hlt,z⟩,by simp only;omega⟩
   rcases(show c.lB=1∨c.lB=2 by unfold cV at hin;omega)with h1|h1
   ·have hn:0<=c.aW/\c.aW<args.length:=by unfold cV at hin;omega
    have ea:args[c.aW.toNat]?=some (args.getD c.aW.toNat []):=lM aA
    simp -dsimp -implicitDefEqProofs only[go_sem,↓reduceIte,Tryz.f100,h1,ea]
    refine⟨hn.1,hn.2,by decide,by decide,by decide,λb ⟨b1,b2⟩=>hnext _ b _ (by rw[opS,if_pos h1]) b2 (aE.rD (aE.bP hm (aE.le_refl _)))⟩
   ·simp -dsimp -implicitDefEqProofs only[go_sem,↓reduceIte,Tryz.f100,h1]
    refine⟨by decide,by decide,by decide,λb ⟨b1,b2⟩=>hnext _ b _ (by rw[opS,if_neg aA,if_pos h1]) b2 (aE.rD (aE.bP hm (aE.le_refl _)))⟩
  |some n =>
   rw[aV]at hos
   simp -dsimp -implicitDefEqProofs only[go_sem,↓reduceIte,Tryz.f100,bC,aK,hlt,ek,bO.aS]
   refine λm ⟨dm,zm⟩=>?_
   obtain⟨wY,gT,gU,aG1⟩:=bB (show ¬m=n from dm)
   rw[aO]
   first|refine aJ.mk (hconst) ?_|refine aF.mk (hconst) ?_|refine aJ.bA (hconst) ?_|refine aF.mk (aX.cU (hconst)) ?_
   simp -dsimp -implicitDefEqProofs only[go_sem,↓reduceIte,Tryz.f100]
   have hnext:∀ (g:aE) (b:Nat) (s:List Int),s=opS sz args R c->h b=none->(aR h b (lE (R++[s]))).le g->∃ x':Nat×Option Nat,(aH.os b 1 0 (k+1)=iO 1 x'.1 x'.2/\IntKind.i64.wrap ((k:Int)+1)=(x'.1:Int))/\(bY h (lE (tP sz args t.bW x'.1)) x'.2).le g/\(x'.1<=t.bW.length/\fT h (tP sz args t.bW x'.1) x'.2)/\t.bW.length-x'.1<t.bW.length-k:=λg b s e z l=>by
    subst e
    exact⟨(k+1,some b),⟨rfl,IntWalk.i64_in _ aA⟩,by simp only[aK,hst];exact l,⟨hlt,z⟩,by simp only;omega⟩
   have a4R:∀ X Y,h.le (aR (aR (aR h n X) m Y) n .gone):=λX Y q=>by
    by_cases e1:q=n
    ·subst e1;exact .inl hos
    by_cases e2:q=m
    ·subst e2;exact .inl zm
    rw[aI _ _ _ _ e1,aI _ _ _ _ e2,aI _ _ _ _ e1];exact .inr rfl
   rcases(show c.lB=1∨c.lB=2∨c.lB=3∨c.lB=4∨c.lB=5∨c.lB=6∨c.lB=7 by unfold cV at hin;omega)with h1|h1|h1|h1|h1|h1|h1
   ·have hn:0<=c.aW/\c.aW<args.length:=by unfold cV at hin;omega
    have ea:args[c.aW.toNat]?=some (args.getD c.aW.toNat []):=lM aA
    simp -dsimp -implicitDefEqProofs only[go_sem,↓reduceIte,Tryz.f100,h1,ea,gT,gU,aI,lE]
    refine⟨hn.1,hn.2,by decide,by decide,by decide,by omega,by omega,by omega,λb ⟨b1,b2,b3⟩=>hnext _ b _ (by rw[opS,if_pos h1]) b3 ?_⟩
    rw[tB R hml]
    exact aE.rD (a4R _ _)
   ·simp -dsimp -implicitDefEqProofs only[go_sem,↓reduceIte,Tryz.f100,h1,gT,gU,aI,lE]
    refine⟨by decide,by decide,by decide,by omega,by omega,by omega,λb ⟨b1,b2,b3⟩=>hnext _ b _ (by rw[opS,if_neg aA,if_pos h1]) b3 ?_⟩
    rw[tB R hml]
    exact aE.rD (a4R _ _)
   ·have na:=hgR c.fA aI6
    have nb:=hgR c.fB aI6
    have i0:(0<=c.fA/\c.fA<k)/\0<=c.fB/\c.fB<k:=by unfold cV at hin;omega
    have hop:3<=c.lB->opS sz args R c=opW c.lB (R.getD c.fA.toNat []) (R.getD c.fB.toNat []):=λq=>by rw[opS,if_neg aA,if_neg aA]
    have hcall:=aG0 (added (R.getD c.fA.toNat []) (R.getD c.fB.toNat []) a65 aTH (vP na.2.2) (vP nb.2.2))
    simp -dsimp -implicitDefEqProofs only[go_sem,↓reduceIte,Tryz.f100,h1,lE,na.1,nb.1,gT,gU,aI]
    refine⟨by omega,by omega,by omega,by omega,aF.mk hcall ?_⟩
    simp -dsimp -implicitDefEqProofs only[go_sem,↓reduceIte,Tryz.f100,h1,lE,gT,gU,aI]
    refine⟨by decide,by decide,by decide,by omega,by omega,by omega,λb ⟨b1,b2,b3⟩=>hnext _ b _ aZA b3 ?_⟩
    rw[tB R hml]
    exact aE.rD (a4R _ _)
   ·have na:=hgR c.fA aI6
    have nb:=hgR c.fB aI6
    have i0:(0<=c.fA/\c.fA<k)/\0<=c.fB/\c.fB<k:=by unfold cV at hin;omega
    have hop:3<=c.lB->opS sz args R c=opW c.lB (R.getD c.fA.toNat []) (R.getD c.fB.toNat []):=λq=>by rw[opS,if_neg aA,if_neg aA]
    have hcall:=reduced (R.getD c.fA.toNat []) (R.getD c.fB.toNat []) a65 aTH na.2.2 nb.2.2
    simp -dsimp -implicitDefEqProofs only[go_sem,↓reduceIte,Tryz.f100,h1,lE,na.1,nb.1,gT,gU,aI]
    refine⟨by omega,by omega,by omega,by omega,aF.mk hcall ?_⟩
    simp -dsimp -implicitDefEqProofs only[go_sem,↓reduceIte,Tryz.f100,h1,lE,gT,gU,aI]
    refine⟨by decide,by decide,by decide,by omega,by omega,by omega,λb ⟨b1,b2,b3⟩=>hnext _ b _ aZA b3 ?_⟩
    rw[tB R hml]
    exact aE.rD (a4R _ _)
   ·have na:=hgR c.fA aI6
    have nb:=hgR c.fB aI6
    have i0:(0<=c.fA/\c.fA<k)/\0<=c.fB/\c.fB<k:=by unfold cV at hin;omega
    have hop:3<=c.lB->opS sz args R c=opW c.lB (R.getD c.fA.toNat []) (R.getD c.fB.toNat []):=λq=>by rw[opS,if_neg aA,if_neg aA]
    have hcall:=product (R.getD c.fA.toNat []) (R.getD c.fB.toNat []) a65 aTH na.2.2 nb.2.2
    simp -dsimp -implicitDefEqProofs only[go_sem,↓reduceIte,Tryz.f100,h1,lE,na.1,nb.1,gT,gU,aI]
    refine⟨by omega,by omega,by omega,by omega,aF.mk hcall ?_⟩
    simp -dsimp -implicitDefEqProofs only[go_sem,↓reduceIte,Tryz.f100,h1,lE,gT,gU,aI]
    refine⟨by decide,by decide,by decide,by omega,by omega,by omega,λb ⟨b1,b2,b3⟩=>hnext _ b _ aZA b3 ?_⟩
    rw[tB R hml]
    exact aE.rD (a4R _ _)
   ·have na:=hgR c.fA aI6
    have nb:=hgR c.fB aI6
    have i0:(0<=c.fA/\c.fA<k)/\0<=c.fB/\c.fB<k:=by unfold cV at hin;omega
    have hop:3<=c.lB->opS sz args R c=opW c.lB (R.getD c.fA.toNat []) (R.getD c.fB.toNat []):=λq=>by rw[opS,if_neg aA,if_neg aA]
    have hcall:=quotient (R.getD c.fA.toNat []) (R.getD c.fB.toNat []) a65 aTH aTH na.2.2 nb.2.2
    have hz:¬(R.getD c.fB.toNat []).getD 0 0=0:=by
     have h2:=hdk h1
     rwa [pW,aBT sz args t.bW (k:=k) aA _ aA,hR]at h2
    have gz:(R.getD c.fB.toNat [])[Int.toNat 0]?=some ((R.getD c.fB.toNat []).getD 0 0):=cI (by rw[nb.2.1];exact c6.1)
    have lz:=nb.2.1
    simp -dsimp -implicitDefEqProofs only[go_sem,↓reduceIte,Tryz.f100,h1,lE,na.1,nb.1,gz,hz,gT,gU,aI]
    refine⟨by omega,by omega,by rw[lz];omega,by omega,by omega,by omega,by omega,aF.mk hcall ?_⟩
    simp -dsimp -implicitDefEqProofs only[go_sem,↓reduceIte,Tryz.f100,h1,lE,gT,gU,aI]
    refine⟨by decide,by decide,by decide,by omega,by omega,by omega,λb ⟨b1,b2,b3⟩=>hnext _ b _ aZA b3 ?_⟩
    rw[tB R hml]
    exact aE.rD (a4R _ _)
   ·have na:=hgR c.fA aI6
    have hop:3<=c.lB->opS sz args R c=opW c.lB (R.getD c.fA.toNat []) (R.getD c.fB.toNat []):=λq=>by rw[opS,if_neg aA,if_neg aA]
    have i0:0<=c.fA/\c.fA<k:=by unfold cV at hin;omega
    have hcall:=scaled (R.getD c.fA.toNat []) 1000002 pK aTH na.2.2
    simp -dsimp -implicitDefEqProofs only[go_sem,↓reduceIte,Tryz.f100,h1,lE,na.1,gT,gU,aI]
    refine⟨by omega,by omega,aJ.mk hcall ?_⟩
    simp -dsimp -implicitDefEqProofs only[go_sem,↓reduceIte,Tryz.f100,h1,lE,gT,gU,aI]
    refine⟨by decide,by decide,by decide,by omega,by omega,by omega,λb ⟨b1,b2,b3⟩=>hnext _ b _ aZA b3 ?_⟩
    rw[tB R hml]
    exact aE.rD (a4R _ _)
 ·have hk':k=t.bW.length:=by omega
  subst hk'
  cases o with
  |none =>
   rw[aZ]at hos
   simp -dsimp -implicitDefEqProofs only[go_sem,↓reduceIte,Tryz.f100,bM,aQ,bX,dB]
   rw[hos]
   exact Shift.of (Sub.jO (.cons (Sub.loose _ _ _) (.cons (.refl _) .nil))) (aE.le_refl _)
  |some n =>
   rw[aV]at hos
   simp -dsimp -implicitDefEqProofs only[go_sem,↓reduceIte,Tryz.f100,bC,aK,bX,dB]
   have h1:=tM (tP sz args t.bW t.bW.length) hos (aE.le_refl _) hml.symm
   exact h1.b13 0
def zrL (sz:Nat):List Int:=List.replicate sz 0
def aAW (r:Int) (s:List Int) (A:List (List Int)):List (List Int):=A.set r.toNat (iK (A.getD r.toNat []) s)
def qQ (c:bO) (rg:List (List Int)) (k:Nat) (A:List (List Int)):List (List Int) :=
 if c.lB=3 then aAW c.fB (A.getD k []) (aAW c.fA (A.getD k []) A)
 else if c.lB=4 then aAW c.fB (iE (A.getD k []) 1000002) (aAW c.fA (A.getD k []) A)
 else if c.lB=5 then aAW c.fB (mulL (A.getD k []) (rg.getD c.fA.toNat [])) (aAW c.fA (mulL (A.getD k []) (rg.getD c.fB.toNat [])) A)
 else if c.lB=6 then aAW c.fB (iE (mulL (lV (A.getD k []) (rg.getD c.fB.toNat [])) (rg.getD k [])) 1000002) (aAW c.fA (lV (A.getD k []) (rg.getD c.fB.toNat [])) A)
 else if c.lB=7 then aAW c.fA (iE (A.getD k []) 1000002) A
 else A
def xO (code:List bO) (rg A:List (List Int)):Nat->Nat->List (List Int)
 |0,_=>A
 |n+1,j=>qQ (code.getD j ⟨0,0,0,0⟩) rg j (xO code rg A n (j+1))
def yS (outs ws:List Int) (A:List (List Int)):Nat->List (List Int)
 |0=>A
 |k+1=>(yS outs ws A k).set (outs.getD k 0).toNat (((yS outs ws A k).getD (outs.getD k 0).toNat []).set 0 ((((yS outs ws A k).getD (outs.getD k 0).toNat []).getD 0 0+ws.getD k 0)%1000003))
def gF (sz n:Nat) (A:List (List Int)):Prop:=A.length=n/\∀ s∈A,bV sz s
theorem gF.get {sz n:Nat} {A:List (List Int)} (h:gF sz n A) {i:Nat} (hi:i<n):A[i]?=some (A.getD i [])/\bV sz (A.getD i []):=by
 have h1:=lM (env:=A) (i:=i) (by rw[h.1];exact hi)
 exact⟨h1,h.2 _ (nO h1)⟩
theorem gF.set {sz n:Nat} {A:List (List Int)} (h:gF sz n A) {s:List Int} (hs:bV sz s) (i:Nat):gF sz n (A.set i s):=⟨by rw[aU6];exact h.1,λx hx=>by
 rcases aSE hx with hx|rfl
 ·exact h.2 x hx
 ·exact hs⟩
theorem gF.put {sz n:Nat} {A:List (List Int)} (h:gF sz n A) {r:Int} (hr:r.toNat<n) {s:List Int} (hs:bV sz s):gF sz n (aAW r s A):=h.set (kX (h.get hr).2 hs) _
theorem aUB (A:List (List Int)) (k:Nat) (s:List Int):bE.row 1 (((A.map λs=>[ints s]).map (List.map Cell.v)).set k [.v (ints s)])=lE (A.set k s):=by
 rw[lE,List.map_set,List.map_set];rfl
@[go_sem] def b14:Marks:=λid=>match id with|0=>([0,2,5,9],(.op 1 (.op 3 (.op 6 (.op 0 (.op 2 (.op 4 (.op 5 (.op 7 (.op 8 (.op 9 .nil)))))))))),[])|_=>([],.nil,[])
theorem aW1 {sz n:Nat} (c6:1<=sz/\sz<=1048576) {A:List (List Int)} (hA:gF sz n A) {r:Int} (hr:0<=r/\r<n) {s:List Int} (hs:bV sz s) {g:aE} {nb b:Nat} (hb:g nb=some (.row 1 [[.v (.os b 1 0 n)]])) (hg:g b=some (lE A)) :
  jC Tryz.prog 147 [I r,ints s,.op nb 1 0 0] g λr_ h'=>h'=aR g b (lE (aAW r s A)):=by
 have hq:=hA.get (i:=r.toNat) aA
 have hcall:=aG0 (added (A.getD r.toNat []) s (by rw[hs.1,hq.2.1]) (by rw[hq.2.1];omega) (vP hq.2.2) (vP hs.2))
 unfold lE at hg
 refine aP0 14 bQH dC b14 Tryz.func147 ?_
 simp -dsimp -implicitDefEqProofs only[go_sem,↓reduceIte,Tryz.f147,hb,hg,hq.1]
 refine⟨hr.1,hr.2,aF.mk hcall ?_⟩
 simp -dsimp -implicitDefEqProofs only[go_sem,↓reduceIte,Tryz.f147,hb,hg,hq.1]
 exact⟨hr.1,hr.2,_,by have h1:=aUB A r.toNat (iK (A.getD r.toNat []) s);rw[h1];exact aE.le_refl _,rfl⟩
theorem bG0 {b sz:Nat}:∀ (N:List Nat) (A pre:List (List Int)) (g:aE),N.length=A.length->N.Nodup->(∀ k n,N[k]?=some n->g n=some (lI (A.getD k []))/\¬n=b)->(∀ s∈A,s.length=sz)->g b=some (.row 1 ((pre.map λs=>[ints s]).map (List.map .v)++(N.map λn=>[aH.os n 1 0 sz]).map (List.map .v))) ->
  ∃ g':aE,g'.wk g/\g' b=some (lE (pre++A))/\∀ q,¬q=b->q∉N->g' q=g q
 | [],[],pre,g,_,_,_,_,hb=>⟨g,aE.kE (aE.le_refl _),by rw[hb,dT,sX,sX,dT];rfl,λ_ _ _=>rfl⟩
 | [],_::_,_,_,h,_,_,_,_=>by simp at h
 | _::_,[],_,_,h,_,_,_,_=>by simp at h
 |n::N,s::A,pre,g,hl,hnd,hN,hs,hb=>by
  obtain⟨hn,hnb⟩:=hN 0 n rfl
  rw[show(s::A).getD 0 []=s from rfl]at hn
  have hsl:=hs s (.head _)
  have hnn:n∉N:=(aMN.1 hnd).1
  have hat:∀ (es:List (List Cell)) i j x,kA es i j=some x->∃ e∈es,x∈e:=λes i j x hx=>by
   obtain⟨e,h1,h2⟩:=lG hx
   exact⟨e,nO h1,nO h2⟩
  have hw:=aE.aKD (m:=n) (b:=b) hn hb (l5 hnb) (λi j x hx=>by
   obtain⟨e,he,hxe⟩:=hat _ i j _ hx
   rcases pJ.1 he with he|he
   ·obtain⟨e1,h1,rfl⟩:=qU.1 he
    obtain⟨r,_,rfl⟩:=qU.1 h1
    simp only[nZ,sX,jF,Cell.v.injEq]at hxe
    subst hxe;rfl
   ·obtain⟨e1,h1,rfl⟩:=qU.1 he
    obtain⟨r,_,rfl⟩:=qU.1 h1
    simp only[nZ,sX,jF,Cell.v.injEq]at hxe
    subst hxe
    simp[gA,hsl])
  have hrow:(((pre.map λs=>[ints s]).map (List.map Cell.v)++((n::N).map λn=>[aH.os n 1 0 sz]).map (List.map Cell.v))).map (List.map (Cell.sH n (fO ((s.map λn=>[I n]).map (List.map Cell.v)))))=((pre++[s]).map λs=>[ints s]).map (List.map .v)++(N.map λn=>[aH.os n 1 0 sz]).map (List.map .v):=by
   rw[a0S,kS,kS,kS,aD6]
   congr 1
   ·simp only[aD7]
    exact aG7 λr _=>rfl
   ·rw[nZ,nZ,nZ]
    show _::_=[_]++_
    rw[List.singleton_append]
    congr 1
    ·simp only[nZ,sX,Cell.sH,aH.eM,if_true,aG8]
     rw[pQ (by rw[nG,hsl];exact iH _)]
    ·simp only[aD7]
     refine aG7 λr hr=>?_
     have h1:¬r=n:=λe=>hnn (e▸hr)
     simp[Cell.sH,aH.eM,h1]
  rw[hrow]at hw
  obtain⟨g',w1,w2,w3⟩:=bG0 N A (pre++[s]) (aR (aR g n .gone) b (.row 1 (((pre++[s]).map λs=>[ints s]).map (List.map Cell.v)++(N.map λn=>[aH.os n 1 0 sz]).map (List.map Cell.v)))) aLO (aMN.1 hnd).2 (λk m hm=>by
   have h1:=hN (k+1) m (by simpa using hm)
   have h2:¬m=n:=λe=>hnn (e▸nO hm)
   refine⟨?_,h1.2⟩
   rw[aI _ _ _ _ h1.2,aI _ _ _ _ h2]
   simpa using h1.1) (λx hx=>hs x (.tail _ hx)) (aM _ _ _)
  refine⟨g',w1.trans hw,by rw[w2,aD6];rfl,λq h1 h2=>?_⟩
  have h3:¬q=n:=λe=>h2 (e▸.head _)
  rw[w3 q h1 λh=>h2 (.tail _ h),aI _ _ _ _ h1,aI _ _ _ _ h3]
theorem bB4 {sz n:Nat} (c6:1<=sz) {inp:Int} {k:Nat} (hk:k<n) {c:bO} (hc:cV inp k c) {rg:List (List Int)} (hrg:gF sz n rg) {A:List (List Int)} (hA:gF sz n A):gF sz n (qQ c rg k A):=by
 have h0:=(hA.get hk).2
 unfold cV at hc
 unfold qQ
 have hr:∀ x:Int,0<=x/\x<k->bV sz (rg.getD x.toNat []):=λx hx=>(hrg.get aA).2
 by_cases h3:c.lB=3
 ·rw[if_pos h3];exact(hA.put aA h0).put aA h0
 rw[if_neg h3]
 by_cases h4:c.lB=4
 ·rw[if_pos h4];exact(hA.put aA h0).put aA (eO _ h0)
 rw[if_neg h4]
 by_cases h5:c.lB=5
 ·rw[if_pos h5];exact(hA.put aA (fR _ h0)).put aA (fR _ h0)
 rw[if_neg h5]
 by_cases h6:c.lB=6
 ·rw[if_pos h6];exact(hA.put aA (tL _ h0)).put aA (eO _ (fR _ (tL _ h0)))
 rw[if_neg h6]
 by_cases h7:c.lB=7
 ·rw[if_pos h7];exact hA.put aA (eO _ h0)
 ·rw[if_neg h7];exact hA
theorem yT {sz:Nat} (c6:1<=sz/\sz<=1048576) {inp:Int} {code:List bO} (hins:∀ i c,code[i]?=some c->cV inp i c) {rg:List (List Int)} (hrg:gF sz code.length rg) {A:List (List Int)} (hA:gF sz code.length A):∀ n j,n+j=code.length->gF sz code.length (xO code rg A n j)
 |0,_,_=>hA
 |n+1,j,h=>by
  have ec:code[j]?=some code[j]:=cM aA
  rw[xO,show code.getD j ⟨0,0,0,0⟩=code[j]by rw[dI,ec];rfl]
  exact bB4 c6.1 aA (hins j _ ec) hrg (yT c6 hins hrg hA n (j+1) aA)
structure aIE (h:aE) (nb b sz:Nat) (N:List Nat) (A:List (List Int)) (g:aE):Prop where
 ser:gF sz N.length A
 nodup:N.Nodup
 out:∀ n∈N,¬n=nb/\¬n=b/\h n=none
 get:∀ k n,N[k]?=some n->g n=some (lI (A.getD k []))
 bk:g b=some (.row 1 ((N.map λn=>[aH.os n 1 0 sz]).map (List.map .v)))
 nbk:g nb=some (.row 1 [[.v (.os b 1 0 N.length)]])
 keep:∀ q o,h q=some o->g q=some o
 bn:h b=none/\h nb=none/\¬b=nb
theorem aIF (sz:Nat):bV sz (zrL sz):=⟨by simp[zrL],λx hx=>by rw[(aS6.1 hx).2];unfold oU;omega⟩
theorem aW2 (sz:Nat):bE.row 1 ((List.replicate sz [aH.int IntKind.i64 0]).map (List.map .v))=lI (zrL sz):=by rw[lI,zrL];simp[List.map_replicate]
theorem aIE.first {h:aE} {nb n b sz:Nat} (hn:h nb=none) (n1:¬n=nb) (n2:h n=none) (b1:¬b=n) (b2:¬b=nb) (b3:h b=none) {X:bE} :
  aIE h nb b sz [n] [zrL sz] (aR (aR (aR (aR h nb X) n (lI (zrL sz))) b (.row 1 [[.v (.os n 1 0 sz)]])) nb (.row 1 [[.v (.os b 1 0 1)]])):=by
 refine⟨⟨rfl,λs hs=>by rw[jF.1 hs];exact aIF sz⟩,by simp,λm hm=>by rw[jF.1 hm];exact⟨n1,l5 b1,n2⟩,λk m hk=>?_,?_,aM _ _ _,λq o hq=>?_,b3,hn,b2⟩
 ·match k with
  |0 =>
   cases hk
   rw[aI _ _ _ _ n1,aI _ _ _ _ (l5 b1),aM];rfl
  |k+1=>cases hk
 ·rw[aI _ _ _ _ b2,aM];rfl
 ·rw[aI _ _ _ _ (λe=>by rw[e,hn]at hq;cases hq),aI _ _ _ _ (λe=>by rw[e,b3]at hq;cases hq),aI _ _ _ _ (λe=>by rw[e,n2]at hq;cases hq),aI _ _ _ _ (λe=>by rw[e,hn]at hq;cases hq)];exact hq
theorem aIE.free {h g:aE} {nb b sz:Nat} {N:List Nat} {A:List (List Int)} (H:aIE h nb b sz N A g) {n:Nat} (hn:g n=none):¬n=nb/\¬n=b/\n∉N/\h n=none:=by
 refine⟨(λe=>by rw[e,H.nbk]at hn;cases hn),(λe=>by rw[e,H.bk]at hn;cases hn),λe=>?_,?_⟩
 ·obtain⟨k,hk,ek⟩:=aD8.1 e
  have:=H.get k n (by rw[cM hk,ek])
  rw[this]at hn;cases hn
 ·cases hq:h n with
  |none=>rfl
  |some o=>rw[H.keep n o hq]at hn;cases hn
theorem aIE.more {h g:aE} {nb b sz:Nat} {N:List Nat} {A:List (List Int)} (H:aIE h nb b sz N A g) {n b':Nat} (hn:g n=none) (b1:¬b'=n) (hb:g b'=none) :
  aIE h nb b' sz (N++[n]) (A++[zrL sz]) (aR (aR (aR (aR g n (lI (zrL sz))) b .gone) b' (.row 1 ((N.map λn=>[aH.os n 1 0 sz]).map (List.map .v)++[[.v (.os n 1 0 sz)]]))) nb (.row 1 [[.v (.os b' 1 0 (N.length+1))]])):=by
 obtain⟨f1,f2,f3,f4⟩:=H.free hn
 obtain⟨e1,e2,e3,e4⟩:=H.free hb
 obtain⟨g1,g2,g3⟩:=H.bn
 have hl:=H.ser.1
 refine⟨⟨by simp[hl],λs hs=>?_⟩,?_,λm hm=>?_,λk m hk=>?_,?_,?_,λq o hq=>?_,e4,g2,e1⟩
 ·rcases pJ.1 hs with hs|hs
  ·exact H.ser.2 s hs
  ·rw[jF.1 hs];exact aIF sz
 ·rw[aMM]
  exact⟨H.nodup,by simp,λx hx y hy e=>by rw[jF.1 hy]at e;exact f3 (e▸hx)⟩
 ·rcases pJ.1 hm with hm|hm
  ·have:=H.out m hm
   exact⟨this.1,λe=>e3 (e▸hm),this.2.2⟩
  ·rw[jF.1 hm]
   exact⟨f1,l5 b1,f4⟩
 ·rcases bZ k N.length with h1|h1
  ·rw[uU h1]at hk
   have hmem:=nO hk
   have ho:=H.out m hmem
   rw[aI _ _ _ _ ho.1,aI _ _ _ _ (λe=>e3 (by rw[←e];exact hmem)),aI _ _ _ _ ho.2.1,aI _ _ _ _ (λe=>f3 (by rw[←e];exact hmem)),H.get k m hk,dI,dI,uU aA]
  ·rw[wZ h1]at hk
   have h2:k-N.length=0:=by
    rcases bC8 (k-N.length)with q|q
    ·exact q
    ·rw[a2L (by rw[u4];exact q)]at hk;cases hk
   rw[h2]at hk
   cases hk
   rw[aI _ _ _ _ f1,aI _ _ _ _ (l5 b1),aI _ _ _ _ f2,aM,dI,wZ aA,show k-A.length=0 by omega];rfl
 ·rw[aI _ _ _ _ e1,aM,kS,kS];rfl
 ·rw[aM,mV];rfl
 ·have hgq:=H.keep q o hq
  rw[aI _ _ _ _ (λe=>by rw[e,g2]at hq;cases hq),aI _ _ _ _ (λe=>by rw[e,e4]at hq;cases hq),aI _ _ _ _ (λe=>by rw[e,g1]at hq;cases hq),aI _ _ _ _ (λe=>by rw[e,f4]at hq;cases hq)];exact hgq
theorem aIE.set {h g:aE} {nb b sz:Nat} {N:List Nat} {A:List (List Int)} (H:aIE h nb b sz N A g) {r n:Nat} (hr:N[r]?=some n) {s:List Int} (hs:bV sz s):aIE h nb b sz N (A.set r s) (aR g n (lI s)):=by
 have hrl:r<N.length:=(mS.1 hr).1
 have hl:=H.ser.1
 have ho:=H.out n (nO hr)
 refine⟨H.ser.set hs r,H.nodup,H.out,λk m hk=>?_,?_,?_,λq o hq=>?_,H.bn⟩
 ·by_cases e:k=r
  ·subst e
   rw[hr]at hk
   cases hk
   rw[aM,dI,aLH aA];rfl
  ·have hne:¬m=n:=λq=>by
    subst q
    have hkl:k<N.length:=(mS.1 hk).1
    exact e ((List.getElem?_inj hkl H.nodup).1 (hk.trans hr.symm))
   rw[aI _ _ _ _ hne,H.get k m hk,dI,dI,aLI (l5 e)]
 ·rw[aI _ _ _ _ (l5 ho.2.1)];exact H.bk
 ·rw[aI _ _ _ _ (l5 ho.1)];exact H.nbk
 ·rw[aI _ _ _ _ (λe=>by rw[e,ho.2.2]at hq;cases hq)];exact H.keep q o hq
theorem aIE.seal {h g:aE} {nb b sz:Nat} {N:List Nat} {A:List (List Int)} (H:aIE h nb b sz N A g):(aR (aR h nb (.row 1 [[.v (.os b 1 0 N.length)]])) b (lE A)).wk g:=by
 obtain⟨g',w1,w2,w3⟩:=bG0 (b:=b) (sz:=sz) N A [] g H.ser.1.symm H.nodup (λk n hk=>⟨H.get k n hk,(H.out n (nO hk)).2.1⟩) (λs hs=>(H.ser.2 s hs).1) H.bk
 refine aE.wk.trans (aE.kE λq=>?_) w1
 by_cases e:q=b
 ·subst e;rw[aM];exact .inr w2.symm
 rw[aI _ _ _ _ e]
 by_cases e2:q=nb
 ·subst e2
  rw[aM,w3 q e λhq=>(H.out q hq).1 rfl];exact .inr H.nbk.symm
 rw[aI _ _ _ _ e2]
 cases hq:h q with
 |none=>exact .inl rfl
 |some o =>
  right
  rw[w3 q e λhn=>by rw[(H.out q hn).2.2]at hq;cases hq]
  exact(H.keep q o hq).symm
@[go_sem] def aOB:List Nat:=[0,1,2,3,6,7,9,10,11,12,13,14,15,16,18,19,20,21,32,33,34,35,61,75,76,88,101,125,150]
@[go_sem] def a83:List Nat:=[3,17,28]
@[go_sem] def a84:Marks:=λid=>match id with|5=>([0,2,3,5,6],(.op 1 (.op 0 (.op 2 (.op 3 (.op 4 (.op 5 (.op 6 .nil))))))),[(0,2),(0,3)])|10=>([0,3,4,7,9,13,14,16],(.op 1 (.op 5 (.op 10 (.op 11 (.op 12 (.op 0 (.op 2 (.op 3 (.op 4 (.op 6 (.op 7 (.op 8 (.op 9 (.op 13 (.op 14 (.op 15 (.op 16 .nil))))))))))))))))),[(0,14),(3,14)])|15=>([1,4,5,8,9,10],(.op 0 (.op 2 (.op 6 (.op 1 (.op 3 (.op 4 (.op 5 (.op 7 (.op 8 (.op 9 (.op 10 (.op 11 .nil)))))))))))),[(1,9),(4,9),(5,9),(5,10),(8,9),(8,10)])|23=>([2,4,5],(.op 0 (.op 1 (.op 3 (.op 2 (.op 4 (.op 5 .nil)))))),[(2,4)])|25=>([2,6,8,9,10],(.op 0 (.op 1 (.op 3 (.op 4 (.op 5 (.op 2 (.op 6 (.op 7 (.op 8 (.op 9 (.op 10 .nil))))))))))),[(2,9)])|26=>([2,6,8,9,10],(.op 0 (.op 1 (.op 3 (.op 4 (.op 5 (.op 2 (.op 6 (.op 7 (.op 8 (.op 9 (.op 10 .nil))))))))))),[(2,9)])|30=>([2,7,8,9,10],(.op 0 (.op 1 (.op 3 (.op 4 (.op 5 (.op 6 (.op 2 (.op 7 (.op 8 (.op 9 (.op 10 .nil))))))))))),[(2,8),(2,9)])|32=>([2,4,5],(.op 0 (.op 1 (.op 3 (.op 2 (.op 4 (.op 5 .nil)))))),[(2,4)])|_=>([],.nil,[])
set_option maxHeartbeats 4000000 in
theorem bG1 (t:u3) {sz:Nat} (c6:1<=sz/\sz<=1048576) (hins:∀ i c,t.bW[i]?=some c->cV t.sT i c) (hcl:1<=t.bW.length/\t.bW.length<=3200) (rg:List (List Int)) (hrg:gF sz t.bW.length rg) (ws:List Int) (hws:ws.length=t.aN.length) (hwn:dW ws) (hol:t.aN.length<=100) (ho:∀ r∈t.aN,0<=r/\r<t.bW.length) :
  fM Tryz.prog 103 [.agg t.c,b6 rg,ints ws] (b6 (xO t.bW rg (yS t.aN ws (List.replicate t.bW.length (zrL sz)) t.aN.length) t.bW.length 0)):=by
 rw[u3.aS]
 refine iN 159 aOB a83 a84 Tryz.func103 λh=>?_
 simp -dsimp -implicitDefEqProofs only[go_sem,↓reduceIte,Tryz.f103]
 refine⟨by decide,λnb hnb hlc=>?_⟩
 rw[aO]
 have hrl:rg.length=t.bW.length:=hrg.1
 refine cZ aOB a83 a84 (λx:Nat×aE=>[(1,b6 rg),(2,ints ws),(3,.ip 4 [[I t.sT,fN 4 bO.c t.bW,fN 2 j8.c t.zY,ints t.aN]] 0 0),(7,.op nb 1 0 0),(18,b6 rg),(19,I rg.length),(20,I x.1)]) (λx=>x.2) (λx=>x.1<=t.bW.length/\((x.1=0/\x.2=aR h nb (.row 1 [[.v (.sl 1 [] true)]]))∨∃ b N,N.length=x.1/\aIE h nb b sz N (List.replicate x.1 (zrL sz)) x.2)) (λx=>t.bW.length-x.1) (0,aR h nb (.row 1 [[.v (.sl 1 [] true)]])) ⟨by simp[c4,b7],aE.le_refl _,fE _,.inl ⟨rfl,rfl⟩⟩ ?_
 rintro⟨k,g⟩ ⟨hk,hg⟩
 simp only at hk hg ⊢
 rcases bZ k t.bW.length with hlt|hge
 ·have er:=hrg.get hlt
  have lr:=er.2.1
  rcases hg with⟨rfl,rfl⟩|⟨b,N,hN,H⟩
  ·simp -dsimp -implicitDefEqProofs only[go_sem,↓reduceIte,Tryz.f103,er.1,hrl,hlt,lr]
   refine λ_=>⟨by decide,iH _,by omega,by omega,λn ⟨n1,n2⟩=>?_⟩
   obtain⟨wR,fK,fL,p6⟩:=bB (show ¬n=nb from n1)
   refine⟨by rw[aI _ _ _ _ p6,aM],by decide,by decide,by decide,λb ⟨b1,b2,b3⟩=>?_⟩
   obtain⟨mY,dP,dO,kY⟩:=bB (show ¬b=nb from b2)
   obtain⟨yO,dM,dN,aDY⟩:=bB (show ¬b=n from b1)
   simp -dsimp -implicitDefEqProofs only[go_sem,↓reduceIte,Tryz.f103,fK,dN,fL,dO,dM,dP,aI,aG,aW2]
   exact⟨(1,_),⟨hrl.symm,IntWalk.i64_in _ aA⟩,aE.le_refl _,⟨hlt,.inr ⟨b,[n],rfl,aIE.first hnb n1 n2 b1 b2 b3⟩⟩,by simp only;omega⟩
  ·have hb:=H.bk
   have hnb:=H.nbk
   simp -dsimp -implicitDefEqProofs only[go_sem,↓reduceIte,Tryz.f103,er.1,hrl,hlt,lr,hnb,hb]
   refine λ_=>⟨by decide,iH _,by omega,by omega,λn n2=>?_⟩
   obtain⟨f1,f2,f3,f4⟩:=H.free n2
   obtain⟨wR,fK,fL,p6⟩:=bB (show ¬n=nb from f1)
   obtain⟨aDY,dN,dM,yO⟩:=bB (show ¬n=b from f2)
   refine⟨by rw[aI _ _ _ _ p6];exact hnb,by decide,by decide,by decide,?_⟩
   obtain⟨mY,dP,dO,kY⟩:=bB (show ¬b=nb from H.bn.2.2)
   simp -dsimp -implicitDefEqProofs only[go_sem,↓reduceIte,Tryz.f103,fK,dN,fL,dO,dM,dP,aI,hnb,hb]
   refine⟨iH _,by omega,by omega,λc ⟨c1,c2⟩=>?_⟩
   obtain⟨x1,x2,x3,x4⟩:=H.free c2
   obtain⟨b9J,bUV,bUW,b9K⟩:=bB (show ¬c=nb from x1)
   obtain⟨b16,bQ5,bQ6,b17⟩:=bB (show ¬c=b from x2)
   obtain⟨cCX,b18,b19,cCY⟩:=bB (show ¬c=n from c1)
   simp -dsimp -implicitDefEqProofs only[go_sem,↓reduceIte,Tryz.f103,fK,dN,b19,fL,dO,bUW,dM,dP,bQ6,b18,bUV,bQ5,aI,hnb,hb,aW2]
   rw[pQ cT]
   exact⟨(k+1,_),⟨hrl.symm,IntWalk.i64_in _ aA⟩,aE.le_refl _,⟨hlt,.inr ⟨c,N++[n],by rw[mV,hN];rfl,by rw[List.replicate_succ'];exact H.more n2 c1 c2⟩⟩,by simp only;omega⟩
 ·have hk':k=t.bW.length:=by omega
  subst hk'
  rcases hg with⟨h0,_⟩|⟨b,N,hN,H⟩
  ·omega
  simp -dsimp -implicitDefEqProofs only[go_sem,↓reduceIte,Tryz.f103,hrl,bX,dB]
  refine λ_=>?_
  clear hk hge
  have hsw:∀ k,k<=t.aN.length->gF sz t.bW.length (yS t.aN ws (List.replicate t.bW.length (zrL sz)) k):=λk=>by
   induction k with
   |zero=>exact λ_=>hN▸H.ser
   |succ k ih =>
    intro hk
    have h1:=ih aA
    have hr:=ho (t.aN.getD k 0) bDN
    have h2:=(h1.get (i:=(t.aN.getD k 0).toNat) aA).2
    refine h1.set ⟨by rw[aU6];exact h2.1,λx hx=>?_⟩ _
    rcases aSE hx with hx|rfl
    ·exact h2.2 x hx
    ·exact nY _
  refine cZ aOB a83 a84 (λx:Nat×aE=>[(1,b6 rg),(2,ints ws),(3,.ip 4 [[I t.sT,fN 4 bO.c t.bW,fN 2 j8.c t.zY,ints t.aN]] 0 0),(7,.op nb 1 0 0),(32,ints t.aN),(33,I t.aN.length),(34,I x.1)]) (λx=>x.2) (λx=>x.1<=t.aN.length/\aIE h nb b sz N (yS t.aN ws (List.replicate t.bW.length (zrL sz)) x.1) x.2) (λx=>t.aN.length-x.1) (0,g) ⟨by simp[c4,b7],aE.le_refl _,fE _,H⟩ ?_
  clear H g
  rintro⟨k,g⟩ ⟨hk,H⟩
  simp only at hk H ⊢
  have hb:=H.bk
  have bUX:=H.nbk
  rcases bZ k t.aN.length with hlt|hge
  ·have eo:t.aN[k]?=some (t.aN.getD k 0):=cI hlt
   have ew:ws[k]?=some (ws.getD k 0):=cI aA
   have hr:=ho _ (nO eo)
   have hsn:=hsw (k+1) hlt
   have hs0:=hsw k aA
   have hst:yS t.aN ws (List.replicate t.bW.length (zrL sz)) (k+1)=(yS t.aN ws (List.replicate t.bW.length (zrL sz)) k).set (t.aN.getD k 0).toNat (((yS t.aN ws (List.replicate t.bW.length (zrL sz)) k).getD (t.aN.getD k 0).toNat []).set 0 ((((yS t.aN ws (List.replicate t.bW.length (zrL sz)) k).getD (t.aN.getD k 0).toNat []).getD 0 0+ws.getD k 0)%1000003)):=rfl
   generalize hA1:yS t.aN ws (List.replicate t.bW.length (zrL sz)) (k+1)=A1 at *
   generalize yS t.aN ws (List.replicate t.bW.length (zrL sz)) k=A at *
   generalize t.aN.getD k 0=r at *
   have er:N[r.toNat]?=some (N[r.toNat]'aA):=cM aA
   generalize N[r.toNat]'aA=n at er
   have hgn:=H.get _ _ er
   have hq:=hs0.get (i:=r.toNat) aA
   have e0:(A.getD r.toNat [])[Int.toNat 0]?=some ((A.getD r.toNat []).getD 0 0):=cI (by rw[hq.2.1];exact c6.1)
   have hout:=H.out n (nO er)
   obtain⟨wR,fK,fL,p6⟩:=bB (show ¬n=nb from hout.1)
   obtain⟨aDY,dN,dM,yO⟩:=bB (show ¬n=b from hout.2.1)
   obtain⟨mY,dP,dO,kY⟩:=bB (show ¬b=nb from H.bn.2.2)
   unfold lI at hgn
   simp -dsimp -implicitDefEqProofs only[go_sem,↓reduceIte,Tryz.f103,eo,ew,hlt,bUX,hb,er,hgn,e0,fK,dN,fL,dO,dM,dP,aI]
   have n1:=hq.2.2.get 0
   have n2:=hwn.get k
   refine⟨by omega,hr.1,by omega,hr.1,by omega,by omega,aJ.mk (aWB _ _) ?_⟩
   simp -dsimp -implicitDefEqProofs only[go_sem,↓reduceIte,Tryz.f103,eo,ew,hlt,bUX,hb,er,hgn,e0,fK,dN,fL,dO,dM,dP,aI]
   have hrow:bE.row 1 ((((A.getD r.toNat []).map λn=>[I n]).map (List.map Cell.v)).set (Int.toNat 0) [Cell.v (I (((A.getD r.toNat []).getD 0 0+ws.getD k 0)%1000003))])=lI ((A.getD r.toNat []).set 0 (((A.getD r.toNat []).getD 0 0+ws.getD k 0)%1000003)):=by
    rw[show Int.toNat 0=0 from rfl,yK I];rfl
   have hset:=H.set er (s:=(A.getD r.toNat []).set 0 (((A.getD r.toNat []).getD 0 0+ws.getD k 0)%1000003)) ⟨by rw[aU6];exact hq.2.1,λx hx=>by
    rcases aSE hx with hx|rfl
    ·exact hq.2.2 x hx
    ·exact nY _⟩
   rw[←hst]at hset
   refine⟨by omega,(k+1,_),IntWalk.i64_in _ aA,by rw[hrow];exact aE.le_refl _,⟨hlt,?_⟩,by simp only;omega⟩
   simp only[hA1]
   exact hset
  ·have hk':k=t.aN.length:=by omega
   subst hk'
   simp -dsimp -implicitDefEqProofs only[go_sem,↓reduceIte,Tryz.f103,bX,dB]
   refine λ_=>?_
   have hs0:=hsw _ (iH _)
   have hsl:=H.seal
   generalize yS t.aN ws (List.replicate t.bW.length (zrL sz)) t.aN.length=A0 at *
   clear hb bUX
   rw[hN]at hsl
   refine aL6 aOB a83 a84 (λx:Nat=>[(1,b6 rg),(3,.ip 4 [[I t.sT,fN 4 bO.c t.bW,fN 2 j8.c t.zY,ints t.aN]] 0 0),(7,.op nb 1 0 0),(12,I ((x:Int)-1))]) (λx=>aR (aR h nb (.row 1 [[.v (.os b 1 0 t.bW.length)]])) b (lE (xO t.bW rg A0 (t.bW.length-x) x))) (λx=>x<=t.bW.length) (λx=>x) t.bW.length ⟨?_,?_,iH _⟩ ?_
   ·have wl:IntKind.i64.wrap ((t.bW.length:Int)-1)=t.bW.length-1:=IntWalk.i64_in _ aA
    simp[c4,b7,wl]
   ·rw[wI];exact hsl
   obtain⟨bn1,bn2,bn3⟩:=H.bn
   obtain⟨mY,dP,dO,kY⟩:=bB (show ¬b=nb from bn3)
   intro x hx
   cases x with
   |zero =>
    simp -dsimp -implicitDefEqProofs only[go_sem,↓reduceIte,Tryz.f103,dP,dO,aI]
    refine⟨λq=>absurd q aA,λ_=>?_⟩
    exact tM _ bn1 (by
     intro q_
     simp only[aG,bC5]
     by_cases e1:q_=b
     ·rw[if_pos e1,if_pos e1];exact .inr rfl
     ·rw[if_neg e1,if_neg e1]
      by_cases e2:q_=nb
      ·subst e2;exact .inl hnb
      ·rw[if_neg e2];exact .inr rfl) (yT c6 hins hrg hs0 t.bW.length 0 rfl).1.symm
   |succ y =>
    have hst:xO t.bW rg A0 (t.bW.length-y) y=qQ (t.bW.getD y ⟨0,0,0,0⟩) rg y (xO t.bW rg A0 (t.bW.length-(y+1)) (y+1)):=by
     rw[show t.bW.length-y=(t.bW.length-(y+1))+1 by omega,xO]
    have hA:=yT c6 hins hrg hs0 (t.bW.length-(y+1)) (y+1) aA
    generalize xO t.bW rg A0 (t.bW.length-(y+1)) (y+1)=A at *
    have ec:t.bW[y]?=some t.bW[y]:=cM aA
    have hin:=hins y _ ec
    rw[show t.bW.getD y ⟨0,0,0,0⟩=t.bW[y]by rw[dI,ec];rfl]at hst
    generalize t.bW[y]=c at *
    have eA:=hA.get (i:=y) aA
    have wy:((y+1:Nat):Int)-1=(y:Int):=by omega
    have wy2:IntKind.i64.wrap ((y:Int)-1)=(y:Int)-1:=IntWalk.i64_in _ aA
    rw[wy]
    simp -dsimp -implicitDefEqProofs only[go_sem,↓reduceIte,Tryz.f103,ec,lE,eA.1,dP,dO,aI,wy2,bO.aS]
    refine⟨by omega,by omega,λn ⟨n1,n2,n3⟩=>?_⟩
    obtain⟨aDY,dN,dM,yO⟩:=bB (show ¬n=b from n1)
    obtain⟨wR,fK,fL,p6⟩:=bB (show ¬n=nb from n2)
    refine⟨⟨by rw[aI _ _ _ _ yO,aM],by rw[aI _ _ _ _ p6,aI _ _ _ _ kY,aM]⟩,⟨by rw[aI _ _ _ _ yO],by rw[aI _ _ _ _ p6]⟩,?_⟩
    simp only[aO]
    have hnext:∀ g:aE,(aR (aR h nb (.row 1 [[.v (.os b 1 0 t.bW.length)]])) b (lE (qQ c rg y A))).le g->∃ x':Nat,(y:Int)-1=(x':Int)-1/\(aR (aR h nb (.row 1 [[.v (.os b 1 0 t.bW.length)]])) b (lE (xO t.bW rg A0 (t.bW.length-x') x'))).wk g/\x'<=t.bW.length/\x'<y+1:=λg l=>⟨y,rfl,by rw[hst];exact aE.kE l,by omega,aD9 _⟩
    have bG2:∀ (X Y R Z:bE),(aR (aR h nb X) b Y).le (aR (aR (aR (aR h nb X) b Z) n R) b Y):=λX Y R Z q_=>by
     by_cases e1:q_=b
     ·rw[e1,aM,aM];exact .inr rfl
     rw[aI _ _ _ _ e1,aI _ _ _ _ e1]
     by_cases e2:q_=n
     ·rw[e2,aI _ _ _ _ n2];exact .inl n3
     ·rw[aI _ _ _ _ e2,aI _ _ _ _ e1];exact .inr rfl
    have b2A:∀ (X Y R:bE),(aR (aR h nb X) b Y).le (aR (aR (aR h nb X) b Y) n R):=λX Y R=>aE.bP (by rw[aI _ _ _ _ n1,aI _ _ _ _ n2];exact n3) (aE.le_refl _)
    have hown:=eA.2
    have gnb:∀ (X Y R:bE),(aR (aR (aR h nb X) b Y) n R) nb=some X:=λX Y R=>by rw[aI _ _ _ _ p6,aI _ _ _ _ kY,aM]
    have bMU:∀ (X Y R W:bE),(aR (aR (aR (aR h nb X) b Y) n R) b W) nb=some X:=λX Y R W=>by rw[aI _ _ _ _ kY,aI _ _ _ _ p6,aI _ _ _ _ kY,aM]
    have gb1:∀ (X Y R:bE),(aR (aR (aR h nb X) b Y) n R) b=some Y:=λX Y R=>by rw[aI _ _ _ _ yO,aM]
    rcases(show c.lB=1∨c.lB=2∨c.lB=3∨c.lB=4∨c.lB=5∨c.lB=6∨c.lB=7 by unfold cV at hin;omega)with h1|h1|h1|h1|h1|h1|h1
    ·simp -dsimp -implicitDefEqProofs only[go_sem,↓reduceIte,Tryz.f103,h1]
     refine hnext _ ?_
     rw[qQ,if_neg aA,if_neg aA,if_neg aA,if_neg aA,if_neg aA]
     exact b2A _ _ _
    ·simp -dsimp -implicitDefEqProofs only[go_sem,↓reduceIte,Tryz.f103,h1]
     refine hnext _ ?_
     rw[qQ,if_neg aA,if_neg aA,if_neg aA,if_neg aA,if_neg aA]
     exact b2A _ _ _
    ·have i0:(0<=c.fA/\c.fA<y)/\0<=c.fB/\c.fB<y:=by unfold cV at hin;omega
     have era:=hrg.get (i:=c.fA.toNat) aA
     have erb:=hrg.get (i:=c.fB.toNat) aA
     have ery:=hrg.get (i:=y) aA
     simp -dsimp -implicitDefEqProofs only[go_sem,↓reduceIte,Tryz.f103,h1]
     refine aJ.gS (aW1 c6 hA (r:=c.fA) ⟨i0.1.1,by omega⟩ hown (gnb _ _ _) (gb1 _ _ _)) ?_
     rintro r_ h' rfl
     simp -dsimp -implicitDefEqProofs only[go_sem,↓reduceIte,Tryz.f103,h1,dN,fK,dM,dP,fL,dO,aI]
     refine aJ.gS (aW1 c6 (hA.put (r:=c.fA) aA hown) (r:=c.fB) ⟨i0.2.1,by omega⟩ hown (bMU _ _ _ _) (aM _ _ _)) ?_
     rintro r_ h' rfl
     rw[aO]
     simp -dsimp -implicitDefEqProofs only[go_sem,↓reduceIte,Tryz.f103,wy2]
     refine hnext _ ?_
     rw[qQ,if_pos h1]
     exact bG2 _ _ _ _
    ·have i0:(0<=c.fA/\c.fA<y)/\0<=c.fB/\c.fB<y:=by unfold cV at hin;omega
     have era:=hrg.get (i:=c.fA.toNat) aA
     have erb:=hrg.get (i:=c.fB.toNat) aA
     have ery:=hrg.get (i:=y) aA
     simp -dsimp -implicitDefEqProofs only[go_sem,↓reduceIte,Tryz.f103,h1]
     refine aJ.gS (aW1 c6 hA (r:=c.fA) ⟨i0.1.1,by omega⟩ hown (gnb _ _ _) (gb1 _ _ _)) ?_
     rintro r_ h' rfl
     simp -dsimp -implicitDefEqProofs only[go_sem,↓reduceIte,Tryz.f103,h1,dN,fK,dM,dP,fL,dO,aI]
     refine aJ.mk (scaled _ 1000002 pK aTI hown.2) ?_
     simp -dsimp -implicitDefEqProofs only[go_sem,↓reduceIte,Tryz.f103,h1,dN,fK,dM,dP,fL,dO,aI]
     refine aJ.gS (aW1 c6 (hA.put (r:=c.fA) aA hown) (r:=c.fB) ⟨i0.2.1,by omega⟩ (eO _ hown) (bMU _ _ _ _) (aM _ _ _)) ?_
     rintro r_ h' rfl
     rw[aO]
     simp -dsimp -implicitDefEqProofs only[go_sem,↓reduceIte,Tryz.f103,wy2]
     refine hnext _ ?_
     rw[qQ,if_neg aA,if_pos h1]
     exact bG2 _ _ _ _
    ·have i0:(0<=c.fA/\c.fA<y)/\0<=c.fB/\c.fB<y:=by unfold cV at hin;omega
     have era:=hrg.get (i:=c.fA.toNat) aA
     have erb:=hrg.get (i:=c.fB.toNat) aA
     have ery:=hrg.get (i:=y) aA
     simp -dsimp -implicitDefEqProofs only[go_sem,↓reduceIte,Tryz.f103,h1,era.1,erb.1,hrl]
     simp only[aO]
     refine⟨i0.2.1,by omega,aJ.mk (product _ _ (by rw[erb.2.1,hown.1]) aTI hown.2 erb.2.2) ?_⟩
     simp -dsimp -implicitDefEqProofs only[go_sem,↓reduceIte,Tryz.f103,h1]
     refine aJ.gS (aW1 c6 hA (r:=c.fA) ⟨i0.1.1,by omega⟩ (fR _ hown) (gnb _ _ _) (gb1 _ _ _)) ?_
     rintro r_ h' rfl
     simp -dsimp -implicitDefEqProofs only[go_sem,↓reduceIte,Tryz.f103,h1,dN,fK,dM,dP,fL,dO,aI,era.1,hrl]
     refine⟨i0.1.1,by omega,aJ.mk (product _ _ (by rw[era.2.1,hown.1]) aTI hown.2 era.2.2) ?_⟩
     simp -dsimp -implicitDefEqProofs only[go_sem,↓reduceIte,Tryz.f103,h1,dN,fK,dM,dP,fL,dO,aI]
     refine aJ.gS (aW1 c6 (hA.put (r:=c.fA) aA (fR _ hown)) (r:=c.fB) ⟨i0.2.1,by omega⟩ (fR _ hown) (bMU _ _ _ _) (aM _ _ _)) ?_
     rintro r_ h' rfl
     rw[aO]
     simp -dsimp -implicitDefEqProofs only[go_sem,↓reduceIte,Tryz.f103,wy2]
     refine hnext _ ?_
     rw[qQ,if_neg aA,if_neg aA,if_pos h1]
     exact bG2 _ _ _ _
    ·have i0:(0<=c.fA/\c.fA<y)/\0<=c.fB/\c.fB<y:=by unfold cV at hin;omega
     have era:=hrg.get (i:=c.fA.toNat) aA
     have erb:=hrg.get (i:=c.fB.toNat) aA
     have ery:=hrg.get (i:=y) aA
     simp -dsimp -implicitDefEqProofs only[go_sem,↓reduceIte,Tryz.f103,h1,era.1,erb.1,hrl]
     simp only[aO]
     have hpart:=tL (rg.getD c.fB.toNat []) hown
     refine⟨i0.2.1,by omega,aJ.mk (quotient _ _ (by rw[erb.2.1,hown.1]) aTI aTI hown.2 erb.2.2) ?_⟩
     simp -dsimp -implicitDefEqProofs only[go_sem,↓reduceIte,Tryz.f103,h1]
     refine aJ.gS (aW1 c6 hA (r:=c.fA) ⟨i0.1.1,by omega⟩ hpart (gnb _ _ _) (gb1 _ _ _)) ?_
     rintro r_ h' rfl
     simp -dsimp -implicitDefEqProofs only[go_sem,↓reduceIte,Tryz.f103,h1,dN,fK,dM,dP,fL,dO,aI,ery.1,hrl]
     refine⟨by omega,aJ.mk (product _ _ (by rw[ery.2.1,hpart.1]) (by rw[hpart.1];omega) hpart.2 ery.2.2) ?_⟩
     simp -dsimp -implicitDefEqProofs only[go_sem,↓reduceIte,Tryz.f103,h1,dN,fK,dM,dP,fL,dO,aI]
     refine aJ.mk (scaled _ 1000002 pK (by rw[(fR _ hpart).1];omega) (fR _ hpart).2) ?_
     simp -dsimp -implicitDefEqProofs only[go_sem,↓reduceIte,Tryz.f103,h1,dN,fK,dM,dP,fL,dO,aI]
     refine aJ.gS (aW1 c6 (hA.put (r:=c.fA) aA hpart) (r:=c.fB) ⟨i0.2.1,by omega⟩ (eO _ (fR _ hpart)) (bMU _ _ _ _) (aM _ _ _)) ?_
     rintro r_ h' rfl
     rw[aO]
     simp -dsimp -implicitDefEqProofs only[go_sem,↓reduceIte,Tryz.f103,wy2]
     refine hnext _ ?_
     rw[qQ,if_neg aA,if_neg aA,if_neg aA,if_pos h1]
     exact bG2 _ _ _ _
    ·have i0:0<=c.fA/\c.fA<y:=by unfold cV at hin;omega
     simp -dsimp -implicitDefEqProofs only[go_sem,↓reduceIte,Tryz.f103,h1]
     refine aJ.mk (scaled _ 1000002 pK aTI hown.2) ?_
     simp -dsimp -implicitDefEqProofs only[go_sem,↓reduceIte,Tryz.f103,h1,dN,fK,dM,dP,fL,dO,aI]
     refine aJ.gS (aW1 c6 hA (r:=c.fA) ⟨i0.1,by omega⟩ (eO _ hown) (gnb _ _ _) (gb1 _ _ _)) ?_
     rintro r_ h' rfl
     simp -dsimp -implicitDefEqProofs only[go_sem,↓reduceIte,Tryz.f103,wy2]
     refine hnext _ ?_
     rw[qQ,if_neg aA,if_neg aA,if_neg aA,if_neg aA,if_pos h1]
     exact bG2 _ _ _ _
def byK (code:List bO) (L:List (List Int)) (sz inp:Nat):Nat->List (List Int)
 |0=>List.replicate inp (zrL sz)
 |k+1=>if (code.getD k ⟨0,0,0,0⟩).lB=1 then(byK code L sz inp k).set (code.getD k ⟨0,0,0,0⟩).aW.toNat (iK ((byK code L sz inp k).getD (code.getD k ⟨0,0,0,0⟩).aW.toNat []) (L.getD k []))else byK code L sz inp k
theorem aKM {sz:Nat} {code:List bO} {inp:Nat} (hins:∀ i c,code[i]?=some c->cV inp i c) {L:List (List Int)} (hL:gF sz code.length L):∀ k,k<=code.length->gF sz inp (byK code L sz inp k)
 |0,_=>⟨by simp[byK],λs hs=>by rw[(aS6.1 hs).2];exact aIF sz⟩
 |k+1,h=>by
  have ih:=aKM hins hL k aA
  have ec:code[k]?=some code[k]:=cM aA
  have hc:=hins k _ ec
  rw[byK,show code.getD k ⟨0,0,0,0⟩=code[k]by rw[dI,ec];rfl]
  split
  ·rename_i h1
   unfold cV at hc
   exact ih.set (kX (ih.get aA).2 (hL.get aA).2) _
  ·exact ih
@[go_sem] def aW3:List Nat:=[0,1,2,4,5,6,7,8,12,18,19,20,28,29,30,31,37]
@[go_sem] def bG3:List Nat:=[2,24]
@[go_sem] def bG4:Marks:=λid=>match id with|12=>([2,5,7,14],(.op 0 (.op 1 (.op 3 (.op 4 (.op 8 (.op 9 (.op 10 (.op 11 (.op 2 (.op 5 (.op 6 (.op 7 (.op 12 (.op 13 (.op 14 .nil))))))))))))))),[])|_=>([],.nil,[])
set_option maxHeartbeats 4000000 in
theorem bG5 (t:u3) {sz inp:Nat} (c6:1<=sz/\sz<=1048576) (hinp:t.sT=inp) (cEE:inp<=12) (hins:∀ i c,t.bW[i]?=some c->cV inp i c) (hcl:1<=t.bW.length/\t.bW.length<=3200) (L:List (List Int)) (hL:gF sz t.bW.length L) :
  fM Tryz.prog 102 [.agg t.c,b6 L] (b6 (byK t.bW L sz inp t.bW.length)):=by
 rw[u3.aS,hinp]
 have e0:=hL.get (i:=0) aA
 have ll:=hL.1
 have e00:L[Int.toNat 0]?=some (L.getD 0 []):=e0.1
 have l0:=e0.2.1
 refine iN 54 aW3 bG3 bG4 Tryz.func102 λh=>?_
 simp -dsimp -implicitDefEqProofs only[go_sem,↓reduceIte,Tryz.f102,e00,ll,l0]
 refine⟨by decide,λb0 hb0 _=>⟨λ_=>⟨by omega,λ_=>?_⟩,λq=>absurd aA q⟩⟩
 refine aL6 aW3 bG3 bG4 (λx:Nat×Nat=>[(1,b6 L),(2,.ip 4 [[I inp,fN 4 bO.c t.bW,fN 2 j8.c t.zY,ints t.aN]] 0 0),(5,.os x.2 1 0 x.1),(6,I sz),(18,I inp),(19,I x.1)]) (λx=>aR h x.2 (lE (List.replicate x.1 (zrL sz)))) (λx=>x.1<=inp/\h x.2=none) (λx=>inp-x.1) (0,b0) ⟨by simp[c4,b7],aE.kE (aE.le_refl _),fE _,hb0⟩ ?_
 rintro⟨k,b⟩ ⟨hk,hb⟩
 simp only at hk hb ⊢
 rcases bZ k inp with hlt|hge
 ·simp -dsimp -implicitDefEqProofs only[go_sem,↓reduceIte,Tryz.f102,hlt,lE,aYS]
  refine⟨by decide,iH _,by omega,by omega,λm ⟨m1,m2⟩=>?_⟩
  obtain⟨rT,fJ,fI,sG⟩:=bB (show ¬m=b from m1)
  refine⟨by decide,by decide,by decide,?_⟩
  simp -dsimp -implicitDefEqProofs only[go_sem,↓reduceIte,Tryz.f102,fJ,fI,aI]
  rw[aYS]
  refine⟨iH _,by omega,by omega,λc ⟨c1,c2,c3⟩=>?_⟩
  obtain⟨aUD,aA0,aAZ,aUE⟩:=bB (show ¬c=m from c1)
  obtain⟨b16,bQ5,bQ6,b17⟩:=bB (show ¬c=b from c2)
  have hzl:(zrL sz).length=sz:=(aIF sz).1
  refine⟨(k+1,c),⟨rfl,IntWalk.i64_in _ aA⟩,?_,⟨hlt,c3⟩,by simp only;omega⟩
  refine bL3 (m:=m) (b:=c) (List.replicate k (zrL sz)) (zrL sz) ?_ ?_ aUD ?_
  ·rw[aI _ _ _ _ aUE,aI _ _ _ _ rT,aM];exact congrArg some (aW2 sz)
  ·rw[aM,pQ cT,hzl]
  ·rw[List.replicate_succ']
   intro q_
   by_cases e1:q_=c
   ·rw[e1,aM,aM];exact .inr rfl
   rw[aI _ _ _ _ e1,aI _ _ _ _ e1]
   by_cases e2:q_=m
   ·rw[e2];exact .inl m2
   by_cases e3:q_=b
   ·rw[e3];exact .inl hb
   rw[aI _ _ _ _ e2,aI _ _ _ _ e1,aI _ _ _ _ e3,aI _ _ _ _ e2,aI _ _ _ _ e3];exact .inr rfl
 ·have hk':k=inp:=by omega
  subst hk'
  simp -dsimp -implicitDefEqProofs only[go_sem,↓reduceIte,Tryz.f102,dB,bX]
  refine λ_=>?_
  refine cZ aW3 bG3 bG4 (λx:Nat=>[(1,b6 L),(5,.os b 1 0 k),(28,fN 4 bO.c t.bW),(29,I t.bW.length),(30,I x)]) (λx=>aR h b (lE (byK t.bW L sz k x))) (λx=>x<=t.bW.length) (λx=>t.bW.length-x) 0 ⟨by simp[c4,b7],aE.le_refl _,fE _⟩ ?_
  intro x hx
  have hB:=aKM hins hL x hx
  rcases bZ x t.bW.length with hlt|aQI
  ·have ec:t.bW[x]?=some t.bW[x]:=cM hlt
   have hc:=hins x _ ec
   have hst:byK t.bW L sz k (x+1)=if t.bW[x].lB=1 then(byK t.bW L sz k x).set t.bW[x].aW.toNat (iK ((byK t.bW L sz k x).getD t.bW[x].aW.toNat []) (L.getD x []))else byK t.bW L sz k x:=by
    rw[byK,show t.bW.getD x ⟨0,0,0,0⟩=t.bW[x]by rw[dI,ec];rfl]
   generalize byK t.bW L sz k x=A at *
   generalize t.bW[x]=c at *
   have eL:=hL.get hlt
   simp -dsimp -implicitDefEqProofs only[go_sem,↓reduceIte,Tryz.f102,hlt,ec,bO.aS]
   refine λn ⟨n1,n2⟩=>?_
   obtain⟨aDY,dN,dM,yO⟩:=bB (show ¬n=b from n1)
   simp only[aO]
   refine⟨λh1=>?_,λh1=>⟨x+1,IntWalk.i64_in _ aA,?_,hlt,by omega⟩⟩
   ·have hn:0<=c.aW/\c.aW<k:=by unfold cV at hc;omega
    have eA:=hB.get (i:=c.aW.toNat) aA
    have hcall:=aG0 (added (A.getD c.aW.toNat []) (L.getD x []) (by rw[eL.2.1,eA.2.1]) (by rw[eA.2.1];omega) (vP eA.2.2) (vP eL.2.2))
    simp -dsimp -implicitDefEqProofs only[go_sem,↓reduceIte,Tryz.f102,lE,dN,dM,aI,eA.1,eL.1,ll]
    refine⟨hlt,hn.1,hn.2,aF.mk hcall ?_⟩
    simp -dsimp -implicitDefEqProofs only[go_sem,↓reduceIte,Tryz.f102,lE,dN,dM,aI,eA.1,eL.1,ll]
    refine⟨hn.1,hn.2,x+1,IntWalk.i64_in _ aA,?_,hlt,by omega⟩
    rw[hst,if_pos h1]
    have hr:=aUB A c.aW.toNat (iK (A.getD c.aW.toNat []) (L.getD x []))
    intro q_
    by_cases e1:q_=b
    ·rw[e1,aM,aM];exact .inr (congrArg some hr.symm)
    rw[aI _ _ _ _ e1,aI _ _ _ _ e1]
    by_cases e2:q_=n
    ·rw[e2];exact .inl n2
    rw[aI _ _ _ _ e2,aI _ _ _ _ e2,aI _ _ _ _ e1];exact .inr rfl
   ·rw[hst,if_neg h1]
    exact aE.bP (by rw[aI _ _ _ _ n1];exact n2) (aE.le_refl _)
  ·have hx':x=t.bW.length:=by omega
   subst hx'
   simp -dsimp -implicitDefEqProofs only[go_sem,↓reduceIte,Tryz.f102,dB,bX]
   exact tM _ hb (aE.le_refl _) hB.1.symm
theorem aFD {sz n:Nat} (c6:1<=sz) {outs ws:List Int} (ho:∀ r∈outs,0<=r/\r<n) (hwn:dW ws):∀ k,k<=outs.length->gF sz n (yS outs ws (List.replicate n (zrL sz)) k)
 |0,_=>⟨by simp[yS],λs hs=>by rw[(aS6.1 hs).2];exact aIF sz⟩
 |k+1,hk=>by
  have h1:=aFD c6 ho hwn k aA
  have hr:=ho (outs.getD k 0) bDN
  have h2:=(h1.get (i:=(outs.getD k 0).toNat) aA).2
  refine h1.set ⟨by rw[aU6];exact h2.1,λx hx=>?_⟩ _
  rcases aSE hx with hx|rfl
  ·exact h2.2 x hx
  ·exact nY _
def Cg (x y:Int):Prop:=∃ q:Int,x=y+1000003*q
theorem Cg.refl (x:Int):Cg x x:=⟨0,by omega⟩
theorem Cg.symm {x y:Int} (h:Cg x y):Cg y x:=by obtain⟨q,h⟩:=h;exact⟨-q,by omega⟩
theorem Cg.trans {x y z:Int} (h:Cg x y) (k:Cg y z):Cg x z:=by obtain⟨q,h⟩:=h;obtain⟨r,k⟩:=k;exact⟨q+r,by omega⟩
theorem Cg.add {a b c d:Int} (h:Cg a b) (k:Cg c d):Cg (a+c) (b+d):=by obtain⟨q,h⟩:=h;obtain⟨r,k⟩:=k;exact⟨q+r,by omega⟩
theorem Cg.mul {a b c d:Int} (h:Cg a b) (k:Cg c d):Cg (a*c) (b*d):=by
 obtain⟨q,rfl⟩:=h;obtain⟨r,rfl⟩:=k;exact⟨q*d+b*r+1000003*q*r,by grind⟩
theorem Cg.mod (x:Int):Cg (x%1000003) x:=⟨-(x / 1000003),by omega⟩
theorem Cg.of_eq {x y:Int} (h:x=y):Cg x y:=h▸Cg.refl x
theorem Cg.num {x y:Int} (h:Cg x y) (hx:oU x) (hy:oU y):x=y:=by
 obtain⟨q,h⟩:=h
 unfold oU at hx hy
 omega
theorem a4S {x y:Int} (h:Cg x y):Cg (-x) (-y):=by obtain⟨q,h⟩:=h;exact⟨-q,by omega⟩
theorem getD_at {code:List bO} {j:Nat} {c:bO} (e:code[j]?=some c):code.getD j ⟨0,0,0,0⟩=c:=by rw[dI,e];rfl
def kF:(Nat->Int)->(Nat->Int)->Nat->Int
 |f,g,0=>f 0*g 0
 |f,g,k+1=>f 0*g (k+1)+kF (λi=>f (i+1)) g k
theorem aMB:∀ (k:Nat) (f g:Nat->Int),kF f g (k+1)=kF f (λi=>g (i+1)) k+f (k+1)*g 0
 |0,f,g=>rfl
 |k+1,f,g=>by
  show f 0*g (k+2)+kF (λi=>f (i+1)) g (k+1)=(f 0*g (k+2)+kF (λi=>f (i+1)) (λi=>g (i+1)) k)+f (k+2)*g 0
  have:=aMB k (λi=>f (i+1)) g
  simp only[bC2,Nat.reduceAdd]at this ⊢
  omega
theorem sI:∀ (k:Nat) (f g:Nat->Int),kF f g k=kF g f k
 |0,f,g=>aOW _ _
 |k+1,f,g=>by
  rw[aMB k g f,kF,sI k (λi=>f (i+1)) g,aOW (f 0)];omega
theorem aKN:∀ (k:Nat) (f g h:Nat->Int),kF (λi=>f i+g i) h k=kF f h k+kF g h k
 |0,f,g,h=>Int.add_mul _ _ _
 |k+1,f,g,h=>by
  rw[kF,kF,kF,aKN k (λi=>f (i+1)) (λi=>g (i+1)) h];grind
theorem aC7 (c:Int):∀ (k:Nat) (f h:Nat->Int),kF (λi=>c*f i) h k=c*kF f h k
 |0,f,h=>a58 _ _ _
 |k+1,f,h=>by
  rw[kF,kF,aC7 c k (λi=>f (i+1)) h];grind
theorem aKO (k:Nat) (f h:Nat->Int):kF (λi=>-(f i)) h k=-(kF f h k):=by
 have:=aC7 (-1) k f h
 simp only[Int.neg_mul,aYW]at this
 exact this
theorem aBW (k:Nat) (f g h:Nat->Int):kF h (λi=>f i+g i) k=kF h f k+kF h g k:=by rw[sI,aKN,sI k f,sI k g]
theorem aKP (k:Nat) (f h:Nat->Int):kF h (λi=>-(f i)) k=-(kF h f k):=by rw[sI,aKO,sI k f]
theorem aRI (c:Int) (k:Nat) (f h:Nat->Int):kF h (λi=>c*f i) k=c*kF h f k:=by rw[sI,aC7,sI k f]
theorem vF:∀ (k:Nat) (f g h:Nat->Int),kF (kF f g) h k=kF f (kF g h) k
 |0,f,g,h=>a58 _ _ _
 |k+1,f,g,h=>by
  have e:(λi=>kF f g (i+1))=λi=>f 0*g (i+1)+kF (λi=>f (i+1)) g i:=rfl
  rw[kF,e,aKN k (λi=>f 0*g (i+1)) (kF (λi=>f (i+1)) g),aC7,vF k (λi=>f (i+1)) g h,kF,kF,kF]
  grind
theorem p7:∀ (k:Nat) (f f' g g':Nat->Int),(∀ i,i<=k->Cg (f i) (f' i))->(∀ i,i<=k->Cg (g i) (g' i))->Cg (kF f g k) (kF f' g' k)
 |0,f,f',g,g',a,b=>(a 0 (iH _)).mul (b 0 (iH _))
 |k+1,f,f',g,g',a,b=>((a 0 aA).mul (b (k+1) (iH _))).add (p7 k _ _ g g' (λi hi=>a (i+1) aA) λi hi=>b i aA)
theorem a86:∀ (k:Nat) (f:Nat->Int),kF f (λi=>if i=0 then 1 else 0) k=f k
 |0,f=>by simp[kF]
 |k+1,f=>by rw[aMB];simp only[Nat.add_one_ne_zero,if_false,if_true];rw[sI];have:=aC7 0 k (λ_=>0) f;simp only[Int.zero_mul]at this;rw[this];omega
def jJ (F:Nat->Int):Nat->Int
 |0=>0
 |m+1=>jJ F m+F m
theorem aUF (F:Nat->Int):∀ m,jJ F (m+1)=F 0+jJ (λi=>F (i+1)) m
 |0=>by simp[jJ]
 |m+1=>by rw[jJ,aUF F m,jJ];omega
theorem yU {F G:Nat->Int}:∀ m,(∀ i,i<m->F i=G i)->jJ F m=jJ G m
 |0,_=>rfl
 |m+1,h=>by rw[jJ,jJ,yU m λi hi=>h i aA,h m aA]
theorem a88 {F G:Nat->Int}:∀ m,(∀ i,i<m->Cg (F i) (G i))->Cg (jJ F m) (jJ G m)
 |0,_=>Cg.refl _
 |m+1,h=>(a88 m λi hi=>h i aA).add (h m aA)
theorem aW4:∀ (k:Nat) (f g:Nat->Int),kF f g k=jJ (λi=>f i*g (k-i)) (k+1)
 |0,f,g=>by simp[kF,jJ]
 |k+1,f,g=>by
  have h:jJ (λi=>f (i+1)*g (k-i)) (k+1)=jJ (λi=>f (i+1)*g (k+1-(i+1))) (k+1):=yU _ λi hi=>by rw[show k+1-(i+1)=k-i by omega]
  rw[kF,aW4 k,h,aUF (λi=>f i*g (k+1-i)) (k+1)];rfl
def sF (s:List Int):Nat->Int:=λi=>s.getD i 0
theorem bG6 (a b:List Int) (k:Nat):∀ m,Cg (cvS a b k m) (jJ (λi=>sF a i*sF b (k-i)) m)
 |0=>Cg.refl _
 |m+1=>(Cg.mod _).trans ((bG6 a b k m).add (Cg.refl _))
theorem bG7 (o b:List Int) (k:Nat) (r:Int):∀ m,Cg (dvS o b k r m) (r-jJ (λi=>sF o i*sF b (k-i)) m)
 |0=>Cg.of_eq (by simp[dvS,jJ])
 |m+1=>(Cg.mod _).trans (((bG7 o b k r m).add (Cg.refl (-(o.getD m 0*b.getD (k-m) 0)))).trans (Cg.of_eq (by rw[jJ];simp only[sF];omega)))
theorem aIG {sz:Nat} {a b:List Int} (ha:bV sz a) (hb:bV sz b) {k:Nat} (hk:k<sz):Cg (sF (iK a b) k) (sF a k+sF b k):=by
 have h:(iK a b)[k]?=some ((a.getD k 0+b.getD k 0)%1000003):=by
  rw[iK,bDK,cI (l:=a) (by rw[ha.1];exact hk),cI (l:=b) (by rw[hb.1];exact hk)]
 rw[sF,dI,h];exact Cg.mod _
theorem a4T {sz:Nat} {a:List Int} (ha:bV sz a) (n:Int) {k:Nat} (hk:k<sz):Cg (sF (iE a n) k) (sF a k*n):=by
 have h:(iE a n)[k]?=some (a.getD k 0*n%1000003):=by
  rw[iE,nE,cI (l:=a) (by rw[ha.1];exact hk)];rfl
 rw[sF,dI,h];exact Cg.mod _
theorem aRJ {sz:Nat} {a:List Int} (ha:bV sz a) {k:Nat} (hk:k<sz):Cg (sF (iE a 1000002) k) (-(sF a k)):=(a4T ha _ hk).trans ⟨sF a k,by omega⟩
theorem bG8 {sz:Nat} {a b:List Int} (ha:bV sz a) (hb:bV sz b) {k:Nat} (hk:k<sz):Cg (sF (aJ3 a b) k) (sF a k+-(sF b k)):=(aIG ha (eO _ hb) hk).trans ((Cg.refl _).add (aRJ hb hk))
theorem aIH {sz:Nat} {a:List Int} (b:List Int) (ha:bV sz a) {k:Nat} (hk:k<sz):Cg (sF (mulL a b) k) (kF (sF a) (sF b) k):=by
 have h:(mulL a b)[k]?=some (cvS a b k (k+1)):=by
  rw[mulL,nE,aIY (by rw[ha.1];exact hk)];rfl
 rw[sF,dI,h,aW4];exact bG6 a b k _
theorem aFE {sz:Nat} (n:Int) (k:Nat) (hk:k<sz):sF (fQ n sz) k=if k=0 then n else 0:=by
 rw[sF,fQ,dI]
 split
 ·rename_i e;subst e
  rw[aLH (by rw[aYS];exact hk)];rfl
 ·rename_i e
  rw[aLI (l5 e),aMO,if_pos hk];rfl
theorem a07 {sz:Nat} {a:List Int} (b:List Int) (ha:bV sz a) {k:Nat} (hk:k<sz):Cg (sF (lV a b) k) ((sF a k-jJ (λi=>sF (lV a b) i*sF b (k-i)) k)*nV (b.getD 0 0)):=by
 have hl:k<a.length:=by rw[ha.1];exact hk
 have h:sF (lV a b) k=dvS (lJ a b k) b k (a.getD k 0) k*nV (b.getD 0 0)%1000003:=by
  rw[sF,dI,cM (by rw[uG];exact hl)]
  exact aQU hl
 rw[h]
 refine(Cg.mod _).trans (Cg.mul ((bG7 _ b k _ k).trans (Cg.of_eq ?_)) (Cg.refl _))
 congr 1
 refine yU k λi hi=>?_
 congr 1
 rw[sF,sF,lV,←xY a b (k:=k) a.length aA,dI,aOS hi,←dI]
def ivL (b:List Int) (sz:Nat):List Int:=lV (fQ 1 sz) b
theorem a08 (f g:Nat->Int) (k:Nat):kF f (λi=>if i=0 then 0 else g i) k=jJ (λi=>f i*g (k-i)) k:=by
 rw[aW4,jJ,wI,if_pos rfl,Int.mul_zero,Int.add_zero]
 exact yU k λi hi=>by rw[if_neg aA]
theorem aW5 {sz:Nat} {a b:List Int} (ha:bV sz a):∀ (m k:Nat),k<m->k<sz->Cg (sF (lV a b) k) (kF (sF a) (sF (ivL b sz)) k)
 |0,k,h,_=>by omega
 |m+1,k,h,hk=>by
  have ih:=λi hi hi2=>aW5 (b:=b) ha m i hi hi2
  have hc:bV sz (fQ 1 sz):=fP pK
  have h1:=a07 b ha hk
  refine h1.trans ?_
  have h2:∀ i,i<=k->Cg (sF (ivL b sz) i) (nV (b.getD 0 0)*((if i=0 then 1 else 0)+-(kF (sF (ivL b sz)) (λi=>if i=0 then 0 else sF b i) i))):=λi hi=>by
   have:=a07 b hc (k:=i) aA
   rw[aFE _ _ aA]at this
   rw[a08,aOW]
   exact this
  have h3:Cg (kF (sF a) (sF (ivL b sz)) k) (nV (b.getD 0 0)*(sF a k+-(kF (kF (sF a) (sF (ivL b sz))) (λi=>if i=0 then 0 else sF b i) k))):=by
   refine(p7 k _ _ _ _ (λi _=>Cg.refl _) h2).trans (Cg.of_eq ?_)
   rw[aRI (nV (b.getD 0 0)) k (λi=>(if i=0 then 1 else 0)+-(kF (sF (ivL b sz)) (λi=>if i=0 then 0 else sF b i) i)) (sF a),aBW k (λi=>if i=0 then 1 else 0),a86,aKP k (kF (sF (ivL b sz)) λi=>if i=0 then 0 else sF b i),vF]
  refine Cg.trans ?_ h3.symm
  rw[a08,aOW]
  exact(Cg.refl _).mul ((Cg.refl _).add (a4S (a88 k λi hi=>(ih i aA aA).mul (Cg.refl _))))
structure bG9 (R:List Int->List Int->Prop) (sz oC:Nat):Prop where
 nil:R [] []
 hd:∀ {s s'},R s s'->s.getD 0 0=s'.getD 0 0
 add:∀ {a a' b b'},R a a'->R b b'->R (iK a b) (iK a' b')
 scl:∀ {a a'} (n:Int),R a a'->R (iE a n) (iE a' n)
 mul:∀ {a a' b b'},R a a'->R b b'->R (mulL a b) (mulL a' b')
 div:∀ {a a' b b'},R a a'->R b b'->R (lV a b) (lV a' b')
 const:∀ n,R (fQ n sz) (fQ n oC)
theorem bG9.sub {R:List Int->List Int->Prop} {sz oC:Nat} (H:bG9 R sz oC) {a a' b b':List Int} (ha:R a a') (hb:R b b'):R (aJ3 a b) (aJ3 a' b'):=H.add ha (H.scl _ hb)
def eG (R:List Int->List Int->Prop):List (List Int)->List (List Int)->Prop
 | [],[]=>True
 |s::l,s'::l'=>R s s'/\eG R l l'
 | _,_=>False
theorem eG.get {R:List Int->List Int->Prop} (hn:R [] []):∀ {l l':List (List Int)},eG R l l'->∀ i,R (l.getD i []) (l'.getD i [])
 | [],[],_,i=>by simp[hn]
 |s::l,s'::l',h,0=>h.1
 |s::l,s'::l',h,i+1=>by simpa using eG.get hn h.2 i
 | [],_::_,h,_=>h.elim
 | _::_,[],h,_=>h.elim
theorem eG.len {R:List Int->List Int->Prop}:∀ {l l':List (List Int)},eG R l l'->l.length=l'.length
 | [],[],_=>rfl
 |s::l,s'::l',h=>by simp[eG.len h.2]
 | [],_::_,h=>h.elim
 | _::_,[],h=>h.elim
theorem eG.of {R:List Int->List Int->Prop}:∀ {l l':List (List Int)},l.length=l'.length->(∀ i,i<l.length->R (l.getD i []) (l'.getD i []))->eG R l l'
 | [],[],_,_=>trivial
 |s::l,s'::l',hl,h=>⟨h 0 cT,eG.of aLO λi hi=>by simpa using h (i+1) s4⟩
 | [],_::_,h,_=>by simp at h
 | _::_,[],h,_=>by simp at h
def pR (m:Nat) (s s':List Int):Prop:=(s=[]/\s'=[])∨(m<=s.length/\m<=s'.length/\∀ i,i<m->sF s i=sF s' i)
theorem pR.get {m:Nat} {s s':List Int} (h:pR m s s') {i:Nat} (hi:i<m):sF s i=sF s' i:=by
 rcases h with⟨rfl,rfl⟩|⟨_,_,h⟩
 ·rfl
 ·exact h i hi
theorem aUH {a a' b b':List Int} {k m:Nat} (hk:k<m) (ha:∀ i,i<m->sF a i=sF a' i) (hb:∀ i,i<m->sF b i=sF b' i):∀ n,n<=k+1->cvS a b k n=cvS a' b' k n
 |0,_=>rfl
 |n+1,h=>by
  have h1:=ha n aA
  have h2:=hb (k-n) aA
  simp only[sF]at h1 h2
  rw[cvS,cvS,aUH hk ha hb n aA,h1,h2]
theorem aUI {o b b':List Int} {k m:Nat} (hk:k<m) (hb:∀ i,i<m->sF b i=sF b' i) (r:Int):∀ n,dvS o b k r n=dvS o b' k r n
 |0=>rfl
 |n+1=>by
  have h2:=hb (k-n) aA
  simp only[sF]at h2
  rw[dvS,dvS,aUI hk hb r n,h2]
theorem aRK {a a' b b':List Int} {m:Nat} (hm:0<m) (ha:∀ i,i<m->sF a i=sF a' i) (hb:∀ i,i<m->sF b i=sF b' i):∀ k,k<=m->lJ a b k=lJ a' b' k
 |0,_=>rfl
 |k+1,h=>by
  have h1:=ha k aA
  have h2:=hb 0 hm
  simp only[sF]at h1 h2
  rw[lJ,lJ,aRK hm ha hb k aA,h1,h2,aUI (m:=m) aA hb]
theorem aUJ {s:List Int} {i:Nat} {x:Int} (h:s[i]?=some x):sF s i=x:=by rw[sF,dI,h];rfl
theorem bUY {m sz oC:Nat} (hm:0<m) (h1:m<=sz) (h2:m<=oC):bG9 (pR m) sz oC where
 nil:=.inl ⟨rfl,rfl⟩
 hd h:=h.get hm
 add {a a' b b'} ha hb:=by
  rcases ha with⟨rfl,rfl⟩|⟨a1,a2,a3⟩
  ·exact .inl ⟨rfl,rfl⟩
  rcases hb with⟨rfl,rfl⟩|⟨b1,b2,b3⟩
  ·exact .inl ⟨by simp[iK],by simp[iK]⟩
  ·refine .inr ⟨by simp[iK];omega,by simp[iK];omega,λi hi=>?_⟩
   have e1:=a3 i hi
   have e2:=b3 i hi
   simp only[sF]at e1 e2
   rw[aUJ (s:=iK a b) (x:=(a.getD i 0+b.getD i 0)%1000003) (by rw[iK,bDK,cI (l:=a) aA,cI (l:=b) aA]),
    aUJ (s:=iK a' b') (x:=(a'.getD i 0+b'.getD i 0)%1000003) (by rw[iK,bDK,cI (l:=a') aA,cI (l:=b') aA]),e1,e2]
 scl {a a'} n ha:=by
  rcases ha with⟨rfl,rfl⟩|⟨a1,a2,a3⟩
  ·exact .inl ⟨rfl,rfl⟩
  ·refine .inr ⟨by rw[vU];exact a1,by rw[vU];exact a2,λi hi=>?_⟩
   have e1:=a3 i hi
   simp only[sF]at e1
   rw[aUJ (s:=iE a n) (x:=a.getD i 0*n%1000003) (by rw[iE,nE,cI (l:=a) aA];rfl),
    aUJ (s:=iE a' n) (x:=a'.getD i 0*n%1000003) (by rw[iE,nE,cI (l:=a') aA];rfl),e1]
 mul {a a' b b'} ha hb:=by
  have hb':=λi hi=>hb.get (i:=i) hi
  rcases ha with⟨rfl,rfl⟩|⟨a1,a2,a3⟩
  ·exact .inl ⟨rfl,rfl⟩
  ·refine .inr ⟨by rw[aJ5];exact a1,by rw[aJ5];exact a2,λi hi=>?_⟩
   rw[aUJ (s:=mulL a b) (x:=cvS a b i (i+1)) bPI,
    aUJ (s:=mulL a' b') (x:=cvS a' b' i (i+1)) bPI,aUH hi a3 hb' _ (iH _)]
 div {a a' b b'} ha hb:=by
  have hb':=λi hi=>hb.get (i:=i) hi
  rcases ha with⟨rfl,rfl⟩|⟨a1,a2,a3⟩
  ·exact .inl ⟨rfl,rfl⟩
  ·refine .inr ⟨by rw[uG];exact a1,by rw[uG];exact a2,λi hi=>?_⟩
   have e:∀ x:List Int,sF x i=sF (x.take m) i:=λx=>by rw[sF,sF,dI,dI,aOS hi]
   rw[e (lV a b),e (lV a' b'),lV,lV,xY a b _ a1,xY a' b' _ a2,aRK hm a3 hb' m (iH _)]
 const n:=.inr ⟨by simp[fQ];exact h1,by simp[fQ];exact h2,λi hi=>by rw[aFE _ _ aA,aFE _ _ aA]⟩
end Go.Hl

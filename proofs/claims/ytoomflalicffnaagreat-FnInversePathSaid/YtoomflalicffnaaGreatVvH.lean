/-
  Contracts of functions and laws of the layer over the walk.
-/
import Derived.Test.YtoomflalicffnaaGreatVvG
import Derived.Test.YtoomflalicffnaaGreatVvD
import Derived.Test.YtoomflalicffnaaGreatVvC
import Derived.Test.YtoomflalicffnaaGreatVvA
import Derived.Test.YtoomflalicffnaaGreatVvF
namespace Go.Hl
set_option maxRecDepth 100000
open Go.Proofs
set_option linter.unusedVariables false
set_option linter.unusedSimpArgs false
theorem yR.gH {P:Program} {f:FuncId} {args:List aE} {L:List (List Int)} (a:yR P f args (QS (OS (oL I) 1 L))) (hne:¬L=[]) (h:aB):iD P f args h λr h'=>∃ b,h b=none/\r=.os b 1 0 L.length/\h'=aT h b (gH L) :=
 (a h).shift λr h' ⟨l,⟨y,hy,e1,e2⟩,hw⟩=>by
  subst e1 e2
  rcases hy with⟨rfl,q⟩|⟨b,es,rfl,hes⟩
  ·exact absurd q hne
  rw[OV.eK]at hw
  have hb:h' b=some (.row 1 (OV.cells es)):=hw.oC (b,_) (.head _)
  have ho:qO h' (OV.bF es):=λp hp=>hw.oC p (.tail _ hp)
  have hnb:b∉bC (OV.bF es):=(aD0.1 hw.nodup).1
  have hk:=aB.a8O hb ho hnb
  have hd:es.map (List.map OV.pX)=L.map λs=>[ints s]:=by rw[←OV.jS];exact OR.pX a0P hes
  rw[hd]at hk
  refine⟨_,(aB.kH λq=>?_).trans hk,b,hw.fresh b (.head _),by rw[OV.wV,hes.length],rfl⟩
  by_cases e:q=b
  ·rw[e,aI,aI];exact .inr rfl
  rw[aD _ _ _ _ e,aD _ _ _ _ e]
  by_cases e2:q∈bC (OV.bF es)
  ·exact .inl (hw.fresh q (.tail _ e2))
  ·rw[kY e2,hw.upto q (λh=>by rcases pP.1 h with h|h;exact e h;exact e2 h)];exact .inr rfl
theorem bKB (a b:Int):fR Tryz.prog 176 [I a,I b] (.bool (vJ 6 a b)):=by
 refine gA 12 aCC cU cG Tryz.func176 λh=>?_
 simp -dsimp -implicitDefEqProofs only[go_sem,↓reduceIte,Tryz.f176]
 first|refine aH.mk (within a 1 6) ?_|refine aG.mk (within a 1 6) ?_|refine aH.bH (within a 1 6) ?_|refine aG.mk (bB.dI (within a 1 6)) ?_
 simp -dsimp -implicitDefEqProofs only[go_sem,↓reduceIte,Tryz.f176]
 refine⟨λh=>?_,λh=>?_⟩
 ·rw[vJ,decide_eq_true h,Bool.true_and]
 ·rw[vJ,decide_eq_false h,a9X]
theorem bQP (p:aF) (f:Int) (hps:p.s<=4194304):fR Tryz.prog 108 [.agg p.c,I f] (I (jT p f (vJ 6))):=by
 have hif:=a7X p f hps bKB
 simp only[aF.aY]at hif ⊢
 refine gA 8 bON bHX cG Tryz.func108 λh=>?_
 simp -dsimp -implicitDefEqProofs only[go_sem,↓reduceIte,Tryz.f108]
 first|refine aH.mk (hif) ?_|refine aG.mk (hif) ?_|refine aH.bH (hif) ?_|refine aG.mk (bB.dI (hif)) ?_
 simp -dsimp -implicitDefEqProofs only[go_sem,↓reduceIte,Tryz.f108]
theorem aQZ {m a b:Int} (h:vJ m a b=true):(1<=a/\a<=m)/\b=a:=by
 simp only[vJ,mK,decide_eq_true_eq]at h
 exact h
def aW0 (p:aF) (f:Int) (args dir:List Int) (order:Int):Prop:=((args.length:Int)=p.par f/\eI args)/\((dir.length:Int)=p.par f/\eI dir)/\0<=order/\order<=12
noncomputable instance (p:aF) (f:Int) (args dir:List Int) (order:Int):Decidable (aW0 p f args dir order):=Classical.propDecidable _
def aW1 (F:dQ) (L args:List Int):Prop:=uO o8 args.length (wY F.code L 1 args.length (args.map λn=>[n]) ((L.map λr=>fM 1 (args.map λn=>[n]) F.code r.toNat))) args.length=none
noncomputable instance (F:dQ) (L args:List Int):Decidable (aW1 F L args):=Classical.propDecidable _
noncomputable def gN (p:aF) (f:Int) (args dir:List Int) (order:Int):List (List Int)×Int :=
 if jT p f (vJ 6)=0 then(if aW0 p f args dir order then(match zB p f args with
  | .error c=>([],c)
  | .ok ((L,F),_)=>if aW1 F L args then([],6)else(r6 F.code L (order.toNat+1) args.length (qN (gC F L) dir (order.toNat+1) args.length) args (yC order.toNat),0))else([],2))else([],jT p f (vJ 6))
@[go_sem] def aL0:List Nat:=[0,1,2,3,4,5,10,11,12,13,14,16,17,18,19,20,21,22,23,24,56,58,70,79,84,85,86,87,109,121,124,125,126,127]
@[go_sem] def a8Q:List Nat:=[5,123,138]
@[go_sem] def a8R:Marks:=λid=>match id with|6=>([],(.op 0 (.op 1 (.op 2 (.op 3 (.op 4 (.op 5 (.op 6 (.op 7 (.op 8 (.op 9 (.op 10 (.op 11 .nil)))))))))))),[])|16=>([12],(.op 0 (.op 1 (.op 2 (.op 3 (.op 4 (.op 5 (.op 6 (.op 7 (.op 8 (.op 9 (.op 10 (.op 11 (.op 12 .nil))))))))))))),[])|_=>([],.nil,[])
set_option maxHeartbeats 4000000 in
theorem aUP (p:aF) (hps:p.s<=4194304) (f:Int) (args dir:List Int) (order:Int) (hla:args.length<=1048576) (hld:dir.length<=1048576):fR Tryz.prog 37 [.agg p.c,I f,ints args,ints dir,I order] (.gK [bL (gN p f args dir order).1,I (gN p f args dir order).2]):=by
 have hif:=bQP p f hps
 by_cases h0:jT p f (vJ 6)=0
 ·obtain⟨h1,h2,F0,ef,e1,e2,e3⟩:=aDL h0
  rw[h0]at hif
  have e4:=aQZ e3
  simp only[aF.aY]at hif ⊢
  refine mP 149 aL0 a8Q a8R Tryz.func37 λh=>?_
  simp -dsimp -implicitDefEqProofs only[go_sem,↓reduceIte,Tryz.f37]
  first|refine aH.mk (hif) ?_|refine aG.mk (hif) ?_|refine aH.bH (hif) ?_|refine aG.mk (bB.dI (hif)) ?_
  simp -dsimp -implicitDefEqProofs only[go_sem,↓reduceIte,Tryz.f37,ef,aV.aY]
  refine⟨h2.1,h2.2,?_⟩
  have hno:¬aW0 p f args dir order->Shift (.gK [.bS,I 2]) h (.gK [bL (gN p f args dir order).1,I (gN p f args dir order).2]) h:=λq=>by
   rw[gN,if_pos h0,if_neg q]
   exact Shift.of (Sub.gK (.cons (Sub.nil 1 false) (.cons (.refl _) .nil))) (aB.le_refl _)
  first|refine aH.mk (dX args F0.aR) ?_|refine aG.mk (dX args F0.aR) ?_|refine aH.bH (dX args F0.aR) ?_|refine aG.mk (bB.dI (dX args F0.aR)) ?_
  simp -dsimp -implicitDefEqProofs only[go_sem,↓reduceIte,Tryz.f37,ef,aV.aY]
  refine⟨λh3=>⟨h2.1,h2.2,?_⟩,λh3=>hno λq=>h3 (by rw[←e1];exact q.1)⟩
  first|refine aH.mk (dX dir F0.aR) ?_|refine aG.mk (dX dir F0.aR) ?_|refine aH.bH (dX dir F0.aR) ?_|refine aG.mk (bB.dI (dX dir F0.aR)) ?_
  simp -dsimp -implicitDefEqProofs only[go_sem,↓reduceIte,Tryz.f37,ef,aV.aY]
  refine⟨λh4=>?_,λh4=>hno λq=>h4 (by rw[←e1];exact q.2.1)⟩
  first|refine aH.mk (aIY order) ?_|refine aG.mk (aIY order) ?_|refine aH.bH (aIY order) ?_|refine aG.mk (bB.dI (aIY order)) ?_
  simp -dsimp -implicitDefEqProofs only[go_sem,↓reduceIte,Tryz.f37]
  refine⟨λh5=>hno λq=>h5 q.2.2,λh5=>?_⟩
  have hA:aW0 p f args dir order:=⟨by rw[e1];exact h3,by rw[e1];exact h4,h5⟩
  have hn:1<=args.length/\args.length<=6:=by omega
  have hld':dir.length=args.length:=by omega
  have hpar:∀ H,p.aK[f.toNat]?=some H->(args.length:Int)=H.aR:=λH hH=>by rw[ef]at hH;cases hH;exact h3.1
  first|refine aH.mk (vY args hla) ?_|refine aG.mk (vY args hla) ?_|refine aH.bH (vY args hla) ?_|refine aG.mk (bB.dI (vY args hla)) ?_
  simp -dsimp -implicitDefEqProofs only[go_sem,↓reduceIte,Tryz.f37]
  have h1s:=aGR h3.2
  cases hr:zB p f args with
  |error c =>
   have hlE:=bC6 h1 hps (sz:=1) b6 f h2 h3.2 aA hpar hr h1s
   have hc:=aE0 p 1 f _ c (aI0 h1 h2 h3.2 hpar hr).1
   simp only[aF.aY]at hlE
   first|refine aH.mk (hlE) ?_|refine aG.mk (hlE) ?_|refine aH.bH (hlE) ?_|refine aG.mk (bB.dI (hlE)) ?_
   simp -dsimp -implicitDefEqProofs only[go_sem,↓reduceIte,Tryz.f37]
   rw[show gN p f args dir order=([],c)by rw[gN,if_pos h0,if_pos hA,hr]]
   exact⟨λ_=>Shift.of (Sub.gK (.cons (Sub.nil 1 false) (.cons (.refl _) .nil))) (aB.le_refl _),λq=>absurd hc aA⟩
  |ok z =>
   obtain⟨⟨L,F⟩,u⟩:=z
   have T:=a7U h1 h2 h3.2 aA hpar hr
   have hL:L.length=args.length:=by
    have:=T.ll
    rw[e2]at this
    omega
   have hlin:=a70 h1 hps (sz:=1) b6 f h2 h3.2 aA hpar hr T h1s
   have qP:c7 1 args.length (L.map λr=>fM 1 (args.map λn=>[n]) F.code r.toNat):=⟨by rw[gX,hL],λs hs=>by
    obtain⟨r,hm,rfl⟩:=lZ.1 hs
    have:=T.outs r hm
    exact l5 T.ins h1s.1.2 (by rw[h1s.1.1]) _ aA⟩
   have hss:∀ i,i<args.length->c7 1 args.length ((yA F.code L (l4 1 (args.map λn=>[n]) F.code F.code.length) 1 args.length).getD i []):=λi hi=>by
    have:=yB (sz:=1) (i:=i) b6 T.ins (pU T.ins h1s.1) T.outs
    rw[yA,e8,sO,al8 aA]
    exact this
   have hso:=solved (n:=args.length) (sz:=1) aA b6 (by rw[yA,gX,aXL,hL]) hss qP (M:=wY F.code L 1 args.length (args.map λn=>[n]) (L.map λr=>fM 1 (args.map λn=>[n]) F.code r.toNat)) rfl
   have hfi:=aPQ (L.map λr=>fM 1 (args.map λn=>[n]) F.code r.toNat) (by rw[qP.1];omega) (λs hs=>by rw[(qP.2 s hs).1];decide)
   rw[show((L.map λr=>fM 1 (args.map λn=>[n]) F.code r.toNat).map λs=>s.getD 0 0)=gC F L from by
    rw[zZ]
    exact aCA λr hm=>aHM h1 h2 h3.2 hpar hr b6 h1s (by have:=T.outs r hm;omega)]at hfi
   simp only[aF.aY]at hlin
   first|refine aH.mk (hlin) ?_|refine aG.mk (hlin) ?_|refine aH.bH (hlin) ?_|refine aG.mk (bB.dI (hlin)) ?_
   simp -dsimp -implicitDefEqProofs only[go_sem,↓reduceIte,Tryz.f37]
   rw[aUG]at hso
   first|refine aH.mk (hso) ?_|refine aG.mk (hso) ?_|refine aH.bH (hso) ?_|refine aG.mk (bB.dI (hso)) ?_
   simp -dsimp -implicitDefEqProofs only[go_sem,↓reduceIte,Tryz.f37]
   refine⟨λhf=>?_,λht=>?_⟩
   ·have hD:aW1 F L args:=by
     rw[aW1]
     cases hg:uO o8 args.length (wY F.code L 1 args.length (args.map λn=>[n]) (L.map λr=>fM 1 (args.map λn=>[n]) F.code r.toNat)) args.length with
     |none=>rfl
     |some A=>rw[hg]at hf;cases hf
    rw[show gN p f args dir order=([],6)by rw[gN,if_pos h0,if_pos hA,hr];exact if_pos hD]
    exact Shift.of (Sub.gK (.cons (Sub.nil 1 false) (.cons (.refl _) .nil))) (aB.le_refl _)
   have hnD:¬aW1 F L args:=λq=>by
    have q:uO o8 args.length (wY F.code L 1 args.length (args.map λn=>[n]) (L.map λr=>fM 1 (args.map λn=>[n]) F.code r.toNat)) args.length=none:=q
    rw[q]at ht;cases ht
   obtain⟨o,rfl⟩:∃ o:Nat,order=o:=⟨order.toNat,by omega⟩
   have hres:gN p f args dir o=(r6 F.code L (o+1) args.length (qN (gC F L) dir (o+1) args.length) args (yC o),0):=by
    rw[gN,if_pos h0,if_pos hA,hr]
    simp only[if_neg hnD,r8]
   have G:zL p f args dir L F u (o+1):=⟨h1,h2,hn,by omega,h3.2,h4.2,hld',hpar,hr,T,hL,hnD⟩
   clear ht hso hss hlin qP hif e3 e4 hno h0 hA hnD hr e1 e2 hL
   rw[hres]
   clear hres
   have hvl:(gC F L).length=args.length:=by rw[gC,gX,G.hL]
   have eo:((o+1:Nat):Int)-1=o:=by omega
   have hso:=G.sz'
   have hts:=aWT (sz:=o+1) hso
   have hexv:=aN2 (gC F L) (sz:=o+1) aA hso
   have hexa:=aN2 args (sz:=o+1) hla hso
   rw[eo]at hts hexv hexa
   first|refine aH.mk (hfi) ?_|refine aG.mk (hfi) ?_|refine aH.bH (hfi) ?_|refine aG.mk (bB.dI (hfi)) ?_
   simp -dsimp -implicitDefEqProofs only[go_sem,↓reduceIte,Tryz.f37]
   have hel:(sI (gC F L) (o+1)).length=args.length:=by simp[sI,hvl]
   refine aH.fX (yR.gH hexv (λq=>by rw[q,rU]at hel;omega) h) ?_
   rintro r_ h' ⟨b,hb,rfl,rfl⟩
   rw[hel]
   simp -dsimp -implicitDefEqProofs only[go_sem,↓reduceIte,Tryz.f37]
   intro hbig
   clear hbig
   have hl0:sI (gC F L) (o+1)=gU args.length λi=>if i<0 then iA (bX ((gC F L).getD i 0) (o+1)) (eJ (tS (o+1)) (dir.getD i 0))else bX ((gC F L).getD i 0) (o+1):=by
    apply tI
    ·rw[hel,cO]
    ·intro i a c
     rw[hel]at a
     simp[sI,gU,e8,fC (show i<(gC F L).length by omega)]
   rw[hl0]
   refine cM aL0 a8Q a8R (λk:Nat=>[(1,I f),(2,ints args),(3,ints dir),(4,I o),(5,.ip 1 [[gT 3 aV.c p.aK]] 0 0),(17,.os b 1 0 args.length),(84,.os b 1 0 args.length),(85,I args.length),(86,I k)]) (λk=>aT h b (gH (gU args.length λi=>if i<k then iA (bX ((gC F L).getD i 0) (o+1)) (eJ (tS (o+1)) (dir.getD i 0))else bX ((gC F L).getD i 0) (o+1)))) (λk=>k<=args.length) (λk=>args.length-k) 0 ⟨by simp[cR,bZ],aB.le_refl _,eM _⟩ ?_
   intro k hk
   rcases bT k args.length with hlt|hge
   ·have ek:(gU args.length λi=>if i<k then iA (bX ((gC F L).getD i 0) (o+1)) (eJ (tS (o+1)) (dir.getD i 0))else bX ((gC F L).getD i 0) (o+1))[k]?=some (bX ((gC F L).getD k 0) (o+1)):=by rw[fE _ hlt,if_neg (bV k)]
    have ed:=bW (l:=dir) (i:=k) aA
    have hsc:=scaled (tS (o+1)) (dir.getD k 0) (h4.2.get k) (by rw[aQO];omega) (zK _).2
    have had:=a6D (bX ((gC F L).getD k 0) (o+1)) (eJ (tS (o+1)) (dir.getD k 0)) (by rw[qV,aQO,gE]) aX7 (cS (G.eT.get k)).2 (dM _ (zK (o+1))).2
    simp -dsimp -implicitDefEqProofs only[go_sem,↓reduceIte,Tryz.f37,hlt,gH,cO,ek,ed]
    first|refine aH.mk (hts) ?_|refine aG.mk (hts) ?_|refine aH.bH (hts) ?_|refine aG.mk (bB.dI (hts)) ?_
    simp -dsimp -implicitDefEqProofs only[go_sem,↓reduceIte,Tryz.f37,hlt,gH,cO,ek,ed]
    refine⟨by omega,?_⟩
    first|refine aH.mk (hsc) ?_|refine aG.mk (hsc) ?_|refine aH.bH (hsc) ?_|refine aG.mk (bB.dI (hsc)) ?_
    simp -dsimp -implicitDefEqProofs only[go_sem,↓reduceIte,Tryz.f37,hlt,gH,cO,ek,ed]
    first|refine aH.mk (had) ?_|refine aG.mk (had) ?_|refine aH.bH (had) ?_|refine aG.mk (bB.dI (had)) ?_
    simp -dsimp -implicitDefEqProofs only[go_sem,↓reduceIte,Tryz.f37,hlt,gH,cO,ek,ed]
    have h9:=aGK (gU args.length λi=>if i<k then iA (bX ((gC F L).getD i 0) (o+1)) (eJ (tS (o+1)) (dir.getD i 0))else bX ((gC F L).getD i 0) (o+1)) k (iA (bX ((gC F L).getD k 0) (o+1)) (eJ (tS (o+1)) (dir.getD k 0)))
    rw[a0S (λi=>iA (bX ((gC F L).getD i 0) (o+1)) (eJ (tS (o+1)) (dir.getD i 0))) λi=>bX ((gC F L).getD i 0) (o+1)]at h9
    refine⟨k+1,IntWalk.i64_in _ aA,?_,hlt,by omega⟩
    exact(show ∀ (Y X Z:bU),Y=X->(aT h b X).le (aT (aT h b Z) b Y)from λY X Z e=>by rw[e,aL];exact aB.le_refl _) _ _ _ h9
   ·obtain rfl:k=args.length:=aCH hk hge
    have hlk:(gU args.length λi=>if i<args.length then iA (bX ((gC F L).getD i 0) (o+1)) (eJ (tS (o+1)) (dir.getD i 0))else bX ((gC F L).getD i 0) (o+1))=qN (gC F L) dir (o+1) args.length:=eY λi hi=>if_pos hi
    simp -dsimp -implicitDefEqProofs only[go_sem,↓reduceIte,Tryz.f37,bV,cY,hlk]
    refine aH.mk (bJL hexa) ?_
    simp -dsimp -implicitDefEqProofs only[go_sem,↓reduceIte,Tryz.f37]
    have hlser:=aGS (sz:=o+1) (n:=args.length) G.eT G.nd
    have hit:=G.it
    generalize qN (gC F L) dir (o+1) args.length=line at *
    refine cM aL0 a8Q a8R (λi:Nat=>[(1,I f),(4,I o),(5,.ip 1 [[gT 3 aV.c p.aK]] 0 0),(17,.os b 1 0 args.length),(20,bL (r6 F.code L (o+1) args.length line args i)),(21,I ((2 ^ i:Nat):Int))]) (λ_=>aT h b (gH line)) (λi=>i<=yC o) (λi=>yC o-i) 0 ⟨by simp[cR,bZ,r6],aB.le_refl _,eM _⟩ ?_
    intro i hi
    obtain⟨hst,-⟩:=hit i
    have hki:(((2 ^ i:Nat):Int)<=(o:Int))↔i<yC o:=by
     rw[←aUN (o:=o) aA (aDW hi (a0X o))];omega
    generalize hXe:r6 F.code L (o+1) args.length line args i=X at *
    rcases bT i (yC o)with hlt|hge
    ·have hle:=hki.2 hlt
     have hlin:=a70 G.ok hps hso f G.fn G.na (by have:=G.hn;omega) G.par G.hre G.T hst
     simp only[aF.aY]at hlin
     simp -dsimp -implicitDefEqProofs only[go_sem,↓reduceIte,Tryz.f37,hle]
     first|refine aH.mk (hlin) ?_|refine aG.mk (hlin) ?_|refine aH.bH (hlin) ?_|refine aG.mk (bB.dI (hlin)) ?_
     simp -dsimp -implicitDefEqProofs only[go_sem,↓reduceIte,Tryz.f37]
     have hVl:(L.map λr=>fM (o+1) X F.code r.toNat).length=args.length:=by rw[gX,G.hL]
     have hgs:=G.bQJ hst hlser
     have hVk:∀ k,k<args.length->(L.map λr=>fM (o+1) X F.code r.toNat)[k]?=some (fM (o+1) X F.code (L.getD k 0).toNat)/\aW (o+1) (fM (o+1) X F.code (L.getD k 0).toNat):=λk hk=>by
      have hr:=G.out hk
      have hLl:=G.hL
      refine⟨?_,G.reg hst aA⟩
      rw[sO,fC aA,e8 (l:=L),fC aA];rfl
     have hgk:∀ k,(hk:k<args.length)->(aLW F.code L (o+1) args.length X line)[k]?=some (kD (fM (o+1) X F.code (L.getD k 0).toNat) (line.getD k [])):=λk hk=>fE _ hk
     generalize (L.map λr=>fM (o+1) X F.code r.toNat)=V at *
     obtain⟨Gp,hGp⟩:∃ Gp,Gp=aLW F.code L (o+1) args.length X line:=⟨_,rfl⟩
     rw[←hGp]at hgs hgk
     have hgl:=hgs.1
     refine⟨by decide,λhbig=>?_⟩
     clear hbig
     refine cM aL0 a8Q a8R (λx:Nat×Option Nat=>[(1,I f),(4,I o),(5,.ip 1 [[gT 3 aV.c p.aK]] 0 0),(14,zJ (yA F.code L (l4 (o+1) X F.code F.code.length) (o+1) args.length)),(17,.os b 1 0 args.length),(20,bL X),(21,I ((2 ^ i:Nat):Int)),(22,fT 1 (Gp.take x.1).length x.2),(124,bL V),(125,I args.length),(126,I x.1)]) (λx=>cQ (aT h b (gH line)) (.row 1 (((Gp.take x.1).map λn=>[ints n]).map (List.map .v))) x.2) (λx=>x.1<=args.length/\eU (aT h b (gH line)) (Gp.take x.1) x.2) (λx=>args.length-x.1) (0,none) ⟨by simp[cR,bZ,fT,hVl,G.hL],by simp only[aM];exact aB.le_refl _,eM _,by simp[eU]⟩ ?_
     rintro⟨k,oo⟩ ⟨hk,hos⟩
     simp only at hk hos ⊢
     rcases bT k args.length with iV|aBC
     ·obtain⟨hv1,hv2⟩:=hVk k iV
      obtain⟨hl1,hl2⟩:=hlser.get iV
      have pO:=hgk k iV
      have hred:=reduced (fM (o+1) X F.code (L.getD k 0).toNat) (line.getD k []) (by rw[hv2.1,hl2.1]) (by rw[hv2.1];exact hso.2) hv2.2 hl2.2
      have hy:Gp.take (k+1)=Gp.take k++[kD (fM (o+1) X F.code (L.getD k 0).toNat) (line.getD k [])]:=by
       rw[iW aA]
       rw[fC aA]at pO
       rw[gO pO]
      have hlk:(Gp.take k).length=k:=by rw[nU];omega
      have hll:=hlser.1
      cases oo with
      |none =>
       rw[aZ]at hos
       rw[hos]at hy ⊢
       simp -dsimp -implicitDefEqProofs only[go_sem,↓reduceIte,Tryz.f37,bD,aM,iV,hv1,hl1,gH,hll]
       refine⟨by omega,?_⟩
       first|refine aH.mk (hred) ?_|refine aG.mk (hred) ?_|refine aH.bH (hred) ?_|refine aG.mk (bB.dI (hred)) ?_
       simp -dsimp -implicitDefEqProofs only[go_sem,↓reduceIte,Tryz.f37]
       repeat'(with_reducible first|intro _|refine And.intro ?_ ?_)
       all_goals try(first|omega|decide)
       rename_i b2 sN
       refine⟨(k+1,some b2),?_⟩
       simp only[hy]
       refine⟨⟨rfl,?_⟩,aB.le_refl _,⟨by omega,by rw[aP,aD _ _ _ _ sN.1];exact sN.2⟩,by omega⟩
       rw[IntWalk.i64_in _ aA];rfl
      |some m =>
       rw[aP]at hos
       obtain⟨rD,lN,lM,rZ⟩:=cW (show ¬m=b from λe=>by rw[e,aI]at hos;cases hos)
       simp -dsimp -implicitDefEqProofs only[go_sem,↓reduceIte,Tryz.f37,aQ,aJ,iV,hv1,hl1,gH,lN,lM,aD,hll]
       refine⟨by omega,?_⟩
       first|refine aH.mk (hred) ?_|refine aG.mk (hred) ?_|refine aH.bH (hred) ?_|refine aG.mk (bB.dI (hred)) ?_
       simp -dsimp -implicitDefEqProofs only[go_sem,↓reduceIte,Tryz.f37]
       repeat'(with_reducible first|intro _|refine And.intro ?_ ?_)
       all_goals try(first|omega|decide|exact bY _)
       rename_i b2 sN
       refine⟨(k+1,some b2),?_⟩
       simp only[hy,aJ,aQ,aP]
       refine⟨⟨by rw[nT];rfl,?_⟩,?_,⟨by omega,by rw[aD _ _ _ _ sN.2.1];exact sN.2.2⟩,by omega⟩
       ·rw[IntWalk.i64_in _ aA];rfl
       ·rw[←dS];exact jL hos
     ·have hk':k=args.length:=aCH hk aBC
      subst hk'
      have htk:Gp.take args.length=Gp:=hJ aA
      rw[htk]at hos
      cases oo with
      |none =>
       rw[aZ]at hos
       rw[hos,rU]at hgl
       exact absurd G.hn.1 (by rw[←hgl];decide)
      |some m =>
       rw[aP]at hos
       simp -dsimp -implicitDefEqProofs only[go_sem,↓reduceIte,Tryz.f37,aQ,aJ,bV,cY,htk]
       have hnw:fR Tryz.prog 78 [bL X,zJ (yA F.code L (l4 (o+1) X F.code F.code.length) (o+1) args.length),bL Gp] (.gK [bL (o9 args.length (wY F.code L (o+1) args.length X Gp) X).1,.bool (o9 args.length (wY F.code L (o+1) args.length X Gp) X).2]):=QS.bAY (bC5 (d:=args.length) (sz:=o+1) (by have:=G.hn;omega) hso hst.1 (by rw[yA,gX,aXL,G.hL]) (λi hi=>by
        have:=yB (sz:=o+1) (i:=i) hso G.T.ins (pU G.T.ins hst.1) G.T.outs
        have hLl:=G.hL
        rw[yA,e8,sO,al8 aA]
        exact this) hgs rfl) (λy hy=>x9 hy) (aA7 [] [.bool _])
       refine aH.a6O (es:=Gp.map λs=>[ints s]) hnw (by simp[kK,jK]) (by simp[mZ,aE.fS,hJ]) ?_
       simp -dsimp -implicitDefEqProofs only[go_sem,↓reduceIte,Tryz.f37]
       have hnx:r6 F.code L (o+1) args.length line args (i+1)=(o9 args.length (wY F.code L (o+1) args.length X Gp) X).1:=by rw[r6,hXe,←hGp]
       rw[←hnx]
       refine⟨i+1,⟨rfl,?_⟩,aB.bM hos (aB.le_refl _),hlt,by omega⟩
       have hq:2 ^ i<=o:=(aUN aA (aDW hi (a0X o))).2 hlt
       rw[aJK]
       generalize 2 ^ i=w at hq ⊢
       rw[IntWalk.i64_in _ aA];omega
    ·have hle:¬(((2 ^ i:Nat):Int)<=(o:Int)):=λq=>by have:=hki.1 q;omega
     obtain rfl:i=yC o:=aCH hi hge
     simp -dsimp -implicitDefEqProofs only[go_sem,↓reduceIte,Tryz.f37,hle]
     rw[hXe]
     exact Shift.of (Sub.refl _) (aB.bM hb (aB.le_refl _))
 ·have e:gN p f args dir order=([],jT p f (vJ 6)):=by rw[gN,if_neg h0]
  generalize jT p f (vJ 6)=c at *
  simp only[aF.aY]at hif ⊢
  refine mP 149 aL0 a8Q a8R Tryz.func37 λh=>?_
  simp -dsimp -implicitDefEqProofs only[go_sem,↓reduceIte,Tryz.f37]
  first|refine aH.mk (hif) ?_|refine aG.mk (hif) ?_|refine aH.bH (hif) ?_|refine aG.mk (bB.dI (hif)) ?_
  simp -dsimp -implicitDefEqProofs only[go_sem,↓reduceIte,Tryz.f37,h0]
  rw[e]
  exact Shift.of (Sub.gK (.cons (Sub.nil 1 false) (.cons (.refl _) .nil))) (aB.le_refl _)
theorem bKC (c d:List Int):fR Tryz.prog 23 [.sl 1 (c.map λn=>[.int .u8 n]) false,.sl 1 (d.map λn=>[.int .u8 n]) false] (.bool (decide (3000<c.length∨3000<d.length))):=by
 refine gA 13 aCC cU cG Tryz.func23 λh=>?_
 simp -dsimp -implicitDefEqProofs only[go_sem,↓reduceIte,Tryz.f23]
 exact λ_=>⟨λh1 _=>decide_eq_decide.2 aA,λh1=>(decide_eq_true aA).symm⟩
@[go_sem] def a8T:List Nat:=[0,1,2,6,7,11,15,24]
theorem bKD {L:List (List Int)} {n w:Nat} (hl:L.length=n) (hs:∀ s∈L,s.length=w):fR Tryz.prog 27 [bL L,I n,I w] (.bool true):=by
 subst hl
 refine gA 25 a8T cU cG Tryz.func27 λh=>?_
 simp -dsimp -implicitDefEqProofs only[go_sem,↓reduceIte,Tryz.f27]
 refine λ_=>?_
 refine cM a8T cU cG (λk:Nat=>[(0,bL L),(2,I w),(7,I k)]) (λ_=>h) (λk=>k<=L.length) (λk=>L.length-k) 0 ⟨by simp[cR,bZ],aB.le_refl _,eM _⟩ ?_
 intro k hk
 rcases bT k L.length with hlt|hge
 ·have ea:L[k]?=some L[k]:=fC hlt
  have h0:=hs _ (lF hlt)
  simp -dsimp -implicitDefEqProofs only[go_sem,↓reduceIte,Tryz.f27,hlt,ea,h0]
  exact λ_ _=>⟨k+1,IntWalk.i64_in _ aA,hlt,by omega⟩
 ·obtain rfl:k=L.length:=by omega
  simp -dsimp -implicitDefEqProofs only[go_sem,↓reduceIte,Tryz.f27,bV,cY]
@[go_sem] def a8U:List Nat:=[0,1,4,5,6,11,20]
@[go_sem] def bQQ:List Nat:=[7,29]
theorem a8V {n c sz:Nat} {L:List (List Int)} (hL:c7 sz n L) (hn:n<=1048576) (hsz:c<sz):fR Tryz.prog 30 [bL L,I c] (ints (L.map λs=>s.getD c 0)):=by
 have hll:=hL.1
 refine mP 32 a8U bQQ cG Tryz.func30 λh=>?_
 simp -dsimp -implicitDefEqProofs only[go_sem,↓reduceIte,Tryz.f30]
 refine⟨aX,?_⟩
 have hcl:(L.map λs=>s.getD c 0).length=L.length:=gX _
 refine cM a8U bQQ cG (λx:Nat×Option Nat=>[(0,bL L),(1,I c),(5,fT 1 ((L.map λs=>s.getD c 0).take x.1).length x.2),(6,I x.1)]) (λx=>cQ h (.row 1 ((((L.map λs=>s.getD c 0).take x.1).map λn=>[I n]).map (List.map .v))) x.2) (λx=>x.1<=L.length/\eU h ((L.map λs=>s.getD c 0).take x.1) x.2) (λx=>L.length-x.1) (0,none) ⟨by simp[cR,bZ,fT],by simp only[aM];exact aB.le_refl _,eM _,by simp[eU]⟩ ?_
 rintro⟨k,o⟩ ⟨hk,hos⟩
 simp only at hk hos ⊢
 rcases bT k L.length with hlt|hge
 ·have ea:L[k]?=some L[k]:=fC hlt
  have h0:=hL.2 _ (lF hlt)
  have e0:(L[k])[c]?=some (L[k].getD c 0):=bW (by rw[h0.1];exact hsz)
  have h0l:=h0.1
  have hy:(L.map λs=>s.getD c 0).take (k+1)=(L.map λs=>s.getD c 0).take k++[(L.map λs=>s.getD c 0)[k]'aA]:=iW aA
  have hlk:((L.map λs=>s.getD c 0).take k).length=k:=by rw[nU];omega
  rw[tJ]at hy
  cases o with
  |none =>
   rw[aZ]at hos
   rw[hos]at hy ⊢
   simp -dsimp -implicitDefEqProofs only[go_sem,↓reduceIte,Tryz.f30,bD,aM,hlt,ea,e0,h0l,hsz]
   repeat'(with_reducible first|intro _|refine And.intro ?_ ?_)
   all_goals try(first|omega|decide)
   rename_i b hb
   refine⟨(k+1,some b),?_⟩
   simp only[hy]
   refine⟨⟨rfl,?_⟩,aB.le_refl _,⟨by omega,hb⟩,by omega⟩
   rw[IntWalk.i64_in _ aA];rfl
  |some n =>
   rw[aP]at hos
   simp -dsimp -implicitDefEqProofs only[go_sem,↓reduceIte,Tryz.f30,aQ,aJ,hlt,ea,e0,h0l,hsz]
   repeat'(with_reducible first|intro _|refine And.intro ?_ ?_)
   all_goals try(first|omega|decide|exact bY _)
   rename_i b hb
   refine⟨(k+1,some b),?_⟩
   simp only[hy,aJ,aQ,aP]
   refine⟨⟨by rw[nT];rfl,?_⟩,?_,⟨by omega,hb.2⟩,by omega⟩
   ·rw[IntWalk.i64_in _ aA];rfl
   ·rw[←dS];exact jL hos
 ·have hk':k=L.length:=by omega
  subst hk'
  rw[hJ aA]at hos ⊢
  cases o with
  |none =>
   rw[aZ]at hos
   simp -dsimp -implicitDefEqProofs only[go_sem,↓reduceIte,Tryz.f30,bD,aM,bV,cY]
   rw[hos]
   exact λ_=>Shift.of (Sub.loose _ _ _) (aB.le_refl _)
  |some n =>
   rw[aP]at hos
   simp -dsimp -implicitDefEqProofs only[go_sem,↓reduceIte,Tryz.f30,aQ,aJ,bV,cY]
   exact λ_=>fU _ hos (aB.le_refl _) hcl.symm
@[go_sem] def a8W:List Nat:=[0,1,4,5,6,10,15]
@[go_sem] def bQR:List Nat:=[7,17,20]
theorem bKE (n i:Nat) (hn:n<=1048576) (hi:i<n):fR Tryz.prog 32 [I n,I i] (ints (eV n i)):=by
 refine mP 23 a8W bQR cG Tryz.func32 λh=>?_
 simp -dsimp -implicitDefEqProofs only[go_sem,↓reduceIte,Tryz.f32]
 refine⟨aX,?_⟩
 have hcl:=uN n i
 refine cM a8W bQR cG (λx:Nat×Option Nat=>[(0,I n),(1,I i),(5,fT 1 ((eV n i).take x.1).length x.2),(6,I x.1)]) (λx=>cQ h (.row 1 ((((eV n i).take x.1).map λn=>[I n]).map (List.map .v))) x.2) (λx=>x.1<=n/\eU h ((eV n i).take x.1) x.2) (λx=>n-x.1) (0,none) ⟨by simp[cR,bZ,fT],by simp only[aM];exact aB.le_refl _,eM _,by simp[eU]⟩ ?_
 rintro⟨k,o⟩ ⟨hk,hos⟩
 simp only at hk hos ⊢
 rcases bT k n with hlt|hge
 ·have hy:(eV n i).take (k+1)=(eV n i).take k++[(eV n i)[k]'aA]:=iW aA
  have hlk:((eV n i).take k).length=k:=by rw[nU];omega
  have hek:(eV n i)[k]'aA=if k=i then 1 else 0:=by
   simp only[eV,aD1,List.getElem_replicate]
   by_cases e:k=i
   ·rw[if_pos e,if_pos e.symm]
   ·rw[if_neg e,if_neg (iK e)]
  rw[hek]at hy
  by_cases e:k=i
  ·rw[if_pos e]at hy
   subst e
   cases o with
   |none =>
    rw[aZ]at hos
    rw[hos]at hy ⊢
    simp -dsimp -implicitDefEqProofs only[go_sem,↓reduceIte,Tryz.f32,bD,aM,hlt]
    repeat'(with_reducible first|intro _|refine And.intro ?_ ?_)
    all_goals try(first|omega|decide)
    rename_i b hb
    refine⟨(k+1,some b),?_⟩
    simp only[hy]
    refine⟨⟨rfl,?_⟩,aB.le_refl _,⟨by omega,hb⟩,by omega⟩
    rw[IntWalk.i64_in _ aA];rfl
   |some n =>
    rw[aP]at hos
    simp -dsimp -implicitDefEqProofs only[go_sem,↓reduceIte,Tryz.f32,aQ,aJ,hlt]
    repeat'(with_reducible first|intro _|refine And.intro ?_ ?_)
    all_goals try(first|omega|decide|exact bY _)
    rename_i b hb
    refine⟨(k+1,some b),?_⟩
    simp only[hy,aJ,aQ,aP]
    refine⟨⟨by rw[nT];rfl,?_⟩,?_,⟨by omega,hb.2⟩,by omega⟩
    ·rw[IntWalk.i64_in _ aA];rfl
    ·rw[←dS];exact jL hos
  ·rw[if_neg e]at hy
   have e':¬(k:Int)=i:=by omega
   cases o with
   |none =>
    rw[aZ]at hos
    rw[hos]at hy ⊢
    simp -dsimp -implicitDefEqProofs only[go_sem,↓reduceIte,Tryz.f32,bD,aM,hlt,e']
    repeat'(with_reducible first|intro _|refine And.intro ?_ ?_)
    all_goals try(first|omega|decide)
    rename_i b hb
    refine⟨(k+1,some b),?_⟩
    simp only[hy]
    refine⟨⟨rfl,?_⟩,aB.le_refl _,⟨by omega,hb⟩,by omega⟩
    rw[IntWalk.i64_in _ aA];rfl
   |some n =>
    rw[aP]at hos
    simp -dsimp -implicitDefEqProofs only[go_sem,↓reduceIte,Tryz.f32,aQ,aJ,hlt,e']
    repeat'(with_reducible first|intro _|refine And.intro ?_ ?_)
    all_goals try(first|omega|decide|exact bY _)
    rename_i b hb
    refine⟨(k+1,some b),?_⟩
    simp only[hy,aJ,aQ,aP]
    refine⟨⟨by rw[nT];rfl,?_⟩,?_,⟨by omega,hb.2⟩,by omega⟩
    ·rw[IntWalk.i64_in _ aA];rfl
    ·rw[←dS];exact jL hos
 ·have hk':k=n:=by omega
  subst hk'
  rw[hJ aA]at hos ⊢
  cases o with
  |none =>
   rw[aZ]at hos
   simp -dsimp -implicitDefEqProofs only[go_sem,↓reduceIte,Tryz.f32,bD,aM,bV,cY]
   rw[hos]
   exact Shift.of (Sub.loose _ _ _) (aB.le_refl _)
  |some n =>
   rw[aP]at hos
   simp -dsimp -implicitDefEqProofs only[go_sem,↓reduceIte,Tryz.f32,aQ,aJ,bV,cY]
   exact fU _ hos (aB.le_refl _) rfl
@[go_sem] def bW9:List Nat:=[0,1,4,5,6,16]
@[go_sem] def b2H:Marks:=λid=>match id with|5=>([9,10],(.op 0 (.op 1 (.op 2 (.op 3 (.op 4 (.op 5 (.op 6 (.op 7 (.op 8 (.op 9 (.op 10 (.op 11 .nil)))))))))))),[])|_=>([],.nil,[])
theorem aUQ {p:aF} {f:Int} {args L:List Int} {F:dQ} {u:Nat} (na:eI args) (T:aUD p f args L F u) {i o:Nat} (ho:o<L.length):(aBG p f args i).getD o 0=(fM 2 (jH args (eV args.length i)) F.code (L.getD o 0).toNat).getD 1 0:=by
 rw[aBG,T.ev 2 _ b6 (aQP na i),s3,a6P]
 simp only[if_true]
 rw[e8,sO,sO,fC ho,e8 (l:=L),fC ho];rfl
theorem aQ0 {p:aF} (hp:p.ok) (f:Int) (hf:0<=f/\f<p.aK.length) (args:List Int) (hal:args.length<=12) (na:eI args) (hl:∀ F,p.aK[f.toNat]?=some F->(args.length:Int)=F.aR) {c:Int} (he:xP p 1 f (args.map λn=>[n])=.error c) :
  fR Tryz.prog 88 [.ip 1 [p.c] 0 0,I f,ints args] (.gK [bL [],I c]):=by
 have nX:=a0L hp f hf args na hal hl
 have hc:=aE0 p 1 f _ c he
 rw[he,show aBM (.error c)=([],0,c)from rfl,aF.aY]at nX
 rw[aF.aY]
 refine mP 83 aDK aWO aWP Tryz.func88 λh=>?_
 simp -dsimp -implicitDefEqProofs only[go_sem,↓reduceIte,Tryz.f88]
 first|refine aH.mk (nX) ?_|refine aG.mk (nX) ?_|refine aH.bH (nX) ?_|refine aG.mk (bB.dI (nX)) ?_
 simp -dsimp -implicitDefEqProofs only[go_sem,↓reduceIte,Tryz.f88]
 refine⟨by decide,λn hn=>?_⟩
 refine cM aDK aWO aWP (λx:Nat=>[(0,.ip 1 [[gT 3 aV.c p.aK]] 0 0),(1,I f),(2,ints args),(8,ints []),(10,I c),(11,.os n 1 0 0),(12,I x)]) (λ_=>aT h n (.row 1 [])) (λx=>x=0) (λx=>0) 0 ⟨by simp[cR,bZ],aB.le_refl _,rfl⟩ ?_
 rintro x rfl
 simp -dsimp -implicitDefEqProofs only[go_sem,↓reduceIte,Tryz.f88,bV,cY,rU]
 refine cM aDK aWO aWP (λx:Nat=>[(0,.ip 1 [[gT 3 aV.c p.aK]] 0 0),(1,I f),(2,ints args),(10,I c),(11,.os n 1 0 0),(13,I x)]) (λ_=>aT h n (.row 1 [])) (λx=>x=0) (λx=>0) 0 ⟨by simp[cR,bZ],aB.le_refl _,rfl⟩ ?_
 rintro x rfl
 simp -dsimp -implicitDefEqProofs only[go_sem,↓reduceIte,Tryz.f88]
 have hend:Shift (.gK [.sl 1 [] true,I c]) (aT h n (.row 1 [])) (.gK [bL [],I c]) h:=Shift.of (Sub.gK (.cons (Sub.loose _ _ _) (.cons (.refl _) .nil))) (aB.bM hn (aB.le_refl _))
 exact λ_=>⟨λ_=>⟨λq=>absurd q aA,λ_=>⟨λ_=>⟨by decide,hend⟩,λq=>absurd q aA⟩⟩,λ_=>⟨λ_=>⟨by decide,hend⟩,λq=>absurd q aA⟩⟩
def aMS (p:aF) (f:Int) (args:List Int):List (List Int):=zA (aBG p f args) args.length args.length 0
theorem a8X (p:aF) (f:Int) (args:List Int):(aMS p f args).length=args.length:=aE2 _ _ _ _
theorem aQ1 (p:aF) (f:Int) (args:List Int) {o:Nat} (ho:o<args.length):(aMS p f args).getD o []=(List.range args.length).map λk=>(aBG p f args k).getD o 0:=by
 rw[aMS,e8,zA,sO,al8 ho]
 simp only[aDX,aDY,if_neg (aRJ o)]
theorem a07 {p:aF} {f:Int} {args L:List Int} {F:dQ} {u:Nat} (hp:p.ok) (hf:0<=f/\f<p.aK.length) (na:eI args) (hpar:∀ H,p.aK[f.toNat]?=some H->(args.length:Int)=H.aR) (hr:zB p f args=.ok ((L,F),u)) (T:aUD p f args L F u) (hL:L.length=args.length) :
  ∀ o,o<args.length->∀ k,k<args.length->((aMS p f args).getD o []).getD k 0=(wY F.code L 1 args.length (args.map λn=>[n]) (L.map λr=>fM 1 (args.map λn=>[n]) F.code r.toNat) o k).getD 0 0:=λo ho k hk=>by
 have h1:=aGR na
 have h2:=aQP na k
 rw[aQ1 p f args ho,e8,sO,al8 hk,aDX,aDY,aUQ na T aA,aFF hL ho hk]
 have h3:=a3M T.ins T.outs (o:=o) aA (pU T.ins h2.1) na rfl (λi q hq=>by rw[aHM hp hf na hpar hr b6 (aQP na i) hq,←aHM hp hf na hpar hr b6 h2 hq];rfl) (i:=k) hk
 rw[←h3]
 exact aN9 b6 b6 T.ins T.outs (pU T.ins h2.1) (pU T.ins h1.1) (λq hq=>by rw[aHM hp hf na hpar hr b6 h2 hq,aHM hp hf na hpar hr b6 h1 hq]) aA hk
theorem St.put {args:List Int} {sz:Nat} {Y:List (List Int)} (h:St args sz Y) (i k:Nat) {v:Int} (hv:iE v):St args sz (Y.set i ((Y.getD i []).set (k+1) v)):=by
 by_cases hi:i<args.length
 ·have hYi:=(h.1.get hi).2
  refine⟨h.1.set ⟨by rw[p7];exact hYi.1,λx hx=>?_⟩ i,λq hq=>?_⟩
  ·rcases s6 hx with hx|rfl
   ·exact hYi.2 x hx
   ·exact hv
  ·rw[←h.2 q hq]
   by_cases e:i=q
   ·subst e
    rw[e8 (l:=Y.set _ _),nH (by rw[h.1.1];exact hi),aDY,e8,mG aA,←e8]
   ·rw[e8 (l:=Y.set _ _),mG e,←e8]
 ·rw[List.set_eq_of_length_le (by rw[h.1.1];omega)];exact h
theorem a3Q (Y:List (List Int)) (i k:Nat):((Y.map λs=>s.take (k+2)).getD i []).getD 0 0=(Y.getD i []).getD 0 0:=by
 simp only[e8,sO]
 cases Y[i]? with
 |none=>simp
 |some s=>simp[List.getElem?_take]
@[go_sem] def aGT:List Nat:=[0,1,2,3,4,5,10,11,12,13,14,15,16,17,19,20,21,22,23,54,56,66,71,77,92,110,114,137]
@[go_sem] def a3R:List Nat:=[5,57,67,72,73,88,106,129]
@[go_sem] def a3S:Marks:=λid=>match id with|32=>([3,10],(.op 0 (.op 1 (.op 2 (.op 4 (.op 5 (.op 6 (.op 7 (.op 8 (.op 3 (.op 9 (.op 10 .nil))))))))))),[])|_=>([],.nil,[])
set_option maxHeartbeats 4000000 in
theorem aH5 (p:aF) (hps:p.s<=4194304) (f:Int) (args dir:List Int) (order:Int) (hla:args.length<=1048576) (hld:dir.length<=1048576):fR Tryz.prog 36 [.agg p.c,I f,ints args,ints dir,I order] (.gK [.any,I (gN p f args dir order).2]):=by
 have heq:=bJP p hps f 6
 by_cases h0:jT p f (vJ 6)=0
 ·obtain⟨h1,h2,F0,ef,e1,e2,e3⟩:=aDL h0
  rw[h0]at heq
  have e4:=aQZ e3
  simp only[aF.aY]at heq ⊢
  refine mP 151 aGT a3R a3S Tryz.func36 λh=>?_
  simp -dsimp -implicitDefEqProofs only[go_sem,↓reduceIte,Tryz.f36]
  first|refine aH.mk (heq) ?_|refine aG.mk (heq) ?_|refine aH.bH (heq) ?_|refine aG.mk (bB.dI (heq)) ?_
  simp -dsimp -implicitDefEqProofs only[go_sem,↓reduceIte,Tryz.f36,ef,aV.aY]
  refine⟨h2.1,h2.2,?_⟩
  have hno:¬aW0 p f args dir order->Shift (.gK [.sl 1 [] true,I 2]) h (.gK [.any,I (gN p f args dir order).2]) h:=λq=>by
   rw[gN,if_pos h0,if_neg q]
   exact Shift.of (Sub.gK (.cons (Sub.any _) (.cons (.refl _) .nil))) (aB.le_refl _)
  first|refine aH.mk (oM args F0.aR) ?_|refine aG.mk (oM args F0.aR) ?_|refine aH.bH (oM args F0.aR) ?_|refine aG.mk (bB.dI (oM args F0.aR)) ?_
  simp -dsimp -implicitDefEqProofs only[go_sem,↓reduceIte,Tryz.f36,ef,aV.aY]
  refine⟨λh3=>⟨h2.1,h2.2,?_⟩,λh3=>⟨by decide,hno λq=>h3 (by rw[←e1];exact q.1)⟩⟩
  first|refine aH.mk (oM dir F0.aR) ?_|refine aG.mk (oM dir F0.aR) ?_|refine aH.bH (oM dir F0.aR) ?_|refine aG.mk (bB.dI (oM dir F0.aR)) ?_
  simp -dsimp -implicitDefEqProofs only[go_sem,↓reduceIte,Tryz.f36,ef,aV.aY]
  refine⟨λh4=>?_,λh4=>⟨by decide,hno λq=>h4 (by rw[←e1];exact q.2.1)⟩⟩
  first|refine aH.mk (fJ order 0 12) ?_|refine aG.mk (fJ order 0 12) ?_|refine aH.bH (fJ order 0 12) ?_|refine aG.mk (bB.dI (fJ order 0 12)) ?_
  simp -dsimp -implicitDefEqProofs only[go_sem,↓reduceIte,Tryz.f36]
  refine⟨λh5=>⟨by decide,hno λq=>h5 q.2.2⟩,λh5=>?_⟩
  have hA:aW0 p f args dir order:=⟨by rw[e1];exact h3,by rw[e1];exact h4,h5⟩
  have hn:1<=args.length/\args.length<=6:=by omega
  have hld':dir.length=args.length:=by omega
  have na:=h3.2
  have nd:=h4.2
  have hpar:∀ H,p.aK[f.toNat]?=some H->(args.length:Int)=H.aR:=λH hH=>by rw[ef]at hH;cases hH;exact h3.1
  have a8Y:=aGR na
  cases hr:zB p f args with
  |error c =>
   have he:=(aI0 h1 h2 na hpar hr).1
   have hc:=aE0 p 1 f _ c he
   have hjE:=aQ0 h1 f h2 args aA na hpar he
   rw[aF.aY]at hjE
   first|refine aH.mk (hjE) ?_|refine aG.mk (hjE) ?_|refine aH.bH (hjE) ?_|refine aG.mk (bB.dI (hjE)) ?_
   simp -dsimp -implicitDefEqProofs only[go_sem,↓reduceIte,Tryz.f36]
   rw[show gN p f args dir order=([],c)by rw[gN,if_pos h0,if_pos hA,hr]]
   exact⟨λ_=>⟨by decide,Shift.of (Sub.gK (.cons (Sub.any _) (.cons (.refl _) .nil))) (aB.le_refl _)⟩,λq=>absurd hc aA⟩
  |ok z =>
   obtain⟨⟨L,F⟩,u⟩:=z
   have T:=a7U h1 h2 na aA hpar hr
   have hL:L.length=args.length:=by
    have:=T.ll
    rw[e2]at this
    omega
   have hjac:=bCQ (aUC h1 f h2 args aA na hpar (T.ev 1 _ b6 a8Y))
   rw[←T.ll,hL,show zA (aBG p f args) args.length args.length 0=aMS p f args from rfl,aF.aY]at hjac
   have hsys:=a07 h1 h2 na hpar hr T hL
   have qP:c7 1 args.length (L.map λr=>fM 1 (args.map λn=>[n]) F.code r.toNat):=⟨by rw[gX,hL],λs hs=>by
    obtain⟨r,hm,rfl⟩:=lZ.1 hs
    have:=T.outs r hm
    exact l5 T.ins a8Y.1.2 (by rw[a8Y.1.1]) _ aA⟩
   have hok:=aI3 (sz:=1) b6 T.ins T.outs hL a8Y.1 qP
   have hRl:=a8X p f args
   have hRw:∀ i,i<args.length->((aMS p f args).getD i []).length=args.length:=λi hi=>by rw[aQ1 p f args hi];simp
   have hRn:∀ i,i<args.length->eI ((aMS p f args).getD i []):=λi hi x hx=>by
    obtain⟨k,hk,e⟩:=aCE.1 hx
    rw[hRw i hi]at hk
    have h5:=hsys i hi k hk
    rw[e8 (l:=(aMS p f args).getD i []),fC (by rw[hRw i hi];exact hk),aDY,e]at h5
    rw[h5]
    exact(hok i hi k aA).2.get 0
   have hdet:=bJY (n:=args.length) aA hRl hRw hRn
   have hdz:aUK args.length (λi k=>((aMS p f args).getD i []).getD k 0)=0↔aW1 F L args :=
    (a8G (λi hi k hk=>(hRn i hi).get k) λ_=>0).trans (aLO (sz:=1) (w:=args.length) b6 (bY _) (λi hi k hk=>hok i hi k aA) λi hi k hk=>by rw[vI,if_pos hk,hsys i hi k hk]).symm
   first|refine aH.mk (hjac) ?_|refine aG.mk (hjac) ?_|refine aH.bH (hjac) ?_|refine aG.mk (bB.dI (hjac)) ?_
   simp -dsimp -implicitDefEqProofs only[go_sem,↓reduceIte,Tryz.f36]
   first|refine aH.mk (hdet) ?_|refine aG.mk (hdet) ?_|refine aH.bH (hdet) ?_|refine aG.mk (bB.dI (hdet)) ?_
   simp -dsimp -implicitDefEqProofs only[go_sem,↓reduceIte,Tryz.f36]
   refine⟨λhd0=>⟨by decide,?_⟩,λhd0=>⟨by decide,?_⟩⟩
   ·rw[show gN p f args dir order=([],6)by rw[gN,if_pos h0,if_pos hA,hr];exact if_pos (hdz.1 hd0)]
    exact Shift.of (Sub.gK (.cons (Sub.any _) (.cons (.refl _) .nil))) (aB.le_refl _)
   obtain⟨o,rfl⟩:∃ o:Nat,order=o:=⟨order.toNat,by omega⟩
   have e:(gN p f args dir o).2=0:=by
    rw[gN,if_pos h0,if_pos hA,hr]
    simp only[if_neg λq=>hd0 (hdz.2 q)]
   rw[e]
   obtain⟨R,hR⟩:∃ R,R=aMS p f args:=⟨_,rfl⟩
   rw[←hR]at hRl hRw hRn hd0 ⊢
   have b2I:o<=12:=by omega
   have hsz:1<=o+1/\o+1<=1048576:=by omega
   have bXA:1<=args.length/\args.length<=12:=by omega
   have hw1:IntKind.i64.wrap ((o:Int)+1)=((o+1:Nat):Int):=IntWalk.i64_in _ aA
   have hel:(sI args (o+1)).length=args.length:=by simp[sI]
   have hX0:=aWX na hsz.1
   clear heq e1 e2 e3 e4 ef h3 h4 h5 hA hno a8Y hsys qP hok hdet hdz hjac e hla hld hps h0 hR hr
   refine cM aGT a3R a3S (λx:Nat×LLx=>[(1,I f),(2,ints args),(3,ints dir),(4,I o),(5,.ip 1 [[gT 3 aV.c p.aK]] 0 0),(13,bL R),(14,fT 1 x.1 x.2.1),(15,I x.1)]) (λx=>LLH x.2) (λx=>x.1<=args.length/\LLG h ((sI args (o+1)).take x.1) x.2) (λx=>args.length-x.1) (0,none,[],h) ⟨by simp[cR,bZ,fT],aB.le_refl _,eM _,LLG.init _⟩ ?_
   rintro⟨k,op,es,g⟩ ⟨hk,H⟩
   simp only at hk H ⊢
   rcases bT k args.length with hlt|hge
   ·have ea:args[k]?=some args[k]:=fC hlt
    have hy:(sI args (o+1)).take (k+1)=(sI args (o+1)).take k++[bX args[k] (o+1)]:=by
     rw[iW aA];simp[sI]
    have hlk:((sI args (o+1)).take k).length=k:=by rw[nU];omega
    have zI:=H.len
    simp only[hlk]at zI
    have hown:=a3D args[k] (sz:=o+1) hsz
    have hc2:=gE args[k] (o+1)
    obtain⟨z2,hz2⟩:∃ z,z=o+1:=⟨_,rfl⟩
    have hc:(bX args[k] (o+1)).length=z2:=by rw[hz2,hc2]
    cases op with
    |none =>
     obtain⟨h1',rfl,rfl⟩:=H.nil
     obtain rfl:k=0:=by rw[←hlk,h1'];rfl
     simp -dsimp -implicitDefEqProofs only[go_sem,↓reduceIte,Tryz.f36,hlt,ea,bD,LLH,aM,hw1]
     intro _
     refine aH.wn0 (hown) ?_
     rintro r_ l_ g ⟨y_,oy_,rfl,rfl⟩ wn_
     rcases oy_.aA9 with⟨_,q_⟩|⟨m,rfl⟩
     ·rw[q_]at hc;simp at hc;omega
     rw[OV.jG]
     rw[OV.eK,gL,fP]at wn_
     obtain⟨zm,rfl⟩:=wn_.tG
     simp -dsimp -implicitDefEqProofs only[go_sem,↓reduceIte,Tryz.f36,hc2,bD]
     refine⟨aX,aX,aX,λb ⟨b1,b2⟩=>?_⟩
     obtain⟨x',e',H',L'⟩:=H.fin (m:=m) (b:=b) (s:=bX args[0] (o+1)) (hc2) zm b2 b1 (aB.le_refl _)
     refine⟨(1,x'),⟨by simp only[e'];rfl,IntWalk.i64_in _ aA⟩,L',⟨hlt,by simp only;rw[hy];exact H'⟩,by simp only;omega⟩
    |some n =>
     simp -dsimp -implicitDefEqProofs only[go_sem,↓reduceIte,Tryz.f36,hlt,ea,aQ,LLH,aJ,cP,zI,hw1]
     intro _
     refine aH.wn1 (hown) H.2.2 ?_
     rintro r_ l_ g' ⟨y_,oy_,rfl,rfl⟩ wn_ zn
     rcases oy_.aA9 with⟨_,q_⟩|⟨m,rfl⟩
     ·rw[q_]at hc;simp at hc;omega
     rw[OV.jG]
     rw[OV.eK,gL,fP]at wn_
     obtain⟨zm,rfl⟩:=wn_.tG
     obtain⟨aAE,lI,lJ,aHI⟩:=cW (show ¬m=n from λe=>by rw[e,aI]at zn;cases zn)
     simp -dsimp -implicitDefEqProofs only[go_sem,↓reduceIte,Tryz.f36,hc2,lI,lJ,aD,cP,zI,aQ]
     refine⟨aX,aX,aX,bY _,by omega,by omega,λb ⟨bn,bm,bz⟩=>?_⟩
     rw[show List.take k (OV.cells es)=OV.cells es from zI▸eQ es]
     refine⟨(k+1,some b,es++[oI m (bX args[k] (o+1))],aT g m (mH (bX args[k] (o+1)))),⟨rfl,IntWalk.i64_in _ aA⟩,?_,⟨hlt,by simp only;rw[hy];exact H.snoc (bX args[k] (o+1)) zm bz bm⟩,by simp only;omega⟩
     show(LLH (some b,es++[oI m (bX args[k] (o+1))],aT g m (mH (bX args[k] (o+1))))).le _
     rw[LLH.snoc,show List.length (bX args[k] (o+1))=_ from hc2]
     exact aQG H.2.2 aAE bn (λq hq=>by simp only[fN,if_neg hq];(repeat' split) <;> first|rfl|contradiction)
   ·obtain rfl:k=args.length:=aCH hk hge
    simp -dsimp -implicitDefEqProofs only[go_sem,↓reduceIte,Tryz.f36,bV,cY]
    intro hbig
    clear hbig hk hge
    rw[hJ aA]at H
    obtain⟨y,hy,hv,hw⟩:=H.done
    rw[hel]at hv
    generalize LLH (op,es,g)=G0 at *
    rw[←hv]
    rcases hy with⟨rfl,h0'⟩|⟨b,es,rfl,hes⟩
    ·rw[h0']at hel;simp at hel;omega
    have bQT:es.length=args.length:=by rw[←hes.length,hel]
    rw[OV.wV,bQT]
    have hnw:fI h (OV.b5 [OV.sl b 1 es]) G0:=by rw[OV.eP,OV.iQ,dR];exact hw
    refine cM aGT a3R a3S (λx:Nat×List (List Int)×List (List OV)×aB=>[(1,I f),(3,ints dir),(4,I o),(5,.ip 1 [[gT 3 aV.c p.aK]] 0 0),(13,bL R),(14,.os b 1 0 args.length),(16,I ((x.1:Int)+1))]) (λx=>x.2.2.2) (λx=>x.1<=o/\St args (o+1) x.2.1/\OR (oL I) x.2.1 x.2.2.1/\fI h (OV.b5 [OV.sl b 1 x.2.2.1]) x.2.2.2) (λx=>o-x.1) (0,sI args (o+1),es,G0) ⟨by simp[cR,bZ],aB.le_refl _,eM _,hX0,hes,hnw⟩ ?_
    clear hes hnw hw hv bQT H hX0
    rintro⟨k,Y,es,g⟩ ⟨hk,hYs,hes,hnw⟩
    simp only at hk hYs hes hnw ⊢
    have hgb:g b=some (.row 1 (OV.cells es)):=hnw.aYZ []
    have hYl:=hYs.1.1
    have hesl:es.length=args.length:=by rw[←hes.length,hYl]
    rcases bT k o with hlt|hge
    ·have hle:(k:Int)+1<=o:=by omega
     have wk2:IntKind.i64.wrap ((k:Int)+1+1)=((k+2:Nat):Int):=by rw[IntWalk.i64_in _ aA];omega
     have a3T:St args (k+2) (Y.map λs=>s.take (k+2)):=⟨⟨by rw[gX,hYl],λs hs=>by
      obtain⟨r,hr,rfl⟩:=lZ.1 hs
      have h5:=hYs.1.2 r hr
      exact⟨by rw[nU,h5.1];omega,λx hx=>h5.2 x (aU7 hx)⟩⟩,λi hi=>by
      rw[←hYs.2 i hi];exact a3Q Y i k⟩
     have hcut:=bCT Y (sz:=o+1) (k:=k+2) hYs.1.2 aA hsz.2 aA
     have aW2:=a0M h1 (sz:=k+2) aA f h2 (Y.map λs=>s.take (k+2)) a3T.1.2 (λH hH=>by rw[a3T.1.1];exact hpar H hH)
     have hTe:=T.ev (k+2) _ aA a3T
     rw[hTe,show s3 (.ok ((L.map λr=>fM (k+2) (Y.map λs=>s.take (k+2)) F.code r.toNat),u))=((L.map λr=>fM (k+2) (Y.map λs=>s.take (k+2)) F.code r.toNat),(u:Int),0)from rfl,aF.aY]at aW2
     have hWs:c7 (k+2) args.length (L.map λr=>fM (k+2) (Y.map λs=>s.take (k+2)) F.code r.toNat):=⟨by rw[gX,hL],λs hs=>by
      obtain⟨r,hm,rfl⟩:=lZ.1 hs
      exact l5 T.ins a3T.1.2 (by rw[a3T.1.1]) _ (by have:=T.outs r hm;omega)⟩
     generalize (L.map λr=>fM (k+2) (Y.map λs=>s.take (k+2)) F.code r.toNat)=W at aW2 hWs
     simp -dsimp -implicitDefEqProofs only[go_sem,↓reduceIte,Tryz.f36,hle,wk2]
     refine aH.bJK hcut (mA.cons (a3E hes hnw hYl.symm) (mA.cons (View.same _ _) mA.nil)) ?_
     simp -dsimp -implicitDefEqProofs only[go_sem,↓reduceIte,Tryz.f36,wk2]
     first|refine aH.mk (aW2) ?_|refine aG.mk (aW2) ?_|refine aH.bH (aW2) ?_|refine aG.mk (bB.dI (aW2)) ?_
     simp -dsimp -implicitDefEqProofs only[go_sem,↓reduceIte,Tryz.f36]
     refine⟨by decide,?_⟩
     obtain⟨Q,hQ⟩:∃ Q:List Int,Q=gU args.length λi=>((if k=0 then dir.getD i 0 else 0)-(W.getD i []).getD (k+1) 0)%1000003:=⟨_,rfl⟩
     have hQl:Q.length=args.length:=by rw[hQ,cO]
     have hQn:eI Q:=λx hx=>by
      rw[hQ]at hx
      obtain⟨i,_,rfl⟩:=lZ.1 hx
      exact dY _
     obtain⟨A0,hA0⟩:∃ A0,uO gM args.length (vI args.length (λi k=>(R.getD i []).getD k 0) λi=>Q.getD i 0) args.length=some A0:=by
      cases hq:uO gM args.length (vI args.length (λi k=>(R.getD i []).getD k 0) λi=>Q.getD i 0) args.length with
      |none=>exact absurd ((a8G (λi hi k hk=>(hRn i hi).get k) λi=>Q.getD i 0).2 hq) hd0
      |some A0=>exact⟨A0,rfl⟩
     have hsolve:=a79 (n:=args.length) bXA hRl hRw hRn hQl hQn hA0
     have hNl:(gU args.length λi=>A0 i args.length).length=args.length:=cO _ _
     have hNn:eI (gU args.length λi=>A0 i args.length):=λx hx=>by
      obtain⟨i,hi,rfl⟩:=lZ.1 hx
      have hi:=aDZ.1 hi
      have hokN:okM iE args.length (vI args.length (λi k=>(R.getD i []).getD k 0) λi=>Q.getD i 0):=bJI (λi hi k hk=>(hRn i hi).get k) λi hi=>hQn.get i
      exact(aFC a0I hokN args.length (bY _) A0 hA0).1 i hi args.length (bY _)
     generalize (gU args.length λi=>A0 i args.length)=Nw at hsolve hNl hNn
     clear aW2 hcut a3T hTe hA0 T hpar
     refine cM aGT a3R a3S (λx:Nat×Option Nat=>[(1,I f),(3,ints dir),(4,I o),(5,.ip 1 [[gT 3 aV.c p.aK]] 0 0),(13,bL R),(14,.os b 1 0 args.length),(16,I ((k:Int)+1)),(17,bL W),(19,fT 1 (Q.take x.1).length x.2),(20,I x.1)]) (λx=>cQ g (.row 1 (((Q.take x.1).map λn=>[I n]).map (List.map .v))) x.2) (λx=>x.1<=args.length/\eU g (Q.take x.1) x.2) (λx=>args.length-x.1) (0,none) ⟨by simp[cR,bZ,fT],by simp only[aM];exact aB.le_refl _,eM _,by simp[eU]⟩ ?_
     rintro⟨j,oo⟩ ⟨hi,hos⟩
     simp only at hi hos ⊢
     have hWl:=hWs.1
     rcases bT j args.length with iV|aBC
     ·have hWk:=hWs.get iV
      have ewl:=hWk.2.1
      have ekk:(W.getD j [])[((k:Int)+1).toNat]?=some ((W.getD j []).getD (k+1) 0):=by rw[show((k:Int)+1).toNat=k+1 by omega];exact bW (by rw[ewl];omega)
      have ed:=bW (l:=dir) (i:=j) aA
      have hmin:=rE (if k=0 then dir.getD j 0 else 0) ((W.getD j []).getD (k+1) 0) (by split;exact nd.get j;exact gZ) (hWk.2.2.get (k+1))
      have hy:Q.take (j+1)=Q.take j++[((if k=0 then dir.getD j 0 else 0)-(W.getD j []).getD (k+1) 0)%1000003]:=by
       rw[iW aA]
       congr 2
       simp[hQ,gU]
      have hlk:(Q.take j).length=j:=by rw[nU];omega
      cases oo with
      |none =>
       rw[aZ]at hos
       rw[hos]at hy ⊢
       simp -dsimp -implicitDefEqProofs only[go_sem,↓reduceIte,Tryz.f36,bD,aM,iV,hWl,hWk.1,ewl,ed,ekk]
       refine λ_=>⟨λhk1=>⟨by omega,by omega,by omega,?_⟩,λhk1=>⟨by omega,by omega,?_⟩⟩
       ·rw[if_pos (show k=0 by omega)]at hmin hy
        first|refine aH.mk (hmin) ?_|refine aG.mk (hmin) ?_|refine aH.bH (hmin) ?_|refine aG.mk (bB.dI (hmin)) ?_
        simp -dsimp -implicitDefEqProofs only[go_sem,↓reduceIte,Tryz.f36]
        repeat'(with_reducible first|intro _|refine And.intro ?_ ?_)
        all_goals try(first|omega|decide)
        rename_i b2 sN
        refine⟨(j+1,some b2),?_⟩
        simp only[hy]
        refine⟨⟨rfl,?_⟩,aB.le_refl _,⟨by omega,sN⟩,by omega⟩
        rw[IntWalk.i64_in _ aA];rfl
       ·rw[if_neg (show ¬k=0 by omega)]at hmin hy
        first|refine aH.mk (hmin) ?_|refine aG.mk (hmin) ?_|refine aH.bH (hmin) ?_|refine aG.mk (bB.dI (hmin)) ?_
        simp -dsimp -implicitDefEqProofs only[go_sem,↓reduceIte,Tryz.f36]
        repeat'(with_reducible first|intro _|refine And.intro ?_ ?_)
        all_goals try(first|omega|decide)
        rename_i b2 sN
        refine⟨(j+1,some b2),?_⟩
        simp only[hy]
        refine⟨⟨rfl,?_⟩,aB.le_refl _,⟨by omega,sN⟩,by omega⟩
        rw[IntWalk.i64_in _ aA];rfl
      |some m =>
       rw[aP]at hos
       simp -dsimp -implicitDefEqProofs only[go_sem,↓reduceIte,Tryz.f36,aQ,aJ,iV,hWl,hWk.1,ewl,ed,ekk]
       refine λ_=>⟨λhk1=>⟨by omega,by omega,by omega,?_⟩,λhk1=>⟨by omega,by omega,?_⟩⟩
       ·rw[if_pos (show k=0 by omega)]at hmin hy
        first|refine aH.mk (hmin) ?_|refine aG.mk (hmin) ?_|refine aH.bH (hmin) ?_|refine aG.mk (bB.dI (hmin)) ?_
        simp -dsimp -implicitDefEqProofs only[go_sem,↓reduceIte,Tryz.f36]
        repeat'(with_reducible first|intro _|refine And.intro ?_ ?_)
        all_goals try(first|omega|decide|exact bY _)
        rename_i b2 sN
        refine⟨(j+1,some b2),?_⟩
        simp only[hy,aJ,aQ,aP]
        refine⟨⟨by rw[nT];rfl,?_⟩,?_,⟨by omega,sN.2⟩,by omega⟩
        ·rw[IntWalk.i64_in _ aA];rfl
        ·rw[←dS];exact jL hos
       ·rw[if_neg (show ¬k=0 by omega)]at hmin hy
        first|refine aH.mk (hmin) ?_|refine aG.mk (hmin) ?_|refine aH.bH (hmin) ?_|refine aG.mk (bB.dI (hmin)) ?_
        simp -dsimp -implicitDefEqProofs only[go_sem,↓reduceIte,Tryz.f36]
        repeat'(with_reducible first|intro _|refine And.intro ?_ ?_)
        all_goals try(first|omega|decide|exact bY _)
        rename_i b2 sN
        refine⟨(j+1,some b2),?_⟩
        simp only[hy,aJ,aQ,aP]
        refine⟨⟨by rw[nT];rfl,?_⟩,?_,⟨by omega,sN.2⟩,by omega⟩
        ·rw[IntWalk.i64_in _ aA];rfl
        ·rw[←dS];exact jL hos
     ·obtain rfl:j=args.length:=aCH hi aBC
      have htk:Q.take args.length=Q:=hJ aA
      rw[htk]at hos
      cases oo with
      |none =>
       rw[aZ]at hos
       rw[hos,rU]at hQl
       exact absurd hn.1 (by rw[←hQl];decide)
      |some m =>
       rw[aP]at hos
       simp -dsimp -implicitDefEqProofs only[go_sem,↓reduceIte,Tryz.f36,aQ,aJ,bV,cY,hWl,htk]
       intro hbig
       clear hbig
       refine aH.a6O (es:=Q.map λn=>[I n]) hsolve (by simp[kK,jK]) (by simp[mZ,aE.fS,hJ]) ?_
       simp -dsimp -implicitDefEqProofs only[go_sem,↓reduceIte,Tryz.f36]
       refine cM aGT a3R a3S (λx:Nat×List (List Int)×List (List OV)×aB=>[(1,I f),(3,ints dir),(4,I o),(5,.ip 1 [[gT 3 aV.c p.aK]] 0 0),(13,bL R),(14,.os b 1 0 args.length),(16,I ((k:Int)+1)),(22,ints Nw),(23,I x.1)]) (λx=>x.2.2.2) (λx=>x.1<=args.length/\St args (o+1) x.2.1/\OR (oL I) x.2.1 x.2.2.1/\fI h (OV.b5 [OV.sl b 1 x.2.2.1]) x.2.2.2) (λx=>args.length-x.1) (0,Y,es,g) ⟨by simp[cR,bZ],aB.bM hos (aB.le_refl _),eM _,hYs,hes,hnw⟩ ?_
       clear hes hnw hgb hesl hos hYs hYl hWs hWl hi aBC
       rintro⟨i,Y,es,g⟩ ⟨hi,hYs,hes,hnw⟩
       simp only at hi hYs hes hnw ⊢
       have hgb:g b=some (.row 1 (OV.cells es)):=hnw.aYZ []
       have hYl:=hYs.1.1
       have hesl:es.length=args.length:=by rw[←hes.length,hYl]
       rcases bT i args.length with aH2|bQF
       ·obtain⟨m,q1,q2,q3,q4⟩:=bJO hes hnw hYs.1 hsz.1 aH2
        have hYi:=(hYs.1.get aH2).2
        have hpl:=hYi.1
        have eN:=bW (l:=Nw) (i:=i) aA
        have etn:((k:Int)+1).toNat=k+1:=by omega
        have epk:(Y.getD i [])[((k:Int)+1).toNat]?=some ((Y.getD i []).getD (k+1) 0):=by rw[etn];exact bW (by rw[hpl];omega)
        obtain⟨rD,lN,lM,rZ⟩:=cW (show ¬m=b from q4)
        simp -dsimp -implicitDefEqProofs only[go_sem,↓reduceIte,Tryz.f36,aH2,hgb,cP,hesl,q2,q3,eN,hNl,mH,hpl,epk]
        rw[etn,nL I]
        have hpe:=hnw.bQD ((Y.getD i []).set (k+1) (Nw.getD i 0)) q1 (by rw[p7])
        exact λ_=>⟨by omega,by omega,(i+1,Y.set i ((Y.getD i []).set (k+1) (Nw.getD i 0)),es.set i (oI m ((Y.getD i []).set (k+1) (Nw.getD i 0))),aT g m (mH ((Y.getD i []).set (k+1) (Nw.getD i 0)))),IntWalk.i64_in _ aA,aB.le_refl _,⟨aH2,hYs.put i k (hNn.get i),hes.set i _ _ (bP9 m _),hpe.1⟩,by simp only;omega⟩
       ·obtain rfl:i=args.length:=aCH hi bQF
        simp -dsimp -implicitDefEqProofs only[go_sem,↓reduceIte,Tryz.f36,bV,cY,hesl]
        exact λ_=>⟨(k+1,Y,es,g),by rw[IntWalk.i64_in _ aA];rfl,aB.le_refl _,⟨hlt,hYs,hes,hnw⟩,by simp only;omega⟩
    ·obtain rfl:k=o:=aCH hk hge
     have hle:¬((k:Int)+1<=k):=by omega
     simp -dsimp -implicitDefEqProofs only[go_sem,↓reduceIte,Tryz.f36,hle]
     exact Shift.of (Sub.gK (.cons (Sub.any _) (.cons (.refl _) .nil))) hnw.le
 ·have e:gN p f args dir order=([],jT p f (vJ 6)):=by rw[gN,if_neg h0]
  generalize jT p f (vJ 6)=c at *
  simp only[aF.aY]at heq ⊢
  refine mP 151 aGT a3R a3S Tryz.func36 λh=>?_
  simp -dsimp -implicitDefEqProofs only[go_sem,↓reduceIte,Tryz.f36]
  first|refine aH.mk (heq) ?_|refine aG.mk (heq) ?_|refine aH.bH (heq) ?_|refine aG.mk (bB.dI (heq)) ?_
  simp -dsimp -implicitDefEqProofs only[go_sem,↓reduceIte,Tryz.f36,h0]
  rw[e]
  exact⟨by decide,Shift.of (Sub.gK (.cons (Sub.any _) (.cons (.refl _) .nil))) (aB.le_refl _)⟩
abbrev DSt:=List aV×List (List OV)×aB×Option Nat×Nat×Int
def a08 (n:Nat) (a:Nat) (B:aB) (ns n8 n9:Nat):DSt->Prop:=λ(fs,es,g1,o,a3,_) =>
 fs.length<=n/\aCU fs/\OR aV.o fs es/\fI B (OV.bF es) g1/\(g1 ns=none/\g1 n8=none/\g1 n9=none)/\aAA g1 es o/\(∀ m,o=some m->¬m=ns/\¬m=n8/\¬m=n9)/\(o=none->fs=[])/\(a<=a3/\a3<=a+5000*fs.length)
abbrev ISt:=Int×Nat×List aC×List (List OV)×aB×Option Nat×Nat×Int
def aUR (fs:List aV) (par:Int) (a:Nat) (B1:aB) (ns nf:Nat):ISt->Prop:=λ(cnt,i,outs,eo,g2,oo,a8,_) =>
 (1<=cnt/\cnt<=3)/\(i:Int)<=cnt/\outs.length=i/\OR aC.o outs eo/\fI B1 (OV.bF eo) g2/\(g2 ns=none/\g2 nf=none)/\aAA g2 eo oo/\(∀ m,oo=some m->¬m=ns/\¬m=nf)/\(∀ e∈outs,e.s<=39/\e.d<=6/\e.ok ⟨fs⟩ fs.length par)/\(a<=a8/\a8<=a+600*i)
theorem aUR.next {fs:List aV} {par:Int} {a:Nat} {B1:aB} {ns nf:Nat} {cnt:Int} {i:Nat} {outs:List aC} {eo:List (List OV)} {g2 g5:aB} {oo:Option Nat} {a8 a9:Nat} {sd8 sd9:Int} {x:aC} {e:List OV} {m:Nat}
  (h:aUR fs par a B1 ns nf (cnt,i,outs,eo,g2,oo,a8,sd8)) (hlt:(i:Int)<cnt) (hx:x.o e) (w:fI g2 (OV.b5 e) g5) (z:g5 ns=none/\g5 nf=none) (hm:g5 m=none) (hm2:¬m=ns/\¬m=nf) (hg:x.s<=39/\x.d<=6/\x.ok ⟨fs⟩ fs.length par) (ha:a8<=a9/\a9<=a8+600) :
  aUR fs par a B1 ns nf (cnt,i+1,outs++[x],eo++[e],g5,some m,a9,sd9):=by
 obtain⟨hcnt,hi,hol,hor,hnew,-,-,-,hgd,ha8⟩:=h
 refine⟨hcnt,by omega,by rw[nT,hol];rfl,OR.append hor ⟨hx,trivial⟩,fI.snoc hnew w,z,hm,λb q=>by cases q;exact hm2,λy hy=>?_,by omega⟩
 rcases nY.1 hy with hy|hy
 ·exact hgd y hy
 ·rw[iO.1 hy];exact hg
theorem a08.next {n a:Nat} {B:aB} {ns n8 n9:Nat} {fs:List aV} {es:List (List OV)} {g1 g8:aB} {o:Option Nat} {a3 a8:Nat} {sd3 sd8:Int} {f:aV} {e:List OV} {m:Nat}
  (h:a08 n a B ns n8 n9 (fs,es,g1,o,a3,sd3)) (hlt:fs.length<n) (hf:aDN ⟨fs⟩ fs.length f) (hx:f.o e) (w:fI g1 (OV.b5 e) g8) (z:g8 ns=none/\g8 n8=none/\g8 n9=none) (hm:g8 m=none) (hm2:¬m=ns/\¬m=n8/\¬m=n9) (ha:a3<=a8/\a8<=a3+5000) :
  a08 n a B ns n8 n9 (fs++[f],es++[e],g8,some m,a8,sd8):=by
 obtain⟨hfl,hdr,hor,hnew,-,-,-,-,ha3⟩:=h
 exact⟨by rw[nT,nN];omega,hdr.snoc hf,OR.append hor ⟨hx,trivial⟩,fI.snoc hnew w,z,hm,λb q=>by cases q;exact hm2,(λq=>(by cases q)),by rw[nT,nN];omega⟩
@[go_sem] def aQ2:List Nat:=[0,1,2,3,8,9,10,11,12,13,14,18,35,40]
@[go_sem] def bDF:List Nat:=[22,55,61]
@[go_sem] def bDG:Marks:=λid=>match id with|13=>([1,4,6,8,10],(.op 0 (.op 2 (.op 3 (.op 5 (.op 1 (.op 4 (.op 6 (.op 7 (.op 8 (.op 9 (.op 10 .nil))))))))))),[(1,6)])|_=>([],.nil,[])
set_option maxHeartbeats 8000000 in
theorem bQU {L0:Int} (hL0:1<=L0/\L0<=14) {ns:Nat} {c:List Int} {pl:Bool} (hc:∀ x∈c,InB x) (hl:c.length<=4096) {n:Nat} (hn:n<=3) {B:aB} (hB:B ns=none) {a:Nat} (ha:a<=700000000) {sd:Int} :
  iD Tryz.prog 80 [.op ns 3 0 0,I n,I L0,.bool pl] (aT B ns (jW c a sd)) λr h'=>∃ (fs:List aV) (es:List (List OV)) (o:Option Nat) (g1:aB) (a':Nat) (sd':Int),fs.length=n/\aCU fs/\OR aV.o fs es/\fI B (OV.bF es) g1/\g1 ns=none/\aAA g1 es o/\(∀ m,o=some m->¬m=ns)/\(o=none->fs=[])/\r=.agg [j7 3 fs.length o]/\(a<=a'/\a'<=a+5000*n)/\h'=aT (cQ g1 (.row 3 (OV.cells es)) o) ns (jW c a' sd'):=by
 have b2K:mL L0<=13:=(by unfold mL;omega)
 refine jU 65 aQ2 bDF bDG Tryz.func80 ?_
 simp -dsimp -implicitDefEqProofs only[go_sem,↓reduceIte,Tryz.f80,lE]
 intro n8 q8
 have b8:¬n8=ns:=by grind
 have z8:B n8=none:=by grind
 obtain⟨a0Z,bP,bQ,mN⟩:=cW (show ¬n8=ns from b8)
 intro n9 q9
 have b9:¬n9=ns:=by grind
 have c9:¬n9=n8:=by grind
 have z9:B n9=none:=by grind
 obtain⟨a00,b7,cA,mM⟩:=cW (show ¬n9=ns from b9)
 obtain⟨aBQ,cB,cC,a01⟩:=cW (show ¬n9=n8 from c9)
 simp only[cE mN,cE mM,aL]
 refine cM aQ2 bDF bDG (λx:DSt=>[(0,.op ns 3 0 0),(1,I n),(2,I L0),(3,.bool pl),(8,.op n8 1 0 0),(9,.op n9 1 0 0),(10,I x.1.length)]) (λx=>aT (aT (aT (cQ x.2.2.1 (.row 3 (OV.cells x.2.1)) x.2.2.2.1) n8 (.row 1 [[.v .bS]])) n9 (.row 1 [[.v (j7 3 x.1.length x.2.2.2.1)]])) ns (jW c x.2.2.2.2.1 x.2.2.2.2.2)) (λx=>a08 n a B ns n8 n9 x) (λx=>n-x.1.length) ([],[],B,none,a,sd) ⟨by simp[cR,bZ],aB.le_refl _,eM _,(λj f h=>by cases h),trivial,fI.nil B,⟨hB,z8,z9⟩,rfl,(λm e=>by cases e),(λ_=>rfl),by simp⟩ ?_
 rintro⟨fs,es,g1,o,a3,sd3⟩ hdd
 obtain⟨hfl,hdr,hor,hnew,⟨zs,z18,z19⟩,hgs,hon,hfo,ha3⟩:=id hdd
 simp only at hfl hdr hor hnew zs z18 z19 hgs hon hfo ha3 ⊢
 simp -dsimp -implicitDefEqProofs only[go_sem,↓reduceIte,Tryz.f80,bP,cC,bQ,cA,cB,b7,aD,aO,dA,dB,dC,dD,dF,dZ,dR,fQ]
 refine⟨λhlt=>⟨by decide,by decide,?_⟩,λhge=>⟨oW ..,?_⟩⟩
 ·refine aH.fX (bPN (a:=a3) (sd:=sd3) hc hl aA aQW true b6 b6 (aI ..)) ?_
  rintro r_ h' ⟨w,a4,sd4,rfl,hw,ha4,rfl⟩
  rw[aL]
  simp -dsimp -implicitDefEqProofs only[go_sem,↓reduceIte,Tryz.f80,bP,cC,bQ,cA,cB,b7,aD,aO,dA,dB,dC,dD,dF,dZ,dR,fQ]
  first|refine aH.mk ((aIU 4 fs.length aA aA aA)) ?_|refine aG.mk ((aIU 4 fs.length aA aA aA)) ?_|refine aH.bH ((aIU 4 fs.length aA aA aA)) ?_|refine aG.mk (bB.dI ((aIU 4 fs.length aA aA aA))) ?_
  simp -dsimp -implicitDefEqProofs only[go_sem,↓reduceIte,Tryz.f80,bP,cC,bQ,cA,cB,b7,aD,aO,dA,dB,dC,dD,dF,dZ,dR,fQ]
  refine⟨by have:=aUO (k:=fs.length) aA;obtain⟨c5,e5,-,-⟩:=this;have:w.length<=4:=(by simp only[aQW,pP,aXG,or_false]at hw;rcases hw with rfl|rfl|rfl|rfl <;> decide);rw[e5];simp only[nN];omega,?_⟩
  refine aH.fX (r5 (a:=a4) (sd:=sd4) hc hl aA 3 aA (aI ..)) ?_
  rintro r_ h' ⟨px,a5,sd5,rfl,x0,x1,-,ha5,rfl⟩
  have x1:=x1 aA
  have wp:IntKind.i64.wrap (1+px)=1+px:=IntWalk.i64_in _ aA
  rw[aL]
  simp -dsimp -implicitDefEqProofs only[go_sem,↓reduceIte,Tryz.f80,bP,cC,bQ,cA,cB,b7,aD,aO,dA,dB,dC,dD,dF,dZ,dR,fQ,wp]
  intro nf qf
  have af:¬nf=ns:=by grind
  have bf:¬nf=n8:=by grind
  have cf:¬nf=n9:=by grind
  have zf:cQ g1 (.row 3 (OV.cells es)) o nf=none:=by grind
  obtain⟨bDH,dV,dW,aFH⟩:=cW (show ¬nf=ns from af)
  obtain⟨a09,pA,pB,bTV⟩:=cW (show ¬nf=n8 from bf)
  obtain⟨a1A,pC,pD,bDI⟩:=cW (show ¬nf=n9 from cf)
  simp -dsimp -implicitDefEqProofs only[go_sem,↓reduceIte,Tryz.f80,bP,cC,pB,bQ,cA,dW,cB,b7,pD,pA,dV,pC,aD,aO,dA,dB,dC,dD,dF,dZ,dR,fQ,wp,cE aFH,aL]
  refine aH.fX (r5 (a:=a5) (sd:=sd5) hc hl aA 3 aA (aI ..)) ?_
  rintro r_ h' ⟨py,a6,sd6,rfl,y0,y1,-,ha6,rfl⟩
  have y1:=y1 aA
  have wq:IntKind.i64.wrap (1+py)=1+py:=IntWalk.i64_in _ aA
  rw[aL]
  simp -dsimp -implicitDefEqProofs only[go_sem,↓reduceIte,Tryz.f80,bP,cC,pB,bQ,cA,dW,cB,b7,pD,pA,dV,pC,aD,aO,dA,dB,dC,dD,dF,dZ,dR,fQ,wq]
  refine aH.fX (a64 (a:=a6) (sd:=sd6) hc hl aA 2 aA (aI ..)) ?_
  rintro r_ h' ⟨b,a7,sd7,rfl,ha7,rfl⟩
  rw[aL]
  generalize hnm:w++Go.Lib.itoa fs.length=nm
  generalize hpar:1+px=par at *
  apply a8N
  case m =>
   intro key
   cases b
   ·simp -dsimp -implicitDefEqProofs only[go_sem,↓reduceIte,Tryz.f80,bP,cC,pB,bQ,cA,dW,cB,b7,pD,pA,dV,pC,aD,aO,dA,dB,dC,dD,dF,dZ,dR,fQ]
    refine cM aQ2 bDF bDG (λx:ISt=>[(0,.op ns 3 0 0),(1,I n),(2,I L0),(3,.bool pl),(8,.op n8 1 0 0),(9,.op n9 1 0 0),(10,I fs.length),(11,.op nf 3 0 0),(12,I x.1),(13,I x.2.1)]) (λx=>aT (aT (cQ x.2.2.2.2.1 (.row 5 (OV.cells x.2.2.2.1)) x.2.2.2.2.2.1) nf (.row 3 [[.v (.str nm),.v (I par),.v (j7 5 x.2.1 x.2.2.2.2.2.1)]])) ns (jW c x.2.2.2.2.2.2.1 x.2.2.2.2.2.2.2)) (λx=>aUR fs par a7 (aT (aT (cQ g1 (.row 3 (OV.cells es)) o) n8 (.row 1 [[.v .bS]])) n9 (.row 1 [[.v (j7 3 fs.length o)]])) ns nf x) (λx=>x.1.toNat-x.2.1) ((1+py),0,[],[],aT (aT (cQ g1 (.row 3 (OV.cells es)) o) n8 (.row 1 [[.v .bS]])) n9 (.row 1 [[.v (j7 3 fs.length o)]]),none,a7,sd7) ⟨by simp[cR,bZ],aB.le_refl _,by omega,by omega,rfl,trivial,fI.nil _,⟨by rw[aD _ _ _ _ mM,aD _ _ _ _ mN];exact kG zs λm e=>(hon m e).1,by rw[aD _ _ _ _ a1A,aD _ _ _ _ a09];exact zf⟩,rfl,(λm e=>by cases e),(λe h=>by cases h),by simp⟩ ?_
    exact key.get
   ·simp -dsimp -implicitDefEqProofs only[go_sem,↓reduceIte,Tryz.f80,bP,cC,pB,bQ,cA,dW,cB,b7,pD,pA,dV,pC,aD,aO,dA,dB,dC,dD,dF,dZ,dR,fQ]
    refine cM aQ2 bDF bDG (λx:ISt=>[(0,.op ns 3 0 0),(1,I n),(2,I L0),(3,.bool pl),(8,.op n8 1 0 0),(9,.op n9 1 0 0),(10,I fs.length),(11,.op nf 3 0 0),(12,I x.1),(13,I x.2.1)]) (λx=>aT (aT (cQ x.2.2.2.2.1 (.row 5 (OV.cells x.2.2.2.1)) x.2.2.2.2.2.1) nf (.row 3 [[.v (.str nm),.v (I par),.v (j7 5 x.2.1 x.2.2.2.2.2.1)]])) ns (jW c x.2.2.2.2.2.2.1 x.2.2.2.2.2.2.2)) (λx=>aUR fs par a7 (aT (aT (cQ g1 (.row 3 (OV.cells es)) o) n8 (.row 1 [[.v .bS]])) n9 (.row 1 [[.v (j7 3 fs.length o)]])) ns nf x) (λx=>x.1.toNat-x.2.1) (par,0,[],[],aT (aT (cQ g1 (.row 3 (OV.cells es)) o) n8 (.row 1 [[.v .bS]])) n9 (.row 1 [[.v (j7 3 fs.length o)]]),none,a7,sd7) ⟨by simp[cR,bZ],aB.le_refl _,by omega,by omega,rfl,trivial,fI.nil _,⟨by rw[aD _ _ _ _ mM,aD _ _ _ _ mN];exact kG zs λm e=>(hon m e).1,by rw[aD _ _ _ _ a1A,aD _ _ _ _ a09];exact zf⟩,rfl,(λm e=>by cases e),(λe h=>by cases h),by simp⟩ ?_
    exact key.get
  case t =>
   rintro⟨cnt,i,outs,eo,g2,oo,a8,sd8⟩ hii
   obtain⟨hcnt,hi,hol,aW3,bKF,⟨ws,wf⟩,aH6,a3U,hgd,ha8⟩:=id hii
   simp only at hcnt hi hol aW3 bKF ws wf aH6 a3U hgd ha8 ⊢
   simp -dsimp -implicitDefEqProofs only[go_sem,↓reduceIte,Tryz.f80,bP,cC,pB,bQ,cA,dW,cB,b7,pD,pA,dV,pC,aD,aO,dA,dB,dC,dD,dF,dZ,dR,fQ]
   have hkeep:∀ q R S,(aT (aT (cQ g1 (.row 3 (OV.cells es)) o) n8 (.row 1 [[.v .bS]])) n9 (.row 1 [[.v (j7 3 fs.length o)]])) q=some R->cQ g2 S oo q=some R:=λq R S hq=>by
    have h2:=bKF.keep hq
    cases oo with
    |none=>exact h2
    |some m5 =>
     rw[kC]at aH6
     rw[aJ,aD _ _ _ _ (λe=>by rw[e,aH6]at h2;cases h2)]
     exact h2
   have hk9:=λS=>hkeep n9 _ S (aI ..)
   refine⟨λiV=>?_,λaBC=>?_⟩
   ·intro ng qg
    have an:¬ng=ns:=by grind
    have bn:¬ng=nf:=by grind
    have zn:cQ g2 (.row 5 (OV.cells eo)) oo ng=none:=by grind
    obtain⟨lH,bJ,bI,tP⟩:=cW (show ¬ng=ns from an)
    obtain⟨aQ3,j5,j6,bDJ⟩:=cW (show ¬ng=nf from bn)
    have zof:cQ g2 (.row 5 (OV.cells eo)) oo nf=none:=kG wf λm e=>(a3U m e).2
    have hpr:aBJ ⟨fs⟩ n9 (aT (cQ g2 (.row 5 (OV.cells eo)) oo) nf (.row 3 [[.v (.str nm),.v (I par),.v (j7 5 i oo)]])):=by
     refine⟨es,o,hor,?_,hfo,λm e=>?_⟩
     ·rw[aD _ _ _ _ bDI];exact hk9 _
     ·have hm:=hon m e
      subst e
      have h3:=hkeep m (.row 3 (OV.cells es)) (.row 5 (OV.cells eo)) (by rw[aD _ _ _ _ hm.2.2,aD _ _ _ _ hm.2.1,aJ,aI])
      rw[aD _ _ _ _ (λq=>by rw[q,zof]at h3;cases h3)]
      exact h3
    simp -dsimp -implicitDefEqProofs only[go_sem,↓reduceIte,Tryz.f80,dW,bI,dV,j6,bJ,j5,aD,aO,dA,dB,dC,dD,dF,dZ,dR,fQ,lE]
    rw[show ∀ H:aB,aT H ng (bU.row 4 [[Cell.v (aE.op ns 3 0 0),Cell.v (aE.op n9 1 0 0),Cell.v (I L0),Cell.v (aE.bool pl)]])=aT H ng (lE ns n9 L0 pl)from λ_=>rfl]
    refine aH.fX (bQM hc hl tP hdr.a06 (by simp only[aF.aK];omega) 5 par _ a8 sd8 L0 (by rw[aD _ _ _ _ aFH];exact kG ws λm e=>(a3U m e).1) (by rw[aD _ _ _ _ aQ3];exact zn) hpr ⟨by omega,by omega,by omega⟩) ?_
    rintro r_ h' ⟨x5,e5,g',a9,sd9,L9,hx,rfl,bKG,⟨v1,v2⟩,rfl,aJN,hd5,hL9,ha9⟩
    obtain⟨g4,rfl,w4,z4f⟩:=fI.under zof bKG
    simp only[aO,dW,bI,dV,j6,bJ,j5,if_false]at v1 v2
    have hx5:=hx
    rw[aC.u5]at hx
    obtain⟨y4,rfl,os4⟩:=hx
    have bQV:x5.s<=39:=by have:=hL9.2.2;omega
    cases oo with
    |none =>
     rw[mQ]at aH6
     subst aH6
     obtain rfl:outs=[]:=aHR.1 aW3.length
     obtain rfl:i=0:=hol.symm
     simp only[aM,nE]at *
     simp -dsimp -implicitDefEqProofs only[go_sem,↓reduceIte,Tryz.f80,dW,bI,dV,j6,bJ,j5,aD,aO,dA,dB,dC,dD,dF,dZ,dR,fQ,OV.iR,OV.dP,OV.nR,os4.flat,os4.one]
     have ht:=eQ []
     refine⟨by decide,by decide,by decide,λm qm=>?_⟩
     have am:¬m=ns:=by grind
     have bm:¬m=nf:=by grind
     have dm:g4 m=none:=by grind
     have em:¬m=ng:=by grind
     skip
     obtain⟨oN,fK,fL,oO⟩:=cW (show ¬m=ns from am)
     obtain⟨aDO,oQ,oS,aDP⟩:=cW (show ¬m=nf from bm)
     obtain⟨vD,jC,jD,vE⟩:=cW (show ¬m=ng from em)
     simp -dsimp -implicitDefEqProofs only[go_sem,↓reduceIte,Tryz.f80,dW,bI,fL,dV,j6,oS,bJ,j5,jD,fK,oQ,jC,aD,aO,dA,dB,dC,dD,dF,dZ,dR,fQ]
     refine⟨(cnt,0+1,[]++[x5],[]++[[.v (.int .i64 x5.aS),.v (.int .i64 x5.bA),.v (.int .i64 x5.cV),.v (.int .i64 x5.cH),y4]],g4,some m,a9,sd9),⟨rfl,IntWalk.i64_in _ aA⟩,?_,hii.next iV hx5 w4 ⟨v1,z4f⟩ dm ⟨am,bm⟩ ⟨bQV,by omega,aJN⟩ aA,by simp only;omega⟩
     intro q_
     simp only[aO,aJ,cN,jM,eQ,cP,kZ,k7,OV.iR,OV.dP,OV.nR,dZ,qR,w9,ht]
     grind
    |some m5 =>
     rw[kC]at aH6
     obtain⟨g5,rfl,w5,z45⟩:=fI.under aH6 w4
     have k1:=(a3U m5 rfl).1
     have k2:=(a3U m5 rfl).2
     have k3:¬m5=ng:=λe=>by rw[aJ,e,aI]at zn;cases zn
     obtain⟨aQ4,pE,pF,aI7⟩:=cW (show ¬m5=ns from k1)
     obtain⟨aQ5,pG,pH,aI8⟩:=cW (show ¬m5=nf from k2)
     obtain⟨bDK,aB7,aB8,a1B⟩:=cW (show ¬m5=ng from k3)
     simp only[aJ,cN]at *
     simp -dsimp -implicitDefEqProofs only[go_sem,↓reduceIte,Tryz.f80,dW,bI,pF,dV,j6,pH,bJ,j5,aB8,pE,pG,aB7,aD,aO,dA,dB,dC,dD,dF,dZ,dR,fQ,OV.iR,OV.dP,OV.nR,os4.flat,os4.one,cP]
     simp only[aO,dW,bI,pF,dV,j6,pH,bJ,j5,aB8,pE,pG,aB7,if_false]at v1 v2 z4f
     have ht:List.take i (OV.cells eo)=OV.cells eo:=hJ (by rw[cP];have:=aW3.length;omega)
     refine⟨by decide,by decide,by decide,by have:=aW3.length;omega,by omega,by omega,λm qm=>?_⟩
     have am:¬m=ns:=by grind
     have bm:¬m=nf:=by grind
     have dm:g5 m=none:=by grind
     have em:¬m=ng:=by grind
     have fm:¬m=m5:=xD;have aDQ:=eq_false fm;have aDR:=eq_false (iK fm);have aW4:=fm;have aL1:=iK fm
     obtain⟨oN,fK,fL,oO⟩:=cW (show ¬m=ns from am)
     obtain⟨aDO,oQ,oS,aDP⟩:=cW (show ¬m=nf from bm)
     obtain⟨vD,jC,jD,vE⟩:=cW (show ¬m=ng from em)
     simp -dsimp -implicitDefEqProofs only[go_sem,↓reduceIte,Tryz.f80,dW,bI,fL,dV,j6,oS,bJ,j5,jD,fK,oQ,jC,aDQ,oQ,jC,fK,aDR,pG,aB7,pE,oS,pH,j6,dV,jD,aB8,j5,bJ,fL,pF,dW,bI,aD,aO,dA,dB,dC,dD,dF,dZ,dR,fQ]
     refine⟨(cnt,i+1,outs++[x5],eo++[[.v (.int .i64 x5.aS),.v (.int .i64 x5.bA),.v (.int .i64 x5.cV),.v (.int .i64 x5.cH),y4]],g5,some m,a9,sd9),⟨rfl,IntWalk.i64_in _ aA⟩,?_,hii.next iV hx5 w5 ⟨v1,z4f⟩ dm ⟨am,bm⟩ ⟨bQV,by omega,aJN⟩ aA,by simp only;omega⟩
     intro q_
     simp only[aO,aJ,cN,jM,eQ,cP,kZ,k7,OV.iR,OV.dP,OV.nR,dZ,qR,w9,ht]
     grind
   ·simp -dsimp -implicitDefEqProofs only[go_sem,↓reduceIte,Tryz.f80,bP,cC,pB,bQ,cA,dW,cB,b7,pD,pA,dV,pC,aD,aO,dA,dB,dC,dD,dF,dZ,dR,fQ,hk9]
    refine⟨by decide,by rw[oW];rfl,?_⟩
    cases oo with
    |none =>
     rw[mQ]at aH6
     subst aH6
     have:=aW3.length
     simp at this
     rw[this]at hol
     simp at hol
     omega
    |some m5 =>
    have bKG:=aID (sz:=5) bKF aH6
    have hgo:=aO3 aW3 (sz:=5) aH6
    have hei:eo.length=i:=by rw[←aW3.length];exact hol
    rw[kC]at aH6
    obtain⟨k1,k2⟩:=a3U m5 rfl
    obtain⟨aQ4,pE,pF,aI7⟩:=cW (show ¬m5=ns from k1)
    obtain⟨aQ5,pG,pH,aI8⟩:=cW (show ¬m5=nf from k2)
    simp only[aJ,cN,aKR]at *
    have bQW:(⟨nm,par,outs⟩:aV).o [.v (.str nm),.v (I par),.sl m5 5 eo]:=⟨_,rfl,hgo⟩
    have hgood:aDN ⟨fs⟩ fs.length ⟨nm,par,outs⟩:=⟨⟨w,hw,hnm.symm⟩,by simp only[aV.aR];omega,by simp only[aV.aU];omega,hgd⟩
    have ws':aT g2 m5 (.row 5 (OV.cells eo)) ns=none:=by rw[aD _ _ _ _ aI7];exact ws
    have wf':aT g2 m5 (.row 5 (OV.cells eo)) nf=none:=by rw[aD _ _ _ _ aI8];exact wf
    have b2O:=hk9 (.row 5 (OV.cells eo))
    clear hkeep
    generalize aT g2 m5 (.row 5 (OV.cells eo))=g6 at *
    have hz8:cQ g1 (.row 3 (OV.cells es)) o n8=none:=kG z18 λm e=>(hon m e).2.1
    have hz9:cQ g1 (.row 3 (OV.cells es)) o n9=none:=kG z19 λm e=>(hon m e).2.2
    obtain⟨g7,rfl,w7,z78,z79⟩:=fI.aC7 hz8 (by rw[aD _ _ _ _ aBQ];exact hz9) bKG
    simp only[aO,bP,cC,pB,bQ,cA,dW,cB,b7,pD,pA,dV,pC,if_false]at ws' wf' z79
    cases o with
    |none =>
     rw[mQ]at hgs
     subst hgs
     obtain rfl:fs=[]:=aHR.1 hor.length
     simp only[aM,nE]at *
     simp -dsimp -implicitDefEqProofs only[go_sem,↓reduceIte,Tryz.f80,bP,cC,pB,bQ,cA,dW,cB,b7,pD,pA,dV,pC,aD,aO,dA,dB,dC,dD,dF,dZ,dR,fQ]
     have ht:=eQ []
     refine⟨by decide,λm qm=>?_⟩
     have am:¬m=ns:=by grind
     have bm:¬m=n8:=by grind
     have cm:¬m=n9:=by grind
     have em:¬m=nf:=by grind
     have dm:g7 m=none:=by grind
     skip
     obtain⟨oN,fK,fL,oO⟩:=cW (show ¬m=ns from am)
     obtain⟨zN,kL,kM,zO⟩:=cW (show ¬m=n8 from bm)
     obtain⟨zP,kN,kO,zQ⟩:=cW (show ¬m=n9 from cm)
     obtain⟨aDO,oQ,oS,aDP⟩:=cW (show ¬m=nf from em)
     simp -dsimp -implicitDefEqProofs only[go_sem,↓reduceIte,Tryz.f80,bP,cC,pB,kM,bQ,cA,dW,fL,cB,b7,pD,kO,pA,dV,pC,oS,kL,fK,kN,oQ,aD,aO,dA,dB,dC,dD,dF,dZ,dR,fQ]
     refine⟨([]++[⟨nm,par,outs⟩],[]++[[.v (.str nm),.v (I par),.sl m5 5 eo]],g7,some m,a8,sd8),?_,?_,hdd.next hlt hgood bQW (by simpa only[OV.eP,OV.iQ,OV.aA6,dZ,dR]using w7) ⟨ws',z78,z79⟩ dm ⟨am,bm,cm⟩ aA,by simp only[nT,nN];omega⟩
     ·rw[IntWalk.i64_in _ (by first|omega|(simp only[rU];omega))]
      simp only[nT,nN,rU]
      rfl
     ·intro q_
      simp only[aO,aJ,cN,jM,eQ,cP,kZ,k7,OV.iR,OV.dP,OV.nR,OV.wV,dZ,qR,w9,nT,nN,rU,hei,ht]
      grind
    |some m0 =>
     rw[kC]at hgs
     obtain⟨g8,rfl,w8,z80⟩:=fI.under hgs w7
     obtain⟨k3,k4,k5⟩:=hon m0 rfl
     obtain⟨aB2,iS,iT,yE⟩:=cW (show ¬m0=ns from k3)
     obtain⟨aI4,kP,kQ,aD5⟩:=cW (show ¬m0=n8 from k4)
     obtain⟨aI5,kR,kS,aD2⟩:=cW (show ¬m0=n9 from k5)
     simp only[aJ,cN]at *
     have k6:¬m0=nf:=λe=>by rw[e,aI]at zf;cases zf
     obtain⟨bDL,aFI,aFJ,a1C⟩:=cW (show ¬m0=nf from k6)
     simp only[aO,bP,cC,pB,kQ,bQ,cA,dW,iT,cB,b7,pD,kS,pA,dV,pC,aFJ,kP,iS,kR,aFI,if_false]at ws' wf' z78 z79
     simp -dsimp -implicitDefEqProofs only[go_sem,↓reduceIte,Tryz.f80,bP,cC,pB,kQ,bQ,cA,dW,iT,cB,b7,pD,kS,pA,dV,pC,aFJ,kP,iS,kR,aFI,aD,aO,dA,dB,dC,dD,dF,dZ,dR,fQ,cP]
     have ht:List.take fs.length (OV.cells es)=OV.cells es:=hJ aRO
     refine⟨by decide,by have:=hor.length;omega,by omega,by omega,λm qm=>?_⟩
     have am:¬m=ns:=by grind
     have bm:¬m=n8:=by grind
     have cm:¬m=n9:=by grind
     have em:¬m=nf:=by grind
     have dm:g8 m=none:=by grind
     have fm:¬m=m0:=xD;have zR:=eq_false fm;have zS:=eq_false (iK fm);have aQU:=fm;have aQV:=iK fm
     obtain⟨oN,fK,fL,oO⟩:=cW (show ¬m=ns from am)
     obtain⟨zN,kL,kM,zO⟩:=cW (show ¬m=n8 from bm)
     obtain⟨zP,kN,kO,zQ⟩:=cW (show ¬m=n9 from cm)
     obtain⟨aDO,oQ,oS,aDP⟩:=cW (show ¬m=nf from em)
     simp -dsimp -implicitDefEqProofs only[go_sem,↓reduceIte,Tryz.f80,bP,cC,pB,kM,bQ,cA,dW,fL,cB,b7,pD,kO,pA,dV,pC,oS,kL,fK,kN,oQ,zR,kL,kN,oQ,fK,zS,kP,kR,aFI,iS,kM,kQ,cC,pB,bP,kO,kS,cB,pD,b7,oS,aFJ,pA,pC,dV,fL,iT,bQ,cA,dW,aD,aO,dA,dB,dC,dD,dF,dZ,dR,fQ]
     refine⟨(fs++[⟨nm,par,outs⟩],es++[[.v (.str nm),.v (I par),.sl m5 5 eo]],g8,some m,a8,sd8),?_,?_,hdd.next hlt hgood bQW (by simpa only[OV.eP,OV.iQ,OV.aA6,dZ,dR]using w8) ⟨ws',z78,z79⟩ dm ⟨am,bm,cm⟩ aA,by simp only[nT,nN];omega⟩
     ·rw[IntWalk.i64_in _ (by first|omega|(simp only[rU];omega))]
      simp only[nT,nN,rU]
      rfl
     ·intro q_
      simp only[aO,aJ,cN,jM,eQ,cP,kZ,k7,OV.iR,OV.dP,OV.nR,OV.wV,dZ,qR,w9,nT,nN,rU,hei,ht]
      grind
 ·have hfe:es.length=fs.length:=hor.length.symm
  refine⟨_,_,Shift.of (Sub.refl _) ?_,fs,es,o,g1,a3,sd3,by omega,hdr,hor,hnew,zs,hgs,λm e=>(hon m e).1,hfo,rfl,by omega,rfl⟩
  have y8:cQ g1 (.row 3 (OV.cells es)) o n8=none:=kG z18 λm e=>(hon m e).2.1
  have y9:cQ g1 (.row 3 (OV.cells es)) o n9=none:=kG z19 λm e=>(hon m e).2.2
  intro q_
  simp only[aO]
  grind
theorem bQX (c:List Int) {g:aB}:iD Tryz.prog 79 [.sl 1 (c.map λn=>[.int .u8 n]) false] g λr h'=>∃ ns,r=.op ns 3 0 0/\g ns=none/\h'=aT g ns (jW c 0 0):=by
 refine aHV 6 aBA cU cG Tryz.func79 ?_
 simp -dsimp -implicitDefEqProofs only[go_sem,↓reduceIte,Tryz.f79]
 intro n q
 exact⟨_,aB.le_refl _,n,rfl,q,rfl⟩
def zX (l:List aC):bU:=.row 5 ((l.map aC.c).map (List.map .v))
theorem a3V (l:List aC) (x:aC):zX (l++[x])=.row 5 (((l.map aC.c).map (List.map Cell.v))++[x.c.map .v]):=by simp[zX]
theorem aW5 {P:Program} {L:aE->Prop} {et:TypeId} {sz n:Nat} {o:Option Nat} (hn:n<=9223372036854775807) (h:o=none->n=0) (t:Tag L):a2J P (some (.slice et)) (j7 sz n o) L t=L (.int .i64 n):=by
 cases o with
 |none=>rw[h rfl];rfl
 |some m=>exact propext ⟨λa=>a hn,λa _=>a⟩
abbrev BSt:=Nat×List aC×Option Nat×Nat×Int
def bQY (k:Nat) (G:aB) (ns np nf:Nat) (a:Nat):BSt->Prop:=λ(i,outs,oo,a8,_) =>
 i<=k/\outs.length=i/\eU G outs oo/\(∀ m,oo=some m->¬m=ns/\¬m=np/\¬m=nf)/\(∀ x∈outs,x.s<=60)/\(a<=a8/\a8<=a+1000*i)
@[go_sem] def a80:List Nat:=[0,1,2,3,4,5,12,13,14,15,16,28]
@[go_sem] def bQZ:List Nat:=[56,65]
@[go_sem] def bQ0:Marks:=λid=>match id with|7=>([1,2,4,6,10,11,12,14,16],(.op 0 (.op 3 (.op 7 (.op 8 (.op 9 (.op 1 (.op 2 (.op 4 (.op 5 (.op 6 (.op 10 (.op 11 (.op 12 (.op 13 (.op 14 (.op 15 (.op 16 .nil))))))))))))))))),[(1,4),(1,6),(1,10),(1,11),(1,12),(2,4),(2,6),(2,10),(2,11)])|8=>([4,5,7,10],(.op 0 (.op 1 (.op 2 (.op 3 (.op 4 (.op 5 (.op 6 (.op 7 (.op 8 (.op 9 (.op 10 .nil))))))))))),[])|_=>([],.nil,[])
set_option maxHeartbeats 4000000 in
theorem a3W {nm:List UInt8} {ns np:Nat} {c:List Int} (hc:∀ x∈c,InB x) (hl:c.length<=4096) {fs:List aV} (hfl:fs.length<=3) (hP:zM ⟨fs⟩) {es:List (List OV)} {o:Option Nat} (hor:OR aV.o fs es) {G1:aB} (hfo:o=none->fs=[]) (hgs:aAA G1 es o) (hns:cQ G1 (.row 3 (OV.cells es)) o ns=none) (hnp:cQ G1 (.row 3 (OV.cells es)) o np=none) (hne:¬np=ns) (args:List Int) (hal:args.length<=10) {k:Nat} (hk:1<=k/\k<=10) (from_:Int) (hfr:0<=from_/\from_<=10) {a:Nat} (ha:a<=700000000) {sd:Int} :
  iD Tryz.prog 83 [.op ns 3 0 0,.op np 1 0 0,.str nm,ints args,I k,I from_] (aT (aT (cQ G1 (.row 3 (OV.cells es)) o) np (.row 1 [[.v (j7 3 fs.length o)]])) ns (jW c a sd)) λ_ h'=>∃ (outs:List aC) (m mo a':Nat) (sd':Int),outs.length=k/\(∀ x∈outs,x.s<=60)/\(G1 m=none/\¬m=ns/\¬m=np)/\(G1 mo=none/\¬mo=ns/\¬mo=np)/\¬mo=m/\a'<=a+10000 /\
   h'=aT (aT (aT (aT G1 mo (zX outs)) m (.row 3 (OV.cells es++[[.v (.str nm),.v (I args.length),.v (.os mo 5 0 k)]]))) np (.row 1 [[.v (.os m 3 0 (fs.length+1))]])) ns (jW c a' sd'):=by
 obtain⟨aB4,fZ,fY,a04⟩:=cW (show ¬ns=np from iK hne)
 obtain⟨G,hG⟩:∃ G,G=cQ G1 (.row 3 (OV.cells es)) o:=⟨_,rfl⟩
 rw[←hG]at hns hnp ⊢
 have hGm:∀ m,o=some m->G m=some (.row 3 (OV.cells es)):=λm e=>by rw[hG,e,aJ,aI]
 refine jU 69 a80 bQZ bQ0 Tryz.func83 ?_
 simp -dsimp -implicitDefEqProofs only[go_sem,↓reduceIte,Tryz.f83]
 intro _ nf qf
 have af:¬nf=ns:=by grind
 have bf:¬nf=np:=by grind
 have cf:G nf=none:=by grind
 obtain⟨bDH,dV,dW,aFH⟩:=cW (show ¬nf=ns from af)
 obtain⟨bTX,kV,kW,bDM⟩:=cW (show ¬nf=np from bf)
 have aR3:=λ{P:Program} {L:aE->Prop} {et:TypeId} {sz:Nat} (t:Tag L)=>aW5 (P:=P) (L:=L) (et:=et) (sz:=sz) (n:=fs.length) (o:=o) aA (λq=>by rw[hfo q];rfl) t
 simp -dsimp -implicitDefEqProofs only[go_sem,↓reduceIte,Tryz.f83,dV,kV,dW,fZ,kW,fY,aD,aO,dA,dB,dC,dD,dF,dZ,dR,fQ,cE aFH,aL,aR3]
 refine cM a80 bQZ bQ0 (λx:BSt=>[(0,.op ns 3 0 0),(1,.op np 1 0 0),(4,I k),(5,I from_),(12,.op nf 3 0 0),(13,I fs.length),(14,I x.1)]) (λx=>aT (aT (aT (cQ G (zX x.2.1) x.2.2.1) np (.row 1 [[.v (j7 3 fs.length o)]])) nf (.row 3 [[.v (.str nm),.v (I args.length),.v (j7 5 x.1 x.2.2.1)]])) ns (jW c x.2.2.2.1 x.2.2.2.2)) (λx=>bQY k G ns np nf a x) (λx=>k-x.1) (0,[],none,a,sd) ⟨by simp[cR,bZ],aB.le_refl _,eM _,rfl,rfl,(λm e=>by cases e),(λx h=>by cases h),by simp⟩ ?_
 rintro⟨i,outs,oo,a8,sd8⟩ hbs
 obtain⟨hi,hol,hos,hon,hsz,ha8⟩:=id hbs
 simp only at hi hol hos hon hsz ha8 ⊢
 simp -dsimp -implicitDefEqProofs only[go_sem,↓reduceIte,Tryz.f83,dV,kV,dW,fZ,kW,fY,aD,aO,dA,dB,dC,dD,dF,dZ,dR,fQ]
 refine⟨λhlt=>?_,λhge=>?_⟩
 ·refine aH.fX (a64 (a:=a8) (sd:=sd8) hc hl aA 4 aA (aI ..)) ?_
  rintro r_ h' ⟨b,a9,sd9,rfl,ha9,rfl⟩
  rw[aL]
  simp -dsimp -implicitDefEqProofs only[go_sem,↓reduceIte,Tryz.f83,dV,kV,dW,fZ,kW,fY,aD,aO,dA,dB,dC,dD,dF,dZ,dR,fQ,lE]
  intro ng qg
  have ag:¬ng=ns:=by grind
  have bg:¬ng=nf:=by grind
  have cg:¬ng=np:=by grind
  have dg:cQ G (zX outs) oo ng=none:=by grind
  obtain⟨lH,bJ,bI,tP⟩:=cW (show ¬ng=ns from ag)
  obtain⟨aQ3,j5,j6,bDJ⟩:=cW (show ¬ng=nf from bg)
  obtain⟨a05,kU,kT,bDB⟩:=cW (show ¬ng=np from cg)
  simp -dsimp -implicitDefEqProofs only[go_sem,↓reduceIte,Tryz.f83,dV,kV,j6,dW,fZ,bI,kW,fY,kT,j5,bJ,kU,aD,aO,dA,dB,dC,dD,dF,dZ,dR,fQ]
  rw[show ∀ H:aB,aT H ng (bU.row 4 [[Cell.v (aE.op ns 3 0 0),Cell.v (aE.op np 1 0 0),Cell.v (I 7),Cell.v (aE.bool !b)]])=aT H ng (lE ns np 7 !b)from λ_=>rfl]
  have hoG:∀ q R,G q=some R->cQ G (zX outs) oo q=some R:=λq R hq=>by
   cases oo with
   |none=>exact hq
   |some m =>
    rw[aP]at hos
    rw[aJ,aD _ _ _ _ (λe=>by rw[e,hos]at hq;cases hq)];exact hq
  have hB1:aT (aT (cQ G (zX outs) oo) np (.row 1 [[.v (j7 3 fs.length o)]])) nf (.row 3 [[.v (.str nm),.v (I args.length),.v (j7 5 i oo)]]) ns=none:=by
   rw[aD _ _ _ _ aFH,aD _ _ _ _ aB4];exact kG hns λm e=>(hon m e).1
  have hB2:aT (aT (cQ G (zX outs) oo) np (.row 1 [[.v (j7 3 fs.length o)]])) nf (.row 3 [[.v (.str nm),.v (I args.length),.v (j7 5 i oo)]]) ng=none:=by
   rw[aD _ _ _ _ aQ3,aD _ _ _ _ a05];exact dg
  have hpr:aBJ ⟨fs⟩ np (aT (aT (cQ G (zX outs) oo) np (.row 1 [[.v (j7 3 fs.length o)]])) nf (.row 3 [[.v (.str nm),.v (I args.length),.v (j7 5 i oo)]])):=by
   refine⟨es,o,hor,by rw[aD _ _ _ _ bDM,aI],hfo,λm e=>?_⟩
   have h1:=hGm m e
   rw[aD _ _ _ _ (λq=>by rw[q,cf]at h1;cases h1),aD _ _ _ _ (λq=>by rw[q,hnp]at h1;cases h1)]
   exact hoG _ _ h1
  refine aH.fX (bW8 hc hl tP hP (by simp only[aF.aK];omega) 4 args.length (a:=a9) (sd:=sd9) (L:=7) hB1 hB2 hpr ⟨by omega,by have:mL 7=6:=rfl;omega,by omega⟩) ?_
  rintro r_ h' ⟨x,a10,bXG,L10,rfl,rfl,hxs,b2S⟩
  have hm6:mL 7=6:=rfl
  rw[aC.aY x]
  simp -dsimp -implicitDefEqProofs only[go_sem,↓reduceIte,Tryz.f83,dV,kV,j6,dW,fZ,bI,kW,fY,kT,j5,bJ,kU,aD,aO,dA,dB,dC,dD,dF,dZ,dR,fQ]
  intro nx qx
  have ax:¬nx=ns:=by grind
  have bx:¬nx=nf:=by grind
  have cx:¬nx=np:=by grind
  have dx:¬nx=ng:=by grind
  have ex:cQ G (zX outs) oo nx=none:=by grind
  obtain⟨bTY,uA,uB,bDN⟩:=cW (show ¬nx=ns from ax)
  obtain⟨bTZ,uC,uE,bT0⟩:=cW (show ¬nx=nf from bx)
  obtain⟨bT1,uF,uG,bT2⟩:=cW (show ¬nx=np from cx)
  obtain⟨bT3,uH,uI,bT4⟩:=cW (show ¬nx=ng from dx)
  simp -dsimp -implicitDefEqProofs only[go_sem,↓reduceIte,Tryz.f83,dV,kV,j6,uE,dW,fZ,bI,uB,kW,fY,kT,uG,j5,bJ,kU,uI,uC,uA,uF,uH,aD,aO,dA,dB,dC,dD,dF,dZ,dR,fQ,cE tP,cE bDN,aL]
  refine aH.fX (r5 (a:=a10) (sd:=bXG) hc hl aA 5 aA (aI ..)) ?_
  rintro r_ h' ⟨y,a11,bQ1,rfl,y0,y1,-,b2T,rfl⟩
  have y1:=y1 aA
  have wp:IntKind.i64.wrap (1+y)=1+y:=IntWalk.i64_in _ aA
  have wq:IntKind.i64.wrap (from_+i)=from_+i:=IntWalk.i64_in _ aA
  have hmul:=bGM 5 (.mk 1 (1+y) 0 0 []) (.mk 2 (from_+i) 0 0 [])
  have hop:=bGM 3 x (.mk 5 0 0 0 [.mk 1 (1+y) 0 0 [],.mk 2 (from_+i) 0 0 []])
  rw[aC.aY x]at hop
  rw[aL]
  simp -dsimp -implicitDefEqProofs only[go_sem,↓reduceIte,Tryz.f83,dV,kV,j6,uE,dW,fZ,bI,uB,kW,fY,kT,uG,j5,bJ,kU,uI,uC,uA,uF,uH,aD,aO,dA,dB,dC,dD,dF,dZ,dR,fQ,wp]
  first|refine aH.mk (aQX (1+y)) ?_|refine aG.mk (aQX (1+y)) ?_|refine aH.bH (aQX (1+y)) ?_|refine aG.mk (bB.dI (aQX (1+y))) ?_
  simp -dsimp -implicitDefEqProofs only[go_sem,↓reduceIte,Tryz.f83,dV,kV,j6,uE,dW,fZ,bI,uB,kW,fY,kT,uG,j5,bJ,kU,uI,uC,uA,uF,uH,aD,aO,dA,dB,dC,dD,dF,dZ,dR,fQ,wp,wq]
  first|refine aH.mk (aQY (from_+i)) ?_|refine aG.mk (aQY (from_+i)) ?_|refine aH.bH (aQY (from_+i)) ?_|refine aG.mk (bB.dI (aQY (from_+i))) ?_
  simp -dsimp -implicitDefEqProofs only[go_sem,↓reduceIte,Tryz.f83,dV,kV,j6,uE,dW,fZ,bI,uB,kW,fY,kT,uG,j5,bJ,kU,uI,uC,uA,uF,uH,aD,aO,dA,dB,dC,dD,dF,dZ,dR,fQ,wp,wq]
  first|refine aH.mk (hmul) ?_|refine aG.mk (hmul) ?_|refine aH.bH (hmul) ?_|refine aG.mk (bB.dI (hmul)) ?_
  simp -dsimp -implicitDefEqProofs only[go_sem,↓reduceIte,Tryz.f83,dV,kV,j6,uE,dW,fZ,bI,uB,kW,fY,kT,uG,j5,bJ,kU,uI,uC,uA,uF,uH,aD,aO,dA,dB,dC,dD,dF,dZ,dR,fQ,wp,wq]
  generalize hz:(aC.mk 3 0 0 0 [x,.mk 5 0 0 0 [.mk 1 (1+y) 0 0 [],.mk 2 (from_+i) 0 0 []]])=z at hop
  have hzs:z.s<=60:=by
   rw[←hz]
   simp only[a22,rX,qR,w9,aJG,List.sum_nil,aB9,rU]
   omega
  rw[aC.aY z]at hop
  refine aH.mk hop ?_
  cases oo with
  |none =>
   rw[aZ]at hos
   subst hos
   obtain rfl:i=0:=hol.symm
   simp only[aM,nE]at *
   simp -dsimp -implicitDefEqProofs only[go_sem,↓reduceIte,Tryz.f83,dV,kV,j6,uE,dW,fZ,bI,uB,kW,fY,kT,uG,j5,bJ,kU,uI,uC,uA,uF,uH,aD,aO,dA,dB,dC,dD,dF,dZ,dR,fQ]
   refine⟨by decide,by decide,by decide,λm qm=>?_⟩
   have g1:¬m=ns:=by grind
   have g2:¬m=nx:=by grind
   have g3:¬m=ng:=by grind
   have g4:¬m=nf:=by grind
   have g5:¬m=np:=by grind
   have g6:G m=none:=by grind
   obtain⟨oN,fK,fL,oO⟩:=cW (show ¬m=ns from g1)
   obtain⟨bKH,aW6,aW7,bKI⟩:=cW (show ¬m=nx from g2)
   obtain⟨vD,jC,jD,vE⟩:=cW (show ¬m=ng from g3)
   obtain⟨aDO,oQ,oS,aDP⟩:=cW (show ¬m=nf from g4)
   obtain⟨aL2,wZ,w6,aQ6⟩:=cW (show ¬m=np from g5)
   simp -dsimp -implicitDefEqProofs only[go_sem,↓reduceIte,Tryz.f83,dV,kV,j6,uE,oS,dW,fZ,bI,uB,fL,kW,fY,kT,uG,w6,j5,bJ,kU,uI,jD,uC,uA,uF,uH,aW7,oQ,fK,wZ,jC,aW6,aD,aO,dA,dB,dC,dD,dF,dZ,dR,fQ]
   have hrow:bU.row 5 [[Cell.v (aE.int IntKind.i64 z.aS),Cell.v (aE.int IntKind.i64 z.bA),Cell.v (aE.int IntKind.i64 z.cV),Cell.v (aE.int IntKind.i64 z.cH),Cell.v (gT 5 aC.c z.aN)]]=zX [z]:=by rw[zX,aRL,aC.aY z];rfl
   rw[hrow]
   refine⟨(1,[z],some m,a11,bQ1),IntWalk.i64_in _ aA,?_,⟨by omega,rfl,g6,λb q=>by cases q;exact⟨g1,g5,g4⟩,λw hw=>by rw[iO.1 hw];exact hzs,by omega⟩,by simp only;omega⟩
   intro q_
   simp only[aO,aJ,cN]
   grind
  |some m5 =>
   rw[aP]at hos
   obtain⟨k1,k2,k3⟩:=hon m5 rfl
   obtain⟨aQ4,pE,pF,aI7⟩:=cW (show ¬m5=ns from k1)
   obtain⟨bDO,wL,wM,bDP⟩:=cW (show ¬m5=np from k2)
   obtain⟨aQ5,pG,pH,aI8⟩:=cW (show ¬m5=nf from k3)
   have k4:¬m5=ng:=λe=>by rw[aJ,e,aI]at dg;cases dg
   obtain⟨bDK,aB7,aB8,a1B⟩:=cW (show ¬m5=ng from k4)
   have k5:¬m5=nx:=λe=>by rw[aJ,e,aI]at ex;cases ex
   simp only[aJ,cN]at *
   obtain⟨bT5,a1D,a1E,bDQ⟩:=cW (show ¬m5=nx from k5)
   simp -dsimp -implicitDefEqProofs only[go_sem,↓reduceIte,Tryz.f83,dV,kV,j6,uE,pH,dW,fZ,bI,uB,pF,kW,fY,kT,uG,wM,j5,bJ,kU,uI,aB8,uC,uA,uF,uH,a1E,pG,pE,wL,aB7,a1D,aD,aO,dA,dB,dC,dD,dF,dZ,dR,fQ,zX]
   refine⟨by decide,by decide,by decide,by omega,by omega,by omega,λm qm=>?_⟩
   have g1:¬m=ns:=by grind
   have g2:¬m=nx:=by grind
   have g3:¬m=ng:=by grind
   have g4:¬m=nf:=by grind
   have g5:¬m=np:=by grind
   have g7:¬m=m5:=by grind
   have g6:G m=none:=by grind
   obtain⟨oN,fK,fL,oO⟩:=cW (show ¬m=ns from g1)
   obtain⟨bKH,aW6,aW7,bKI⟩:=cW (show ¬m=nx from g2)
   obtain⟨vD,jC,jD,vE⟩:=cW (show ¬m=ng from g3)
   obtain⟨aDO,oQ,oS,aDP⟩:=cW (show ¬m=nf from g4)
   obtain⟨aL2,wZ,w6,aQ6⟩:=cW (show ¬m=np from g5)
   obtain⟨aW4,aDQ,aDR,aL1⟩:=cW (show ¬m=m5 from g7)
   simp -dsimp -implicitDefEqProofs only[go_sem,↓reduceIte,Tryz.f83,dV,kV,j6,uE,oS,pH,dW,fZ,bI,uB,fL,pF,kW,fY,kT,uG,w6,wM,j5,bJ,kU,uI,jD,aB8,uC,uA,uF,uH,aW7,a1E,oQ,fK,wZ,jC,aW6,aDQ,pG,pE,wL,aB7,a1D,aDR,aD,aO,dA,dB,dC,dD,dF,dZ,dR,fQ]
   have hrow:bU.row 5 (List.take i (List.map (List.map Cell.v) (List.map aC.c outs))++[[Cell.v (aE.int IntKind.i64 z.aS),Cell.v (aE.int IntKind.i64 z.bA),Cell.v (aE.int IntKind.i64 z.cV),Cell.v (aE.int IntKind.i64 z.cH),Cell.v (gT 5 aC.c z.aN)]])=zX (outs++[z]):=by
    rw[a3V,aC.aY z,hJ (by rw[gX,gX];omega)];rfl
   rw[hrow]
   refine⟨(i+1,outs++[z],some m,a11,bQ1),IntWalk.i64_in _ aA,?_,⟨by omega,by rw[nT,hol];rfl,g6,λb q=>by cases q;exact⟨g1,g5,g4⟩,λw hw=>?_,by omega⟩,by simp only;omega⟩
   ·rw[aD _ _ _ _ bDQ]at ex
    rw[aD _ _ _ _ a1B]at dg
    intro q_
    simp only[aO,aJ,cN]
    grind
   ·rcases nY.1 hw with hw|hw
    ·exact hsz w hw
    ·rw[iO.1 hw];exact hzs
 ·cases oo with
  |none =>
   rw[aZ]at hos
   rw[hos]at hol
   simp at hol
   omega
  |some m5 =>
  rw[aP]at hos
  obtain⟨k1,k2,k3⟩:=hon m5 rfl
  obtain⟨aQ4,pE,pF,aI7⟩:=cW (show ¬m5=ns from k1)
  obtain⟨bDO,wL,wM,bDP⟩:=cW (show ¬m5=np from k2)
  obtain⟨aQ5,pG,pH,aI8⟩:=cW (show ¬m5=nf from k3)
  obtain rfl:i=k:=by omega
  simp only[aJ,cN]at *
  simp -dsimp -implicitDefEqProofs only[go_sem,↓reduceIte,Tryz.f83,dV,kV,pH,dW,fZ,pF,kW,fY,wM,pG,pE,wL,aD,aO,dA,dB,dC,dD,dF,dZ,dR,fQ]
  refine⟨by decide,by decide,?_⟩
  cases o with
  |none =>
   have hes:es=[]:=by
    have:=hor.length
    rw[hfo rfl]at this
    exact aHR.1 this.symm
   have gF:fs=[]:=hfo rfl
   subst hes gF
   simp only[nE]at *
   simp -dsimp -implicitDefEqProofs only[go_sem,↓reduceIte,Tryz.f83,dV,kV,pH,dW,fZ,pF,kW,fY,wM,pG,pE,wL,aD,aO,dA,dB,dC,dD,dF,dZ,dR,fQ]
   refine⟨by decide,λm qm=>?_⟩
   have g1:¬m=ns:=by grind
   have g4:¬m=nf:=by grind
   have g5:¬m=np:=by grind
   have g7:¬m=m5:=by grind
   have g6:G m=none:=by grind
   obtain⟨oN,fK,fL,oO⟩:=cW (show ¬m=ns from g1)
   obtain⟨aDO,oQ,oS,aDP⟩:=cW (show ¬m=nf from g4)
   obtain⟨aL2,wZ,w6,aQ6⟩:=cW (show ¬m=np from g5)
   obtain⟨aW4,aDQ,aDR,aL1⟩:=cW (show ¬m=m5 from g7)
   simp -dsimp -implicitDefEqProofs only[go_sem,↓reduceIte,Tryz.f83,dV,kV,oS,pH,dW,fZ,fL,pF,kW,fY,w6,wM,oQ,fK,wZ,aDQ,pG,pE,wL,aDR,aD,aO,dA,dB,dC,dD,dF,dZ,dR,fQ]
   obtain rfl:G=G1:=hG
   refine⟨.gK [],_,cT ?_,outs,m,m5,a8,sd8,hol,hsz,⟨g6,g1,g5⟩,⟨hos,k1,k2⟩,aL1,by omega,rfl⟩
   intro q_
   simp only[aO,k7,dZ]
   grind
  |some m0 =>
   have hg0:=hGm m0 rfl
   have j1:¬m0=ns:=λe=>by rw[e,hns]at hg0;cases hg0
   have j2:¬m0=np:=λe=>by rw[e,hnp]at hg0;cases hg0
   have j3:¬m0=nf:=λe=>by rw[e,cf]at hg0;cases hg0
   have j4:¬m0=m5:=λe=>by rw[e,hos]at hg0;cases hg0
   obtain⟨aB2,iS,iT,yE⟩:=cW (show ¬m0=ns from j1)
   obtain⟨bT6,bDR,bDS,bT7⟩:=cW (show ¬m0=np from j2)
   obtain⟨bDL,aFI,aFJ,a1C⟩:=cW (show ¬m0=nf from j3)
   obtain⟨bT8,bDT,bDU,bDV⟩:=cW (show ¬m0=m5 from j4)
   simp only[cN]at *
   simp -dsimp -implicitDefEqProofs only[go_sem,↓reduceIte,Tryz.f83,dV,kV,pH,aFJ,dW,fZ,pF,iT,kW,fY,wM,bDS,pG,pE,wL,bDU,aFI,iS,bDR,bDT,aD,aO,dA,dB,dC,dD,dF,dZ,dR,fQ,hg0,cP]
   have hel:es.length=fs.length:=hor.length.symm
   refine⟨by decide,by omega,by omega,by omega,λm qm=>?_⟩
   have g1:¬m=ns:=by grind
   have g4:¬m=nf:=by grind
   have g5:¬m=np:=by grind
   have g7:¬m=m5:=by grind
   have g6:G m=none:=by grind
   obtain⟨oN,fK,fL,oO⟩:=cW (show ¬m=ns from g1)
   obtain⟨aDO,oQ,oS,aDP⟩:=cW (show ¬m=nf from g4)
   obtain⟨aL2,wZ,w6,aQ6⟩:=cW (show ¬m=np from g5)
   obtain⟨aW4,aDQ,aDR,aL1⟩:=cW (show ¬m=m5 from g7)
   simp -dsimp -implicitDefEqProofs only[go_sem,↓reduceIte,Tryz.f83,dV,kV,oS,pH,dW,fZ,fL,pF,kW,fY,w6,wM,oQ,fK,wZ,aDQ,pG,pE,wL,aDR,aD,aO,dA,dB,dC,dD,dF,dZ,dR,fQ]
   have g8:¬m=m0:=λe=>by rw[e,hg0]at g6;cases g6
   rw[hG,aJ,aD _ _ _ _ g8]at g6
   rw[hG,aJ,aD _ _ _ _ bDV]at hos
   rw[kC]at hgs
   rw[hG,aJ,aD _ _ _ _ a1C]at cf
   refine⟨.gK [],_,cT ?_,outs,m,m5,a8,sd8,hol,hsz,⟨g6,g1,g5⟩,⟨hos,k1,k2⟩,aL1,by omega,rfl⟩
   have htk:List.take fs.length (OV.cells es)=OV.cells es:=hJ (by rw[cP];omega)
   intro q_
   simp only[hG,aJ,aO,htk]
   grind
def a1F (nm:List UInt8) (fs:List aV) (n:Int) (mo k:Nat):List (List aE):=fs.map aV.c++[[.str nm,I n,.os mo 5 0 k]]
def bKJ (nm:List UInt8) (fs:List aV) (n:Int) (mo k:Nat):bU:=.row 3 ((a1F nm fs n mo k).map (List.map .v))
def aUS (nm:List UInt8) (fs:List aV) (n:Int) (outs:List aC):aF:=⟨fs++[⟨nm,n,outs⟩]⟩
theorem a1G {α:Type} (c:α->List aE) (l:List α):OV.cells (l.map λx=>(c x).map OV.v)=(l.map c).map (List.map .v):=by
 simp only[OV.cells,zZ]
 refine aCA λx _=>?_
 show((c x).map OV.v).map _=(c x).map _
 rw[zZ];rfl
theorem aOC:∀ l:List aE,OV.b5 (l.map OV.v)=[]
 | []=>rfl
 |x::l=>by rw[qR,OV.eP,OV.aA6,aOC l];rfl
theorem aW8 {α:Type} (c:α->List aE):∀ l:List α,OV.bF (l.map λx=>(c x).map OV.v)=[]
 | []=>rfl
 |x::l=>by rw[qR,OV.bF,aOC,aW8 c l];rfl
theorem a81 {α:Type} (c:α->List aE) (l:List α):(l.map λx=>(c x).map OV.v).map (List.map OV.pX)=l.map c:=by
 rw[zZ]
 refine aCA λx _=>?_
 show((c x).map OV.v).map OV.pX=c x
 rw[zZ]
 exact(aCA λy _=>rfl).trans (List.map_id _)
def ovL (nm:List UInt8) (fs:List aV) (n:Int) (outs:List aC) (mo:Nat):List (List OV):=(fs.map λf=>f.c.map OV.v)++[[.v (.str nm),.v (I n),.sl mo 5 (outs.map λx=>x.c.map OV.v)]]
theorem a3X (nm:List UInt8) (fs:List aV) (n:Int) (outs:List aC) (mo:Nat):OV.cells (ovL nm fs n outs mo)=(a1F nm fs n mo outs.length).map (List.map .v):=by
 rw[ovL,q0,a1G,a1F,mY]
 congr 1
 simp[OV.cells,OV.val]
theorem aUT (nm:List UInt8) (fs:List aV) (n:Int) (outs:List aC) (mo:Nat):OV.bF (ovL nm fs n outs mo)=[(mo,zX outs)]:=by
 rw[ovL,OV.lK,aW8]
 simp only[OV.bF,OV.eP,OV.iQ,OV.aA6,OV.eK,aW8,a1G,dZ,dR]
 rfl
theorem bDX (nm:List UInt8) (fs:List aV) (n:Int) (outs:List aC) (m mo:Nat):[OV.sl m 3 (ovL nm fs n outs mo)].map OV.pX=(aUS nm fs n outs).c:=by
 rw[aF.aY,aRL,OV.pX,OV.jS,ovL,mY,a81]
 simp only[aUS,aF.aK,gT,mY,aRL,qR,w9]
 rw[aV.aY]
 simp only[aV.lD,aV.aR,aV.aU,OV.pX,OV.jS,a81,gT]
theorem a3Y {nm:List UInt8} {ns np:Nat} {c:List Int} (hc:∀ x∈c,InB x) (hl:c.length<=4096) {fs:List aV} (hfl:fs.length<=3) (hP:zM ⟨fs⟩) {es:List (List OV)} {o:Option Nat} (hor:OR aV.o fs es) {B G1:aB} (hnw:fI B (OV.bF es) G1) (hfo:o=none->fs=[]) (hgs:aAA G1 es o) (hns:cQ G1 (.row 3 (OV.cells es)) o ns=none) (hnp:cQ G1 (.row 3 (OV.cells es)) o np=none) (hne:¬np=ns) (args:List Int) (hal:args.length<=10) {k:Nat} (hk:1<=k/\k<=10) (from_:Int) (hfr:0<=from_/\from_<=10) {a:Nat} (ha:a<=700000000) {sd:Int} :
  iD Tryz.prog 83 [.op ns 3 0 0,.op np 1 0 0,.str nm,ints args,I k,I from_] (aT (aT (cQ G1 (.row 3 (OV.cells es)) o) np (.row 1 [[.v (j7 3 fs.length o)]])) ns (jW c a sd)) λ_ h'=>∃ (outs:List aC) (m mo a':Nat) (sd':Int),outs.length=k/\(∀ x∈outs,x.s<=60)/\(B m=none/\¬m=ns/\¬m=np)/\(B mo=none/\¬mo=ns/\¬mo=np)/\¬mo=m/\a'<=a+10000 /\
   h'=aT (aT (aT (aT B mo (zX outs)) m (bKJ nm fs args.length mo k)) np (.row 1 [[.v (.os m 3 0 (fs.length+1))]])) ns (jW c a' sd') :=
 (a3W (nm:=nm) hc hl hfl hP hor hfo hgs hns hnp hne args hal hk from_ hfr ha).shift λr h' ⟨outs,m,mo,a',sd',q1,q2,⟨m1,m2,m3⟩,⟨o1,o2,o3⟩,q5,q6,e⟩=>by
  subst e
  have hG:∀ q,cQ G1 (.row 3 (OV.cells es)) o q=none->G1 q=none:=λq hq=>by
   cases o with
   |none=>exact hq
   |some m0 =>
    rw[kC]at hgs
    rw[aJ]at hq
    by_cases e:q=m0
    ·rw[e];exact hgs
    ·rw[aD _ _ _ _ e]at hq;exact hq
  have hB:∀ q,G1 q=none->B q=none:=λq hq=>by
   cases hb:B q with
   |none=>rfl
   |some x=>rw[hnw.keep hb]at hq;cases hq
  have hN:∀ q,G1 q=none->q∉bC (OV.bF es):=λq hq hm=>by
   obtain⟨x,hx⟩:=dH.1 hm
   have:=hnw.oC _ hx
   simp only at this
   rw[hq]at this;cases this
  have hns':=hG _ hns
  have hnp':=hG _ hnp
  have hrw:OV.bF (es++[[.v (.str nm),.v (I args.length),.v (.os mo 5 0 k)]])=OV.bF es:=by
   rw[OV.lK];simp[OV.bF,OV.eP,OV.iQ,OV.aA6]
  have hce:OV.cells (es++[[.v (.str nm),.v (I args.length),.v (.os mo 5 0 k)]])=OV.cells es++[[Cell.v (.str nm),Cell.v (I args.length),Cell.v (.os mo 5 0 k)]]:=by
   rw[q0];rfl
  have hdt:(es++[[OV.v (.str nm),.v (I args.length),.v (.os mo 5 0 k)]]).map (List.map OV.pX)=a1F nm fs args.length mo k:=by
   rw[mY,←OV.jS,OR.pX (λ_ _ q=>aV.aS9 q) hor];rfl
  have hw:=aB.a8O (h:=aT (aT (aT (aT G1 mo (zX outs)) m (.row 3 (OV.cells es++[[.v (.str nm),.v (I args.length),.v (.os mo 5 0 k)]]))) np (.row 1 [[.v (.os m 3 0 (fs.length+1))]])) ns (jW c a' sd')) (b:=m) (sz:=3) (es:=es++[[.v (.str nm),.v (I args.length),.v (.os mo 5 0 k)]])
   (by rw[hce,aD _ _ _ _ m2,aD _ _ _ _ m3,aI]) (λp hp=>by
    rw[hrw]at hp
    have:=hnw.oC p hp
    have hx:∀ q,G1 q=none->¬p.1=q:=λq hq e=>by rw[e,hq]at this;cases this
    rw[aD _ _ _ _ (hx _ hns'),aD _ _ _ _ (hx _ hnp'),aD _ _ _ _ (hx _ m1),aD _ _ _ _ (hx _ o1)];exact this) (by rw[hrw];exact hN _ m1)
  rw[hdt,hrw]at hw
  refine⟨_,(aB.kH λq=>?_).trans hw,outs,m,mo,a',sd',q1,q2,⟨hB _ m1,m2,m3⟩,⟨hB _ o1,o2,o3⟩,q5,q6,rfl⟩
  by_cases e:q∈bC (OV.bF es)
  ·left
   have hx:∀ r,G1 r=none->¬q=r:=λr hr e2=>hN r hr (e2▸e)
   rw[aD _ _ _ _ (hx _ hns'),aD _ _ _ _ (hx _ hnp'),aD _ _ _ _ (hx _ m1),aD _ _ _ _ (hx _ o1)]
   exact hnw.fresh q e
  ·right
   by_cases e1:q=m
   ·rw[e1,aD _ _ _ _ m2,aD _ _ _ _ m3,aI,aI];rfl
   rw[aD _ _ _ _ e1,kY e]
   by_cases e2:q=ns
   ·rw[e2,aI,aI]
   rw[aD _ _ _ _ e2,aD _ _ _ _ e2]
   by_cases e3:q=np
   ·rw[e3,aI,aI]
   rw[aD _ _ _ _ e3,aD _ _ _ _ e3,aD _ _ _ _ e1,aD _ _ _ _ e1]
   by_cases e4:q=mo
   ·rw[e4,aI,aI]
   rw[aD _ _ _ _ e4,aD _ _ _ _ e4,hnw.upto q e]
@[go_sem] def bXH:List Nat:=[0,1,4,5,7,8,17,33]
@[go_sem] def b2U:Marks:=λid=>match id with|6=>([3,7,12,16,19,23,24,25,27],(.op 0 (.op 1 (.op 2 (.op 4 (.op 8 (.op 9 (.op 10 (.op 11 (.op 13 (.op 17 (.op 20 (.op 21 (.op 22 (.op 3 (.op 5 (.op 6 (.op 7 (.op 12 (.op 14 (.op 15 (.op 16 (.op 18 (.op 19 (.op 23 (.op 24 (.op 25 (.op 26 (.op 27 .nil)))))))))))))))))))))))))))),[(3,24),(3,25),(7,24),(7,25),(12,24),(16,24),(19,24)])|_=>([],.nil,[])
theorem Shift.bXI {h h':aB} {w:aE->aE} (hw:aVT w) (e:List OV) (ho:qO h' (OV.b5 e)) (hl:h.le (iX h' (bC (OV.b5 e)))):Shift (w (.agg (e.map OV.val))) h' (w (.agg (e.map OV.pX))) h:=λE W v R rx =>
 ⟨E,(Ev.iX _).forget hl,(R.iX _).forget hl,(hw E h' _ W _ _ v (λb=>qK _ b) (λu ru=>fG.aSX R e u ho (λp hp=>dH.2 ⟨p.2,hp⟩) ru) rx).pV λb hb=>oU.le hl hb⟩
theorem aQ7 {α:Type} (f:α->Nat) (m:Nat):∀ l:List α,(∀ x∈l,f x<=m)->rX f l<=(m+1)*l.length
 | [],_=>by simp[rX]
 |x::l,h=>by
  have h1:=aQ7 f m l λy hy=>h y (.tail _ hy)
  have h2:=h x (.head _)
  simp only[rX,aB9,qR,aJG]at h1 ⊢
  rw[Nat.mul_add,aRK];omega
theorem bDY {nm:List UInt8} (hnm:nm.length<=10) {fs:List aV} (hd:aCU fs) (hl:fs.length<=3) {n:Int} {k:Nat} (hk:k<=10) {outs:List aC} (ho:outs.length=k) (hs:∀ x∈outs,x.s<=62):(aUS nm fs n outs).s<=4194304:=by
 have h1:∀ f∈fs,f.s<=1000:=λf hf=>by
  obtain⟨j,hj,-,⟨w,hw,hn⟩,-,h3,h4⟩:=hd.get hf
  obtain⟨c,hc,-,-⟩:=aUO (k:=j) aA
  have h5:w.length<=4:=by simp only[aQW,pP,aXG,or_false]at hw;rcases hw with rfl|rfl|rfl|rfl <;> decide
  have h6:=aQ7 aC.s 39 f.aU λx hx=>(h4 x hx).1
  rw[aV.aDB,hn,hc,nT,nN]
  omega
 have h2:=aQ7 aV.s 1000 (fs++[⟨nm,n,outs⟩]) λf hf=>by
  rcases nY.1 hf with hf|hf
  ·exact h1 f hf
  ·rw[iO.1 hf,aV.aDB]
   have h7:=aQ7 aC.s 62 outs hs
   simp only[aV.lD,aV.aU]
   omega
 rw[aF.aDB,aUS]
 simp only[aF.aK]
 rw[nT,nN]at h2
 omega
@[go_sem] def b2V:List Nat:=[22,24]
@[go_sem] def b2W:Marks:=λid=>match id with|8=>([0,2,6],(.op 1 (.op 5 (.op 0 (.op 2 (.op 3 (.op 4 (.op 6 (.op 7 (.op 8 .nil))))))))),[(2,6)])|_=>([],.nil,[])
def zY:List UInt8:=[109,97,112]
@[go_sem] def bXJ:Marks:=λid=>match id with|6=>([0,2,3,8,9],(.op 1 (.op 5 (.op 6 (.op 7 (.op 0 (.op 2 (.alt 3 (.op 4 (.op 8 (.op 9 (.op 10 (.op 11 (.op 12 .nil)))))) 8 (.alt 3 (.op 4 (.op 9 (.op 10 (.op 11 (.op 12 .nil))))) 9 (.op 3 (.op 4 (.op 10 (.op 11 (.op 12 .nil))))))))))))),[(0,3),(0,8),(2,8),(2,9)])|_=>([],.nil,[])
set_option maxHeartbeats 4000000 in
theorem bKK {c:List Int} (hc:∀ x∈c,InB x) (hl:c.length<=4096) {g:aB}:iD Tryz.prog 34 [.sl 1 (c.map λn=>[.int .u8 n]) false] g λr h'=>∃ (p:aF) (f:Int) (start dir:List Int),(p.s<=4194304/\start.length<=3/\dir.length<=3)/\r=.gK [.agg p.c,I f,ints start,ints dir]/\h'=g:=by
 refine jU 35 bOR cU bXJ Tryz.func34 ?_
 simp -dsimp -implicitDefEqProofs only[go_sem,↓reduceIte,Tryz.f34]
 intro n2 q2
 refine aH.fX (bQX c) ?_
 rintro r_ h' ⟨ns,rfl,hns,rfl⟩
 have k1:¬n2=ns:=λe=>by rw[e,aI]at hns;cases hns
 obtain⟨bT9,a1H,a1I,a1J⟩:=cW (show ¬n2=ns from k1)
 simp -dsimp -implicitDefEqProofs only[go_sem,↓reduceIte,Tryz.f34]
 refine aH.fX (r5 (a:=0) (sd:=0) hc hl aA 2 aA (aI ..)) ?_
 rintro r_ h' ⟨x,a1,sd1,rfl,x0,x1,-,ha1,rfl⟩
 have x1:=x1 aA
 obtain⟨nk,rfl⟩:∃ nk:Nat,x=nk:=⟨x.toNat,by omega⟩
 rw[aL]
 simp -dsimp -implicitDefEqProofs only[go_sem,↓reduceIte,Tryz.f34]
 refine aH.fX (bQU (L0:=8) ⟨by decide,by decide⟩ (a:=a1) (sd:=sd1) (n:=nk) (pl:=true) (B:=aT g n2 (.row 1 [[.v .bS]])) hc hl aA hns aA) ?_
 rintro r_ h' ⟨fs,es,o,g1,a2,sd2,hfl,hdr,hor,hnw,z0,hgs,hon,hfo,rfl,ha2,rfl⟩
 simp -dsimp -implicitDefEqProofs only[go_sem,↓reduceIte,Tryz.f34]
 rintro np ⟨p1,p2⟩
 obtain⟨a04,fY,fZ,aB4⟩:=cW (show ¬np=ns from p1)
 rw[aL,cE aB4]
 refine⟨oW ..,?_⟩
 refine aH.fX (r5 (a:=a2) (sd:=sd2) hc hl aA 3 aA (aI ..)) ?_
 rintro r_ h' ⟨y,a3,sd3,rfl,y0,y1,-,ha3,rfl⟩
 have y1:=y1 aA
 obtain⟨k,hk⟩:∃ k:Nat,1+y=k:=⟨(1+y).toNat,by omega⟩
 have wk:IntKind.i64.wrap (1+y)=k:=by rw[IntWalk.i64_in _ aA,hk]
 have hk3:1<=k/\k<=3:=by omega
 rw[aL]
 simp -dsimp -implicitDefEqProofs only[go_sem,↓reduceIte,Tryz.f34,wk]
 have zs:cQ g1 (.row 3 (OV.cells es)) o ns=none:=kG z0 hon
 refine aH.fX (aTV (a:=a3) (sd:=sd3) hc hl k aA (B:=aT (cQ g1 (.row 3 (OV.cells es)) o) np (.row 1 [[.v (j7 3 fs.length o)]])) (by rw[aD _ _ _ _ aB4];exact zs) aA) ?_
 rintro r_ h' ⟨start,a4,sd4,hsl,hsn,rfl,ha4,rfl⟩
 rw[r8]at hsl
 simp -dsimp -implicitDefEqProofs only[go_sem,↓reduceIte,Tryz.f34]
 refine aH.fX (a3Y (nm:=zY) (a:=a4) (sd:=sd4) hc hl aA hdr.a06 hor hnw hfo hgs zs p2 p1 start aA (k:=k) aA 0 b6 aA) ?_
 rintro r_ h' ⟨outs,m,mo,a5,sd5,hol,hos,⟨m1,m2,m3⟩,⟨o1,o2,o3⟩,d1,ha5,rfl⟩
 obtain⟨oN,fK,fL,oO⟩:=cW (show ¬m=ns from m2)
 obtain⟨aL2,wZ,w6,aQ6⟩:=cW (show ¬m=np from m3)
 obtain⟨bDZ,a1K,a1L,bD0⟩:=cW (show ¬mo=ns from o2)
 obtain⟨bD1,a1M,a1N,bUA⟩:=cW (show ¬mo=np from o3)
 obtain⟨bKL,a82,a83,bXK⟩:=cW (show ¬mo=m from d1)
 have hB2:∀ q,aT g n2 (.row 1 [[.v .bS]]) q=none->¬q=n2/\g q=none:=λq hq=>by
  have h1:¬q=n2:=λe=>by rw[e,aI]at hq;cases hq
  rw[aD _ _ _ _ h1]at hq
  exact⟨h1,hq⟩
 have bXL:aT g n2 (.row 1 [[.v .bS]]) np=none:=by
  cases hb:aT g n2 (.row 1 [[.v .bS]]) np with
  |none=>rfl
  |some v =>
   have h1:=hnw.keep hb
   cases o with
   |none=>rw[aM]at p2;rw[p2]at h1;cases h1
   |some m0 =>
    rw[aJ]at p2
    rw[kC]at hgs
    by_cases e:np=m0
    ·rw[e,hgs]at h1;cases h1
    ·rw[aD _ _ _ _ e,h1]at p2;cases p2
 obtain⟨e1,e2⟩:=hB2 _ m1
 obtain⟨e3,e4⟩:=hB2 _ o1
 obtain⟨e5,e6⟩:=hB2 _ bXL
 obtain⟨bKM,a84,a85,bXM⟩:=cW (show ¬m=n2 from e1)
 obtain⟨bD2,a1O,a1P,bUB⟩:=cW (show ¬mo=n2 from e3)
 obtain⟨bUC,a1Q,a1R,bUD⟩:=cW (show ¬np=n2 from e5)
 have wf:IntKind.i64.wrap ((fs.length+1:Nat)-1)=fs.length:=by rw[IntWalk.i64_in _ aA];omega
 have bQ2:g ns=none:=by rw[aD _ _ _ _ a1J]at hns;exact hns
 simp -dsimp -implicitDefEqProofs only[go_sem,↓reduceIte,Tryz.f34,fY,w6,a1N,a1Q,fZ,fL,a1L,a1I,wZ,fK,a83,a84,a1M,a1K,a82,a1O,a1R,a1H,a85,a1P,aD,aO,wf]
 refine⟨λ_=>?_,?_⟩
 all_goals
  refine aH.fX (aTV (a:=a5) (sd:=sd5) hc hl k aA (B:=aT (aT (aT (aT g n2 (.row 1 [[.v .bS]])) mo (zX outs)) m (bKJ zY fs start.length mo k)) np (.row 1 [[.v (.os m 3 0 (fs.length+1))]])) (by rw[aD _ _ _ _ aB4,aD _ _ _ _ oO,aD _ _ _ _ bD0,aD _ _ _ _ a1J];exact bQ2) aA) ?_
  rintro r_ h' ⟨dir,a6,sd6,hdl,hdn,rfl,ha6,rfl⟩
  rw[r8]at hdl
  have hw:=λ(h':aB) ho hl=>Shift.bXI (h:=g) (h':=h') (aA7 [] [I fs.length,ints start,ints dir]) [OV.sl m 3 (ovL zY fs (start.length:Int) outs mo)] ho hl
  have hvl:[OV.sl m 3 (ovL zY fs (start.length:Int) outs mo)].map OV.val=[.os m 3 0 (fs.length+1)]:=by simp[OV.val,ovL]
  rw[bDX,hvl]at hw
  have hfin:∃ r1 g_1,Shift (.gK [.agg [.os m 3 0 (fs.length+1)],I fs.length,ints start,ints dir]) (aT (aT (aT (aT (aT (aT g n2 (.row 1 [[.v .bS]])) mo (zX outs)) m (bKJ zY fs start.length mo k)) np (.row 1 [[.v (.os m 3 0 (fs.length+1))]])) ns (jW c a6 sd6)) n2 (.row 1 [[.v (.os m 3 0 (fs.length+1))]])) r1 g_1/\∃ (p:aF) (f:Int) (start dir:List Int),(p.s<=4194304/\start.length<=3/\dir.length<=3)/\r1=.gK [.agg p.c,I f,ints start,ints dir]/\g_1=g:=by
   refine⟨_,g,hw _ ?_ ?_,aUS zY fs (start.length:Int) outs,fs.length,start,dir,⟨bDY (nm:=zY) b6 hdr aA (k:=k) aA hol (λx hx=>by have:=hos x hx;omega),by omega,by omega⟩,rfl,rfl⟩
   ·rw[OV.eP,OV.iQ,dR,OV.eK,aUT,a3X]
    intro p hp
    rcases pP.1 hp with rfl|hp
    ·rw[aD _ _ _ _ bKM,aD _ _ _ _ oN,aD _ _ _ _ aL2,aI,hol];rfl
    ·rw[iO.1 hp]
     show aT _ n2 _ mo=_
     rw[aD _ _ _ _ bD2,aD _ _ _ _ bDZ,aD _ _ _ _ bD1,aD _ _ _ _ bKL,aI]
   ·rw[OV.eP,OV.iQ,dR,OV.eK,aUT]
    intro q
    by_cases f1:q=m
    ·rw[f1];exact .inl e2
    by_cases f2:q=mo
    ·rw[f2];exact .inl e4
    by_cases f3:q=n2
    ·rw[f3];exact .inl q2
    by_cases f4:q=np
    ·rw[f4];exact .inl e6
    by_cases f5:q=ns
    ·rw[f5];exact .inl bQ2
    right
    rw[kY (by simp[bC,f1,f2]),aD _ _ _ _ f3,aD _ _ _ _ f5,aD _ _ _ _ f4,aD _ _ _ _ f1,aD _ _ _ _ f2,aD _ _ _ _ f3]
  simp -dsimp -implicitDefEqProofs only[go_sem,↓reduceIte,Tryz.f34,fY,w6,a1N,a1Q,fZ,fL,a1L,a1I,wZ,fK,a83,a84,a1M,a1K,a82,a1O,a1R,a1H,a85,a1P,aD,aO,wf]
  first|exact hfin|exact λ_=>hfin|exact⟨λ_=>hfin,λ_=>hfin⟩
def atV (d:List Int) (n:Int):Int:=if d=[]then 0 else d.getD 0 0%n
@[go_sem] def a86:List Nat:=[0,1,2,6,14]
theorem bQ3 (d:List Int) (hd:∀ x∈d,InB x):fR Tryz.prog 35 [.sl 1 (d.map λn=>[.int .u8 n]) false,I 0,I 8] (I (atV d 8)):=by
 cases d with
 |nil =>
  refine gA 22 a86 cU cG Tryz.func35 λh=>?_
  simp -dsimp -implicitDefEqProofs only[go_sem,↓reduceIte,Tryz.f35]
  exact⟨λq=>absurd b6 q,λ_=>by rw[atV,if_pos rfl]⟩
 |cons x d =>
  have hx:=hd x (.head _)
  have ha:atV (x::d) 8=x%8:=by rw[atV,if_neg eC];rfl
  rw[ha]
  refine gA 22 a86 cU cG Tryz.func35 λh=>?_
  simp -dsimp -implicitDefEqProofs only[go_sem,↓reduceIte,Tryz.f35]
  refine λ_=>⟨λ_=>⟨by omega,?_⟩,λq=>absurd q aA⟩
  simp -dsimp -implicitDefEqProofs only[go_sem,↓reduceIte,Tryz.f35,aMA,aI9]
  unfold InB at hx
  rw[IntWalk.i64_in _ aA,uR aA]
theorem a87 (a:List Int) (hl:a.length<=1048576):fR Tryz.prog 40 [ints a,ints a] (.bool true):=by
 refine gA 26 bFB cU bFC Tryz.func40 λh=>?_
 simp -dsimp -implicitDefEqProofs only[go_sem,↓reduceIte,Tryz.f40]
 refine λ_ _=>?_
 refine cM bFB cU bFC (λk:Nat=>[(0,ints a),(1,ints a),(5,I k)]) (λ_=>h) (λk=>k<=a.length) (λk=>a.length-k) 0 ⟨by simp[cR,bZ],aB.le_refl _,eM _⟩ ?_
 intro k hk
 rcases bT k a.length with hlt|hge
 ·have ea:a[k]?=some a[k]:=fC hlt
  simp -dsimp -implicitDefEqProofs only[go_sem,↓reduceIte,Tryz.f40,hlt,ea]
  exact λ_=>⟨k+1,IntWalk.i64_in _ aA,hlt,by omega⟩
 ·obtain rfl:k=a.length:=by omega
  simp -dsimp -implicitDefEqProofs only[go_sem,↓reduceIte,Tryz.f40,bV,cY]
@[go_sem] def bKN:List Nat:=[0,1,4,5,11]
theorem a1S (a:List Int) (x:Int) (hl:1<=a.length/\a.length<=1048576):fR Tryz.prog 41 [ints a,I x] (ints (a.set 0 x)):=by
 have e0:a[Int.toNat 0]?=some (a.getD 0 0):=bW hl.1
 have hne:¬a=[]:=λq=>by rw[q]at hl;simp at hl
 refine mP 16 bKN bOQ cG Tryz.func41 λh=>?_
 simp -dsimp -implicitDefEqProofs only[go_sem,↓reduceIte,Tryz.f41,e0]
 refine⟨by decide,by decide,λq=>absurd (List.map_eq_nil_iff.1 q) hne,λ_=>⟨by omega,by omega,λn hn _=>⟨λ_=>⟨by omega,?_⟩,λq=>absurd q aA⟩⟩⟩
 rw[aL,show Int.toNat 0=0 from rfl,nL I]
 exact fU (a.set 0 x) hn (aB.le_refl _) (by rw[p7])
theorem bD4 (a:List Int) (by_:Int) (na:eI a) (nb:iE by_) (hl:a.length<=1048576):fR Tryz.prog 42 [ints a,I by_] (ints (eJ a by_)):=by
 refine mP 24 aHW aNE cG Tryz.func42 λh=>?_
 simp -dsimp -implicitDefEqProofs only[go_sem,↓reduceIte,Tryz.f42]
 refine⟨aX,?_⟩
 have hcl:=qV a by_
 refine cM aHW aNE cG (λx:Nat×Option Nat=>[(0,ints a),(1,I by_),(5,fT 1 ((eJ a by_).take x.1).length x.2),(6,I x.1)]) (λx=>cQ h (.row 1 ((((eJ a by_).take x.1).map λn=>[I n]).map (List.map .v))) x.2) (λx=>x.1<=a.length/\eU h ((eJ a by_).take x.1) x.2) (λx=>a.length-x.1) (0,none) ⟨by simp[cR,bZ,fT],by simp only[aM];exact aB.le_refl _,eM _,by simp[eU]⟩ ?_
 rintro⟨k,o⟩ ⟨hk,hos⟩
 simp only at hk hos ⊢
 rcases bT k a.length with hlt|hge
 ·have ea:a[k]?=some a[k]:=fC hlt
  have htm:=bE a[k] by_ (na _ (lF hlt)) nb
  have hy:(eJ a by_).take (k+1)=(eJ a by_).take k++[a[k]*by_%1000003]:=by
   rw[iW aA]
   simp[eJ]
  have hlk:((eJ a by_).take k).length=k:=by rw[nU];omega
  cases o with
  |none =>
   rw[aZ]at hos
   rw[hos]at hy ⊢
   simp -dsimp -implicitDefEqProofs only[go_sem,↓reduceIte,Tryz.f42,bD,aM,hlt,ea]
   intro _
   first|refine aH.mk (htm) ?_|refine aG.mk (htm) ?_|refine aH.bH (htm) ?_|refine aG.mk (bB.dI (htm)) ?_
   simp -dsimp -implicitDefEqProofs only[go_sem,↓reduceIte,Tryz.f42]
   repeat'(with_reducible first|intro _|refine And.intro ?_ ?_)
   all_goals try(first|omega|decide)
   rename_i b hb
   refine⟨(k+1,some b),?_⟩
   simp only[hy]
   refine⟨⟨rfl,?_⟩,aB.le_refl _,⟨by omega,hb⟩,by omega⟩
   rw[IntWalk.i64_in _ aA];rfl
  |some n =>
   rw[aP]at hos
   simp -dsimp -implicitDefEqProofs only[go_sem,↓reduceIte,Tryz.f42,aQ,aJ,hlt,ea]
   intro _
   first|refine aH.mk (htm) ?_|refine aG.mk (htm) ?_|refine aH.bH (htm) ?_|refine aG.mk (bB.dI (htm)) ?_
   simp -dsimp -implicitDefEqProofs only[go_sem,↓reduceIte,Tryz.f42]
   repeat'(with_reducible first|intro _|refine And.intro ?_ ?_)
   all_goals try(first|omega|decide|exact bY _)
   rename_i b hb
   refine⟨(k+1,some b),?_⟩
   simp only[hy,aJ,aQ,aP]
   refine⟨⟨by rw[nT];rfl,?_⟩,?_,⟨by omega,hb.2⟩,by omega⟩
   ·rw[IntWalk.i64_in _ aA];rfl
   ·rw[←dS];exact jL hos
 ·have hk':k=a.length:=by omega
  subst hk'
  rw[hJ aA]at hos ⊢
  cases o with
  |none =>
   rw[aZ]at hos
   simp -dsimp -implicitDefEqProofs only[go_sem,↓reduceIte,Tryz.f42,bD,aM,bV,cY]
   rw[hos]
   exact λ_=>Shift.of (Sub.loose _ _ _) (aB.le_refl _)
  |some n =>
   rw[aP]at hos
   simp -dsimp -implicitDefEqProofs only[go_sem,↓reduceIte,Tryz.f42,aQ,aJ,bV,cY]
   exact λ_=>fU _ hos (aB.le_refl _) rfl
@[go_sem] def bKO:List Nat:=[0,1,2,3,6,7,8,9,10,11,27,29,41]
theorem a3Z {p:aF} (hp:p.ok) (hps:p.s<=4194304) (f:Int) (hf:0<=f/\f<p.aK.length) (args:List Int) (na:eI args) (hal:args.length<=1048576) (hl:∀ F,p.aK[f.toNat]?=some F->(args.length:Int)=F.aR) {vs:List (List Int)} {t:Nat} (he:xP p 1 f (args.map λn=>[n])=.ok (vs,t)) (hvs:c7 1 vs.length vs) (hvl:vs.length<=1048576) :
  fR Tryz.prog 38 [.agg p.c,I f,ints args] (.gK [ints (vs.map λs=>s.getD 0 0),I t,I 0]):=by
 have hif:=aKZ p f hps
 rw[if_pos hp,if_pos (show 0<=f/\f<=(p.aK.length:Int)-1 by omega)]at hif
 obtain⟨F,ef,-⟩:=pZ hp hf
 have nX:=aGG hp (sz:=1) b6 f hf (args.map λn=>[n]) (aGR na).1.2 (λF hF=>by rw[gX];exact hl F hF)
 rw[he,show s3 (.ok (vs,t))=(vs,(t:Int),0)from rfl,show(((1:Nat):Int)-1)=0 from rfl]at nX
 have hfi:=aPQ vs hvl (λs hs=>by rw[(hvs.2 s hs).1];decide)
 simp only[aF.aY]at hif nX ⊢
 refine gA 46 bKO aVU bOP Tryz.func38 λh=>?_
 simp -dsimp -implicitDefEqProofs only[go_sem,↓reduceIte,Tryz.f38]
 first|refine aH.mk (hif) ?_|refine aG.mk (hif) ?_|refine aH.bH (hif) ?_|refine aG.mk (bB.dI (hif)) ?_
 simp -dsimp -implicitDefEqProofs only[go_sem,↓reduceIte,Tryz.f38,ef,aV.aY]
 refine⟨hf.1,hf.2,?_⟩
 first|refine aH.mk (dX args F.aR) ?_|refine aG.mk (dX args F.aR) ?_|refine aH.bH (dX args F.aR) ?_|refine aG.mk (bB.dI (dX args F.aR)) ?_
 simp -dsimp -implicitDefEqProofs only[go_sem,↓reduceIte,Tryz.f38,ef,aV.aY]
 refine⟨λq=>absurd ⟨hl F ef,na⟩ q,λ_=>?_⟩
 first|refine aH.mk (vY args hal) ?_|refine aG.mk (vY args hal) ?_|refine aH.bH (vY args hal) ?_|refine aG.mk (bB.dI (vY args hal)) ?_
 simp -dsimp -implicitDefEqProofs only[go_sem,↓reduceIte,Tryz.f38]
 first|refine aH.mk (nX) ?_|refine aG.mk (nX) ?_|refine aH.bH (nX) ?_|refine aG.mk (bB.dI (nX)) ?_
 simp -dsimp -implicitDefEqProofs only[go_sem,↓reduceIte,Tryz.f38]
 first|refine aH.mk (hfi) ?_|refine aG.mk (hfi) ?_|refine aH.bH (hfi) ?_|refine aG.mk (bB.dI (hfi)) ?_
 simp -dsimp -implicitDefEqProofs only[go_sem,↓reduceIte,Tryz.f38]
@[go_sem] def bKP:List Nat:=[0,1,2,3,6,7,8,9,26,28]
@[go_sem] def bXN:Marks:=λid=>match id with|6=>([],(.op 0 (.op 1 (.op 2 (.op 3 (.op 4 (.op 5 (.op 6 (.op 7 (.op 8 (.op 9 (.op 10 (.op 11 (.op 12 .nil))))))))))))),[])|_=>([],.nil,[])
theorem aH7 {p:aF} (hp:p.ok) (hps:p.s<=4194304) (f:Int) (hf:0<=f/\f<p.aK.length) {sz n:Nat} (hsz:1<=sz/\sz<=13) (hn:1<=n/\n<=12) {X:List (List Int)} (hX:c7 sz n X) (hl:∀ F,p.aK[f.toNat]?=some F->(n:Int)=F.aR) {vs:List (List Int)} {t:Nat} (he:xP p sz f X=.ok (vs,t)) :
  fR Tryz.prog 39 [.agg p.c,I f,bL X] (.gK [bL vs,I 0]):=by
 have hif:=aKZ p f hps
 rw[if_pos hp,if_pos (show 0<=f/\f<=(p.aK.length:Int)-1 by omega)]at hif
 obtain⟨F,ef,-⟩:=pZ hp hf
 have nX:=aGG hp (sz:=sz) aA f hf X hX.2 (λF hF=>by rw[hX.1];exact hl F hF)
 rw[he,show s3 (.ok (vs,t))=(vs,(t:Int),0)from rfl]at nX
 have hof:=a0Q hX hn.1
 have har:=bC2 X (by rw[hX.1];omega) F.aR
 simp only[aF.aY]at hif nX ⊢
 refine gA 42 bKP aVU bXN Tryz.func39 λh=>?_
 simp -dsimp -implicitDefEqProofs only[go_sem,↓reduceIte,Tryz.f39]
 first|refine aH.mk (hif) ?_|refine aG.mk (hif) ?_|refine aH.bH (hif) ?_|refine aG.mk (bB.dI (hif)) ?_
 simp -dsimp -implicitDefEqProofs only[go_sem,↓reduceIte,Tryz.f39,ef,aV.aY]
 refine⟨hf.1,hf.2,?_⟩
 first|refine aH.mk (har) ?_|refine aG.mk (har) ?_|refine aH.bH (har) ?_|refine aG.mk (bB.dI (har)) ?_
 simp -dsimp -implicitDefEqProofs only[go_sem,↓reduceIte,Tryz.f39,ef,aV.aY]
 have hg:a8B X F.aR:=by
  have h0:=(hX.get (i:=0) aA).2.1
  exact⟨λs hs=>⟨⟨by rw[(hX.2 s hs).1];exact hsz,(hX.2 s hs).2⟩,by rw[h0];exact(hX.2 s hs).1⟩,by rw[hX.1];exact hl F ef⟩
 refine⟨λq=>absurd hg q,λ_=>?_⟩
 first|refine aH.mk (hof) ?_|refine aG.mk (hof) ?_|refine aH.bH (hof) ?_|refine aG.mk (bB.dI (hof)) ?_
 simp -dsimp -implicitDefEqProofs only[go_sem,↓reduceIte,Tryz.f39]
 first|refine aH.mk (nX) ?_|refine aG.mk (nX) ?_|refine aH.bH (nX) ?_|refine aG.mk (bB.dI (nX)) ?_
 simp -dsimp -implicitDefEqProofs only[go_sem,↓reduceIte,Tryz.f39]
def jX (a:Int) (sz:Nat):List Int:=(bX a sz).set 1 1
theorem aUU {a:Int} (ha:iE a) (sz:Nat):aW sz (jX a sz):=⟨by rw[jX,p7,gE],λx hx=>by
 rcases s6 hx with hx|rfl
 ·exact(cS ha).2 x hx
 ·exact⟨by decide,by decide⟩⟩
theorem aQ8 {a:Int} (ha:iE a) {sz:Nat} (hsz:1<=sz):St [a] sz [jX a sz]:=⟨⟨rfl,λs hs=>by rw[iO.1 hs];exact aUU ha sz⟩,λi hi=>by
 obtain rfl:i=0:=by simp at hi;omega
 show(jX a sz).getD 0 0=a
 have:=iI (sz:=sz) a 0 hsz
 rw[if_pos rfl]at this
 rw[jX,e8,mG b6,←e8]
 exact this⟩
theorem bKQ {p:aF} (hp:p.ok) (f:Int) (hf:0<=f/\f<p.aK.length) (a:Int) (ha:iE a) {sz:Nat} (ho:2<=sz/\sz<=13) (hl:∀ F,p.aK[f.toNat]?=some F->(1:Int)=F.aR) :
  fR Tryz.prog 117 [.agg p.c,I f,ints [a],ints [1],I ((sz:Int)-1)] (.gK [bL (s3 (xP p sz f [jX a sz])).1,I (s3 (xP p sz f [jX a sz])).2.2]):=by
 have nX:=aGG hp (sz:=sz) aA f hf [jX a sz] (aQ8 ha aA).1.2 hl
 rw[aF.aY]at nX
 have hw1:IntKind.i64.wrap ((sz:Int)-1+1)=(sz:Int):=by rw[IntWalk.i64_in _ aA];omega
 have ho0:(sz:Int)-1 > 0:=by omega
 have e2:=y5 (sz:=sz) (x:=[aE.int .i64 0]) aA
 have hr0:((List.replicate sz [aE.int .i64 0]).map (List.map Cell.v)).set 0 [Cell.v (I a)]=((bX a sz).map λn=>[I n]).map (List.map .v):=by
  rw[bX,aJF,aJF];simp[aXJ]
 have e3:(bX a sz)[Int.toNat 1]?=some ((bX a sz).getD 1 0):=bW (by rw[gE];show 1<sz;omega)
 rw[aF.aY]
 refine mP 57 aZY bFT cG Tryz.func117 λh=>?_
 simp -dsimp -implicitDefEqProofs only[go_sem,↓reduceIte,Tryz.f117]
 refine⟨aX,?_⟩
 refine aGA aZY bFT cG (λx:Nat×Option Nat=>[(1,I f),(3,ints [1]),(4,I ((sz:Int)-1)),(5,.ip 1 [[gT 3 aV.c p.aK]] 0 0),(12,fT 1 (([jX a sz]).take x.1).length x.2),(20,ints [a]),(21,I 1),(22,I x.1)]) (λx=>cQ h (.row 1 (((([jX a sz]).take x.1).map λs=>[ints s]).map (List.map .v))) x.2) (λx=>x.1<=1/\(x.1=0->x.2=none)/\(x.1=1->∃ n,x.2=some n/\h n=none)) (λx=>1-x.1) (0,none) ⟨by simp[cR,bZ,fT],by simp only[aM];exact aB.kH (aB.le_refl _),eM _,λ_=>rfl,λq=>absurd q b6⟩ ?_
 rintro⟨k,oo⟩ ⟨hk,hos,bQ4⟩
 simp only at hk hos bQ4 ⊢
 have hk2:k=0∨k=1:=by omega
 rcases hk2 with rfl|rfl
 ·obtain rfl:=hos rfl
  have e2':(List.replicate sz [aE.int .i64 0])[0]?=some [aE.int .i64 0]:=e2
  simp -dsimp -implicitDefEqProofs only[go_sem,↓reduceIte,Tryz.f117,bD,aM,hw1,ho0,r8,e2',aMA,aI9]
  refine⟨λ_=>⟨by decide,by decide,bY _,by omega,by omega,λm hm=>⟨by omega,?_⟩⟩,λq=>absurd q b6⟩
  rw[hr0]
  simp -dsimp -implicitDefEqProofs only[go_sem,↓reduceIte,Tryz.f117,e3,gE]
  refine⟨by decide,by omega,by decide,by decide,by decide,?_⟩
  intro b y7
  obtain⟨rZ,lM,lN,rD⟩:=cW (show ¬b=m from pjx y7)
  have z_b:h b=none:=pjx y7
  refine⟨(1,some b),?_⟩
  have hl0:(jX a sz).length=sz:=by rw[jX,p7,gE]
  refine⟨⟨rfl,IntWalk.i64_in _ aA⟩,aIQ (m:=m) (b:=b) [] (jX a sz) (by rw[aD _ _ _ _ rD,aI,show Int.toNat 1=1 from rfl,nL I];rfl) (by rw[aI,hl0];rfl) rZ (by simp only[aJ];rw[show[]++[jX a sz]=[jX a sz].take 1 from rfl];exact(lG bMV)),⟨bY _,λq=>absurd (show(1:Nat)=0 from q) b6,λ_=>⟨b,rfl,z_b⟩⟩,(show 1-1<1 by decide)⟩
 ·obtain⟨n,rfl,hn⟩:=bQ4 rfl
  simp -dsimp -implicitDefEqProofs only[go_sem,↓reduceIte,Tryz.f117,aQ,aJ]
  refine⟨λq=>absurd q b6,λ_=>?_⟩
  refine aH.a6O (es:=[[ints (jX a sz)]]) nX (by simp[kK,jK]) (by simp[mZ,aE.fS]) ?_
  simp -dsimp -implicitDefEqProofs only[go_sem,↓reduceIte,Tryz.f117]
  exact cT (aB.bM hn (aB.le_refl _))
@[go_sem] def bD5:List Nat:=[0,1,2,3,4,8,9,36]
theorem bD6 {p:aF} (hp:p.ok) (hps:p.s<=4194304) (f:Int) (hf:0<=f/\f<p.aK.length) (args dir:List Int) (na:eI args) (nd:eI dir) (hl:∀ F,p.aK[f.toNat]?=some F->(args.length:Int)=F.aR/\(dir.length:Int)=F.aR):fR Tryz.prog 115 [.agg p.c,I f,ints args,ints dir] (I 0):=by
 have hif:=aKZ p f hps
 rw[if_pos hp,if_pos (show 0<=f/\f<=(p.aK.length:Int)-1 by omega)]at hif
 obtain⟨F,ef,-⟩:=pZ hp hf
 obtain⟨l1,l2⟩:=hl F ef
 simp only[aF.aY]at hif ⊢
 refine gA 38 bD5 bVS cG Tryz.func115 λh=>?_
 simp -dsimp -implicitDefEqProofs only[go_sem,↓reduceIte,Tryz.f115]
 first|refine aH.mk (hif) ?_|refine aG.mk (hif) ?_|refine aH.bH (hif) ?_|refine aG.mk (bB.dI (hif)) ?_
 simp -dsimp -implicitDefEqProofs only[go_sem,↓reduceIte,Tryz.f115,ef,aV.aY]
 refine⟨hf.1,hf.2,?_⟩
 first|refine aH.mk (dX args F.aR) ?_|refine aG.mk (dX args F.aR) ?_|refine aH.bH (dX args F.aR) ?_|refine aG.mk (bB.dI (dX args F.aR)) ?_
 simp -dsimp -implicitDefEqProofs only[go_sem,↓reduceIte,Tryz.f115,ef,aV.aY]
 refine⟨λ_=>⟨hf.1,hf.2,?_⟩,λq=>q ⟨l1,na⟩⟩
 first|refine aH.mk (dX dir F.aR) ?_|refine aG.mk (dX dir F.aR) ?_|refine aH.bH (dX dir F.aR) ?_|refine aG.mk (bB.dI (dX dir F.aR)) ?_
 simp -dsimp -implicitDefEqProofs only[go_sem,↓reduceIte,Tryz.f115,ef,aV.aY]
 exact λq=>q ⟨l2,nd⟩
@[go_sem] def bKR:List Nat:=[0,1,2,3,4,5,10,11,12,24,26]
theorem bD7 {p:aF} (hp:p.ok) (hps:p.s<=4194304) (f:Int) (hf:0<=f/\f<p.aK.length) (a:Int) (ha:iE a) {sz:Nat} (ho:2<=sz/\sz<=13) (hl:∀ F,p.aK[f.toNat]?=some F->(1:Int)=F.aR) {vs:List (List Int)} {t:Nat} (he:xP p sz f [jX a sz]=.ok (vs,t)) :
  fR Tryz.prog 43 [.agg p.c,I f,ints [a],ints [1],I ((sz:Int)-1)] (.gK [bL vs,I 0]):=by
 have hil:=bD6 hp hps f hf [a] [1] (λx hx=>by rw[iO.1 hx];exact ha) (λx hx=>by rw[iO.1 hx];exact⟨by decide,by decide⟩) λF hF=>⟨hl F hF,hl F hF⟩
 have hal:=bKQ hp f hf a ha ho hl
 rw[he,show s3 (.ok (vs,t))=(vs,(t:Int),0)from rfl]at hal
 simp only[aF.aY]at hil hal ⊢
 refine gA 36 bKR a5W cG Tryz.func43 λh=>?_
 simp -dsimp -implicitDefEqProofs only[go_sem,↓reduceIte,Tryz.f43]
 first|refine aH.mk (hil) ?_|refine aG.mk (hil) ?_|refine aH.bH (hil) ?_|refine aG.mk (bB.dI (hil)) ?_
 simp -dsimp -implicitDefEqProofs only[go_sem,↓reduceIte,Tryz.f43]
 first|refine aH.mk (within ((sz:Int)-1) 0 12) ?_|refine aG.mk (within ((sz:Int)-1) 0 12) ?_|refine aH.bH (within ((sz:Int)-1) 0 12) ?_|refine aG.mk (bB.dI (within ((sz:Int)-1) 0 12)) ?_
 simp -dsimp -implicitDefEqProofs only[go_sem,↓reduceIte,Tryz.f43]
 refine⟨λq=>absurd aA q,λ_=>?_⟩
 first|refine aH.mk (hal) ?_|refine aG.mk (hal) ?_|refine aH.bH (hal) ?_|refine aG.mk (bB.dI (hal)) ?_
 simp -dsimp -implicitDefEqProofs only[go_sem,↓reduceIte,Tryz.f43]
end Go.Hl

/-
  Contracts of functions and laws of the layer over the walk.
-/
import Derived.Test.YtajjlpophonkoaaGreatDoorVvF
import Derived.Test.YtajjlpophonkoaaGreatDoorVvA
import Derived.Test.YtajjlpophonkoaaGreatDoorVvE
import Derived.Test.YtajjlpophonkoaaGreatDoorVvC
import Derived.Test.YtajjlpophonkoaaGreatDoorVvD
namespace Go.Hl
set_option maxRecDepth 100000
open Go.Proofs
set_option linter.unusedVariables false
set_option linter.unusedSimpArgs false
theorem bCB {h g:aE} {b len:Nat} {es:List (List OV)} {L:List (List Int)} (hes:OR (oL I) L es) (hnw:gB h (OV.cJ [OV.sl b 1 es]) g) (hl:len=L.length):View g (.os b 1 0 len) (b6 L):=by
 have h1:=View.ovD (h:=g) (d:=b6 L) (OV.sl b 1 es) (aGB (OS.mk hes)) (by
  have:=hnw.tO
  rw[OV.fC,OV.gZ,dT]at this
  exact this)
 rw[OV.aCK,←hes.length]at h1
 rwa [hl]
theorem bHY {vs:List (List Int)} {u:Nat}:aE8 (.ok (vs,u))=(vs.map (·.getD 0 0),(u:Int),0):=rfl
@[go_sem] def aRP:List Nat:=[0,1,2,3,8,9,12,13,14,15,16,18,28,35,50,68]
@[go_sem] def bHZ:List Nat:=[29,31,46]
@[go_sem] def bH0:Marks:=λid=>match id with|16=>([3,18],(.op 0 (.op 1 (.op 2 (.op 4 (.op 5 (.op 6 (.op 7 (.op 8 (.op 9 (.op 10 (.op 11 (.op 12 (.op 13 (.op 14 (.op 15 (.op 16 (.op 3 (.op 17 (.op 18 .nil))))))))))))))))))),[])|_=>([],.nil,[])
theorem bH1 {p:aC} (hp:p.ok) {sz:Nat} (c6:1<=sz/\sz<=13) (f:Int) (hf:0<=f/\f<p.aD.length) {start:List Int} (ns:dW start) (hs:1<=start.length/\start.length<=12) (hl:∀ F,p.aD[f.toNat]?=some F->(start.length:Int)=F.aT) {V:Nat->List (List Int)->List (List Int)} {u:Nat} {vs:List (List Int)} (hV:VF start V) (h1:evF p 1 f (start.map λn=>[n])=.ok (vs,u)) (zE:∀ sz X,1<=sz->St start sz X->evF p sz f X=.ok (V sz X,u)) :
  uT Tryz.prog 37 [.ip 1 [p.c] 0 0,I f,ints start,I ((sz:Int)-1)] (QS (OS (oL I) 1 (eS V start (sz-1))) (λy=>.jO [y,I 0])):=by
 have h2:=a8Q hp f hf start ns hs.2 hl
 rw[h1,bHY]at h2
 have h3:=λk (hk:k<sz)=>bMY hp (sz:=k+1) aA f hf (eS V start k) (gE V ns k).1.2 (λF hF=>by rw[j5];exact hl F hF)
 have h3':=λk (hk:k<sz)=>zE (k+1) _ aA (gE V ns k)
 have e1:IntKind.i64.wrap ((sz:Int)-1+1)=(sz:Int):=by rw[IntWalk.i64_in _ aA];omega
 have hel:(wC start sz).length=start.length:=by simp[wC]
 simp only[aC.aS]at h2 h3 ⊢
 refine aBC 90 aRP bHZ bH0 Tryz.func37 λh=>?_
 simp -dsimp -implicitDefEqProofs only[go_sem,↓reduceIte,Tryz.f37]
 first|refine aJ.mk (h2) ?_|refine aF.mk (h2) ?_|refine aJ.bA (h2) ?_|refine aF.mk (aX.cU (h2)) ?_
 simp -dsimp -implicitDefEqProofs only[go_sem,↓reduceIte,Tryz.f37]
 refine⟨bN,?_⟩
 refine cZ aRP bHZ bH0 (λx:Nat×LLx=>[(0,.ip 1 [[fN 3 aU.c p.aD]] 0 0),(1,I f),(2,ints start),(3,I ((sz:Int)-1)),(13,iO 1 x.1 x.2.1),(14,I x.1)]) (λx=>LLH x.2) (λx=>x.1<=start.length/\LLG h ((wC start sz).take x.1) x.2) (λx=>start.length-x.1) (0,none,[],h) ⟨by simp[c4,b7,iO],aE.le_refl _,fE _,LLG.init _⟩ ?_
 rintro⟨k,op,es,g⟩ ⟨hk,H⟩
 simp only at hk H ⊢
 rcases bZ k start.length with hlt|hge
 ·have ea:start[k]?=some start[k]:=cM hlt
  have hy:(wC start sz).take (k+1)=(wC start sz).take k++[fQ start[k] sz]:=by
   rw[jU aA];simp[wC]
  have hlk:((wC start sz).take k).length=k:=by rw[jT];omega
  have xQ:=H.len
  simp only[hlk]at xQ
  have hown:=bB8 start[k] (sz:=sz) aA
  have hc:=s8 start[k] sz
  cases op with
  |none =>
   obtain⟨h1,rfl,rfl⟩:=H.nil
   obtain rfl:k=0:=by rw[←hlk,h1];rfl
   simp -dsimp -implicitDefEqProofs only[go_sem,↓reduceIte,Tryz.f37,hlt,ea,e1,bM,LLH,aQ]
   intro _
   refine aJ.wn0 (hown) ?_
   rintro r_ l_ g ⟨y_,oy_,rfl,rfl⟩ wn_
   rcases oy_.aL7 with⟨_,q_⟩|⟨m,rfl⟩
   ·rw[q_]at hc;simp at hc;omega
   rw[OV.oE]
   rw[OV.hJ,l3,kG]at wn_
   obtain⟨zm,rfl⟩:=wn_.aC9
   simp -dsimp -implicitDefEqProofs only[go_sem,↓reduceIte,Tryz.f37,hc,bM]
   refine⟨bN,bN,bN,λb ⟨b1,b2⟩=>?_⟩
   obtain⟨x',e',H',L'⟩:=H.fin (m:=m) (b:=b) (s:=fQ start[0] sz) (hc) zm b2 b1 (aE.le_refl _)
   refine⟨(1,x'),⟨by simp only[e'];rfl,IntWalk.i64_in _ aA⟩,L',⟨hlt,by simp only;rw[hy];exact H'⟩,by simp only;omega⟩
  |some n =>
   simp -dsimp -implicitDefEqProofs only[go_sem,↓reduceIte,Tryz.f37,hlt,ea,e1,bC,LLH,aK,cW,xQ]
   intro _
   refine aJ.wn1 (hown) H.2.2 ?_
   rintro r_ l_ g' ⟨y_,oy_,rfl,rfl⟩ wn_ zn
   rcases oy_.aL7 with⟨_,q_⟩|⟨m,rfl⟩
   ·rw[q_]at hc;simp at hc;omega
   rw[OV.oE]
   rw[OV.hJ,l3,kG]at wn_
   obtain⟨zm,rfl⟩:=wn_.aC9
   obtain⟨wY,gT,gU,aG1⟩:=bB (show ¬m=n from λe=>by rw[e,aM]at zn;cases zn)
   simp -dsimp -implicitDefEqProofs only[go_sem,↓reduceIte,Tryz.f37,hc,gT,gU,aI,cW,xQ,bC]
   refine⟨bN,bN,bN,iH _,by omega,by omega,λb ⟨bn,bm,bz⟩=>?_⟩
   rw[show List.take k (OV.cells es)=OV.cells es from xQ▸fF es]
   refine⟨(k+1,some b,es++[oI m (fQ start[k] sz)],aR g m (lI (fQ start[k] sz))),⟨rfl,IntWalk.i64_in _ aA⟩,?_,⟨hlt,by simp only;rw[hy];exact H.snoc (fQ start[k] sz) zm bz bm⟩,by simp only;omega⟩
   show(LLH (some b,es++[oI m (fQ start[k] sz)],aR g m (lI (fQ start[k] sz)))).le _
   rw[LLH.snoc,show List.length (fQ start[k] sz)=_ from hc]
   exact aOH H.2.2 wY bn (λq hq=>by simp only[iS,if_neg hq];(repeat' split) <;> first|rfl|contradiction)
 ·have hk':k=start.length:=by omega
  subst hk'
  simp -dsimp -implicitDefEqProofs only[go_sem,↓reduceIte,Tryz.f37,bX,dB]
  intro _
  rw[pQ aA]at H
  obtain⟨y,hy,hv,hw⟩:=H.done
  rw[hel]at hv
  generalize LLH (op,es,g)=G0 at *
  rw[←hv]
  rcases hy with⟨rfl,h0⟩|⟨b,es,rfl,hes⟩
  ·rw[h0]at hel;simp at hel;omega
  rw[←a43 V c6.1]at hes
  have b9S:es.length=start.length:=by rw[←hes.length,sJ]
  rw[OV.aCK,b9S]
  have hnw:gB h (OV.cJ [OV.sl b 1 es]) G0:=by rw[OV.fC,OV.gZ,dT];exact hw
  refine cZ aRP bHZ bH0 (λx:Nat×List (List OV)×aE=>[(0,.ip 1 [[fN 3 aU.c p.aD]] 0 0),(1,I f),(2,ints start),(3,I ((sz:Int)-1)),(13,.os b 1 0 start.length),(15,I x.1)]) (λx=>x.2.2) (λx=>x.1<=sz-1/\OR (oL I) (aAY V start sz x.1 0) x.2.1/\gB h (OV.cJ [OV.sl b 1 x.2.1]) x.2.2) (λx=>sz-1-x.1) (0,es,G0) ⟨by simp[c4,b7],aE.le_refl _,fE _,hes,hnw⟩ ?_
  rintro⟨k,es,g⟩ ⟨hk,hes,hnw⟩
  simp only at hk hes hnw ⊢
  have hgb:g b=some (.row 1 (OV.cells es)):=hnw.bE1 []
  have hesl:es.length=start.length:=by rw[←hes.length,sJ]
  rcases bZ k (sz-1)with hlt|hge
  ·have hki:(k:Int)<(sz:Int)-1:=by omega
   have hcut:=bM7 (aAY V start sz k 0) (sz:=sz) (k:=k+1) (a1I V ns aA (.inl rfl)).2 aA aA (by rw[sJ];omega)
   rw[a1J V ns]at hcut
   have bH2:=h3 k aA
   rw[h3' k aA,show aKE (.ok (V (k+1) (eS V start k),u))=(V (k+1) (eS V start k),(u:Int),0)from rfl]at bH2
   have hVs:=hV.ser (k+1) _ aA (gE V ns k)
   have ek1:IntKind.i64.wrap ((k:Int)+1)=((k+1:Nat):Int):=IntWalk.i64_in _ aA
   simp -dsimp -implicitDefEqProofs only[go_sem,↓reduceIte,Tryz.f37,hki,ek1]
   refine aJ.bU5 hcut (sD.cons (bCB hes hnw (sJ _ _ _ _ _).symm) (sD.cons (View.same _ _) sD.nil)) ?_
   simp -dsimp -implicitDefEqProofs only[go_sem,↓reduceIte,Tryz.f37,ek1]
   first|refine aJ.mk (bH2) ?_|refine aF.mk (bH2) ?_|refine aJ.bA (bH2) ?_|refine aF.mk (aX.cU (bH2)) ?_
   simp -dsimp -implicitDefEqProofs only[go_sem,↓reduceIte,Tryz.f37]
   refine cZ aRP bHZ bH0 (λx:Nat×List (List OV)×aE=>[(0,.ip 1 [[fN 3 aU.c p.aD]] 0 0),(1,I f),(2,ints start),(3,I ((sz:Int)-1)),(13,.os b 1 0 start.length),(15,I k),(16,b6 (V (k+1) (eS V start k))),(18,I x.1)]) (λx=>x.2.2) (λx=>x.1<=start.length/\OR (oL I) (aAY V start sz k x.1) x.2.1/\gB h (OV.cJ [OV.sl b 1 x.2.1]) x.2.2) (λx=>start.length-x.1) (0,es,g) ⟨by simp[c4,b7],aE.le_refl _,fE _,hes,hnw⟩ ?_
   rintro⟨i,es,g⟩ ⟨hi,hes,hnw⟩
   simp only at hi hes hnw ⊢
   have hgb:g b=some (.row 1 (OV.cells es)):=hnw.bE1 []
   have hesl:es.length=start.length:=by rw[←hes.length,sJ]
   rcases bZ i start.length with mA|aQI
   ·obtain⟨m,q1,q2,q3,q4⟩:=bHM hes hnw (a1I V ns aA (.inr aA)) c6.1 mA
    rw[bHV V start sz k i mA,if_neg (bX i)]at q1 q3
    have hv:=hVs.get mA
    have evk:=cI (l:=(V (k+1) (eS V start k)).getD i []) (i:=k) (by rw[hv.2.1];omega)
    have evl:=hv.2.1
    have hn:=hv.2.2.get k
    have hset:=bHU V ns (sz:=sz) (q:=k) aA mA
    have hpl:=aKT V ns (sz:=sz) (q:=k) aA mA
    have epk:=cI (l:=aFI V start sz k i) (i:=k+1) (by rw[hpl];omega)
    obtain⟨rT,fJ,fI,sG⟩:=bB (show ¬m=b from q4)
    simp -dsimp -implicitDefEqProofs only[go_sem,↓reduceIte,Tryz.f37,mA,hgb,cW,hesl,q2,q3,hv.1,evk,evl,hVs.1,ek1]
    refine λ_=>⟨by omega,?_⟩
    first|refine aJ.mk (aE4 ((k+1:Nat):Int)) ?_|refine aF.mk (aE4 ((k+1:Nat):Int)) ?_|refine aJ.bA (aE4 ((k+1:Nat):Int)) ?_|refine aF.mk (aX.cU (aE4 ((k+1:Nat):Int))) ?_
    simp -dsimp -implicitDefEqProofs only[go_sem,↓reduceIte,Tryz.f37]
    first|refine aJ.mk (cG (((V (k+1) (eS V start k)).getD i []).getD k 0) (nV ((k+1:Nat):Int)) hn (num_inv _)) ?_|refine aF.mk (cG (((V (k+1) (eS V start k)).getD i []).getD k 0) (nV ((k+1:Nat):Int)) hn (num_inv _)) ?_|refine aJ.bA (cG (((V (k+1) (eS V start k)).getD i []).getD k 0) (nV ((k+1:Nat):Int)) hn (num_inv _)) ?_|refine aF.mk (aX.cU (cG (((V (k+1) (eS V start k)).getD i []).getD k 0) (nV ((k+1:Nat):Int)) hn (num_inv _))) ?_
    simp -dsimp -implicitDefEqProofs only[go_sem,↓reduceIte,Tryz.f37,hgb,q2,q3,hpl,cW,hesl,mA,lI,epk]
    rw[yK I,show((k+1:Nat):Int)=(k:Int)+1 from rfl,hset]
    refine⟨by omega,?_⟩
    have hpe:=hnw.b2R (aFI V start sz (k+1) i) q1 (by rw[hpl,aKT V ns aA mA])
    exact⟨(i+1,es.set i (oI m (aFI V start sz (k+1) i)),aR g m (lI (aFI V start sz (k+1) i))),IntWalk.i64_in _ aA,aE.le_refl _,⟨mA,by simp only;rw[bHX V mA];exact hes.set i _ _ (b2I m _),hpe.1⟩,by simp only;omega⟩
   ·obtain rfl:i=start.length:=by omega
    simp -dsimp -implicitDefEqProofs only[go_sem,↓reduceIte,Tryz.f37,bX,dB]
    exact λ_=>⟨(k+1,es,g),IntWalk.i64_in _ aA,aE.le_refl _,⟨by omega,by simp only;rw[←bCA];exact hes,hnw⟩,by simp only;omega⟩
  ·have hk':k=sz-1:=by omega
   subst hk'
   simp -dsimp -implicitDefEqProofs only[go_sem,↓reduceIte,Tryz.f37,show ¬(((sz-1:Nat):Int)<(sz:Int)-1)by omega]
   obtain⟨o,rfl⟩:∃ o,sz=o+1:=⟨sz-1,by omega⟩
   rw[Nat.add_sub_cancel,bHW V ns]at hes
   rw[OV.fC,OV.gZ,dT]at hnw
   exact⟨_,g,_,bQ _ _,⟨OV.sl b 1 es,OS.mk hes,by rw[OV.aCK,hesl],rfl⟩,hnw⟩
theorem bH3 {p:aC} (hp:p.ok) (f:Int) (hf:0<=f/\f<p.aD.length) {start:List Int} (ns:dW start) (hs:1<=start.length/\start.length<=12) (hl:∀ F,p.aD[f.toNat]?=some F->(start.length:Int)=F.aT) {c:Int} (h1:evF p 1 f (start.map λn=>[n])=.error c) (order:Int) :
  fM Tryz.prog 37 [.ip 1 [p.c] 0 0,I f,ints start,I order] (.jO [b6 [],I c]):=by
 have h2:=a8Q hp f hf start ns hs.2 hl
 have hc:=aF0 p 1 f _ c h1
 rw[h1,show aE8 (.error c)=([],0,c)from rfl]at h2
 simp only[aC.aS]at h2 ⊢
 refine iN 90 aRP bHZ bH0 Tryz.func37 λh=>?_
 simp -dsimp -implicitDefEqProofs only[go_sem,↓reduceIte,Tryz.f37]
 first|refine aJ.mk (h2) ?_|refine aF.mk (h2) ?_|refine aJ.bA (h2) ?_|refine aF.mk (aX.cU (h2)) ?_
 simp -dsimp -implicitDefEqProofs only[go_sem,↓reduceIte,Tryz.f37]
 exact⟨λ_=>⟨bN,Shift.of (Sub.jO (.cons (Sub.loose _ _ _) (.cons (.refl _) .nil))) (aE.le_refl _)⟩,λq=>absurd q aA⟩
def bH4 {α:Type} (c:α->aH) (s:List α):bE:=.row 1 ((s.map λx=>[c x]).map (List.map .v))
def rwF {α:Type} (w:Nat) (a:Nat->α):List α:=(List.range w).map a
def b2S (w:Nat) (N:List Nat):List (List Cell):=(N.map λn=>[aH.os n 1 0 w]).map (List.map .v)
theorem aUP {α:Type} {w:Nat} {a b:Nat->α} (h:∀ k,k<w->a k=b k):rwF w a=rwF w b:=aG7 λk hk=>h k (aLK.1 hk)
theorem bM8 {α:Type} {w:Nat} (a:Nat->α) (k:Nat) (v:α):(rwF w a).set k v=rwF w λq=>if q=k then v else a q:=by
 apply vT
 ·simp[rwF]
 ·intro i h1 h2
  rw[List.getElem_set]
  simp only[rwF,r8,aYX]
  by_cases e:k=i
  ·rw[if_pos e,if_pos e.symm]
  ·rw[if_neg e,if_neg (l5 e)]
structure OM {α:Type} (c:α->aH) (h:aE) (b w:Nat) (N:List Nat) (A:Nat->Nat->α) (g:aE):Prop where
 nodup:N.Nodup
 out:∀ n∈N,¬n=b/\h n=none
 get:∀ k n,N[k]?=some n->g n=some (bH4 c (rwF w (A k)))
 bk:g b=some (.row 1 (b2S w N))
 keep:∀ q o,h q=some o->g q=some o
 bn:h b=none
theorem OM.set {α:Type} {c:α->aH} {h g:aE} {b w:Nat} {N:List Nat} {A B:Nat->Nat->α} (H:OM c h b w N A g) {r n:Nat} (hr:N[r]?=some n) (hB:∀ i,¬i=r->∀ k,k<w->B i k=A i k):OM c h b w N B (aR g n (bH4 c (rwF w (B r)))):=by
 have ho:=H.out n (nO hr)
 refine⟨H.nodup,H.out,λk m hk=>?_,?_,λq o hq=>?_,H.bn⟩
 ·by_cases e:k=r
  ·subst e
   rw[hr]at hk
   cases hk
   rw[aM]
  ·have hne:¬m=n:=λq=>by
    subst q
    have hkl:k<N.length:=(mS.1 hk).1
    exact e ((List.getElem?_inj hkl H.nodup).1 (hk.trans hr.symm))
   rw[aI _ _ _ _ hne,H.get k m hk,aUP (hB k e)]
 ·rw[aI _ _ _ _ (l5 ho.1)];exact H.bk
 ·rw[aI _ _ _ _ (λe=>by rw[e,ho.2]at hq;cases hq)];exact H.keep q o hq
theorem OM.one {α:Type} {c:α->aH} {h F:aE} {b w n:Nat} {A:Nat->Nat->α} (hn:h n=none) (hb:h b=none) (hnb:¬n=b) (h1:F n=some (bH4 c (rwF w (A 0)))) (h2:F b=some (.row 1 (b2S w [n]))) (h3:∀ q o,h q=some o->F q=some o):OM c h b w [n] A F :=
 ⟨by simp,λm hm=>(by rw[jF.1 hm];exact⟨hnb,hn⟩),λk m hk=>(by
  cases k with
  |zero=>cases hk;exact h1
  |succ k=>cases hk),h2,h3,hb⟩
structure OMW {α:Type} (c:α->aH) (h:aE) (b n:Nat) (P:Nat->Nat) (R:Nat->List α) (g:aE):Prop where
 inj:∀ i j,i<n->j<n->P i=P j->i=j
 out:∀ i,i<n->¬P i=b/\h (P i)=none
 get:∀ i,i<n->g (P i)=some (bH4 c (R i))
 bk:g b=some (.row 1 (rwF n λi=>[Cell.v (.os (P i) 1 0 (R i).length)]))
 keep:∀ q o,h q=some o->g q=some o
 bn:h b=none
theorem OMW.put {α:Type} {c:α->aH} {h g F:aE} {b n i m:Nat} {P:Nat->Nat} {R:Nat->List α} (H:OMW c h b n P R g) (hi:i<n) (hm:g m=none) (l:List α) (h1:F m=some (bH4 c l)) (h2:F b=some (.row 1 ((rwF n λi=>[Cell.v (.os (P i) 1 0 (R i).length)]).set i [Cell.v (.os m 1 0 l.length)]))) (h3:∀ q,¬q=m->¬q=b->¬q=P i->∀ o,g q=some o->F q=some o):OMW c h b n (λk=>if k=i then m else P k) (λk=>if k=i then l else R k) F:=by
 have hmP:∀ k,k<n->¬P k=m:=λk hk e=>by have:=H.get k hk;rw[e,hm]at this;cases this
 have hmb:¬m=b:=λe=>by rw[e,H.bk]at hm;cases hm
 have hmh:h m=none:=by
  cases hq:h m with
  |none=>rfl
  |some o=>rw[H.keep m o hq]at hm;cases hm
 refine⟨λj k hj hk e=>?_,λk hk=>?_,λk hk=>?_,?_,λq o hq=>?_,H.bn⟩
 ·by_cases e1:j=i
  ·by_cases e2:k=i
   ·rw[e1,e2]
   ·simp only[if_pos e1,if_neg e2]at e
    exact absurd e.symm (hmP k hk)
  ·by_cases e2:k=i
   ·simp only[if_neg e1,if_pos e2]at e
    exact absurd e (hmP j hj)
   ·simp only[if_neg e1,if_neg e2]at e
    exact H.inj j k hj hk e
 ·by_cases e:k=i
  ·simp only[if_pos e];exact⟨hmb,hmh⟩
  ·simp only[if_neg e];exact H.out k hk
 ·by_cases e:k=i
  ·simp only[if_pos e];exact h1
  ·simp only[if_neg e]
   exact h3 _ (hmP k hk) (H.out k hk).1 (λq=>e (H.inj k i hk hi q)) _ (H.get k hk)
 ·rw[h2,bM8]
  congr 2
  refine aUP λk _=>?_
  by_cases e:k=i
  ·rw[if_pos e,if_pos e,if_pos e]
  ·rw[if_neg e,if_neg e,if_neg e]
 ·exact h3 q (λe=>by rw[e,hmh]at hq;cases hq) (λe=>by rw[e,H.bn]at hq;cases hq) (λe=>by rw[e,(H.out i hi).2]at hq;cases hq) o (H.keep q o hq)
theorem aUQ (p:aC) (f:Int) (start dir:List Int) (order:Int):fW p f [start,dir] order=if fW p f [start] order=0 then(if (dir.length:Int)=p.par f/\dW dir then 0 else 2)else fW p f [start] order:=by
 by_cases h0:j9 p f p8=0
 ·rw[fW,if_pos h0,fW,if_pos h0]
  by_cases h1:(∀ l∈[start],(l.length:Int)=p.par f/\dW l)/\0<=order/\order<=12
  ·rw[if_pos h1,if_pos rfl]
   by_cases h2:(dir.length:Int)=p.par f/\dW dir
   ·rw[if_pos h2,if_pos ⟨λl hl=>(pY.1 hl).elim (λe=>e▸h1.1 _ x6) λhl=>jF.1 hl▸h2,h1.2⟩]
   ·rw[if_neg h2,if_neg λz=>h2 (z.1 dir (w6 _ x6))]
  ·rw[if_neg h1,if_neg λz=>h1 ⟨λl hl=>z.1 l (by rw[jF.1 hl];exact x6),z.2⟩];rfl
 ·rw[fW,if_neg h0,fW,if_neg h0,if_neg h0]
def aIK (e:aB) (env:List (List Int)) (e':aB) (env':List (List Int)):Prop:=(e'=e/\env'=env)∨∃ (v:List Int) (c:Int),e'=qI e v c/\v.length=env.length/\(env'.length:Int)=c/\∀ i,i<env.length->(0<=v.getD i 0/\v.getD i 0<c)/\env'.getD (v.getD i 0).toNat []=env.getD i []
theorem aIK.raw (e:aB) (env:List (List Int)):aIK e env e env:=.inl ⟨rfl,rfl⟩
theorem aIK.var {e e':aB} {env env':List (List Int)} (h:aIK e env e' env') (hk:e.aP=2) (hn:0<=e.aW/\e.aW<=(env.length:Int)-1):e'.aP=2/\env'.getD e'.aW.toNat []=env.getD e.aW.toNat []:=by
 rcases h with⟨rfl,rfl⟩|⟨v,c,rfl,hv,hc,hi⟩
 ·exact⟨hk,rfl⟩
 ·obtain⟨k,n,pi,co,kids⟩:=e
  simp only[aB.aP]at hk
  subst hk
  simp only[aB.aW]at hn ⊢
  rw[qI,if_pos rfl]
  exact⟨rfl,(hi n.toNat aA).2⟩
theorem aIK.node {e e':aB} {env env':List (List Int)} (h:aIK e env e' env') (hk:¬e.aP=2):e'.aP=e.aP/\e'.aW=e.aW/\e'.bR=e.bR/\e'.bI=e.bI:=by
 rcases h with⟨rfl,rfl⟩|⟨v,c,rfl,hv,hc,hi⟩
 ·exact⟨rfl,rfl,rfl,rfl⟩
 ·obtain⟨k,n,pi,co,kids⟩:=e
  simp only[aB.aP]at hk
  rw[qI,if_neg hk]
  exact⟨rfl,rfl,rfl,rfl⟩
theorem aIK.kids {e e':aB} {env env':List (List Int)} (h:aIK e env e' env') (hk:¬e.aP=2) (h9:¬e.aP=9):∃ φ:aB->aB,e'.aL=e.aL.map φ/\∀ x∈e.aL,aIK x env (φ x) env':=by
 rcases h with⟨rfl,rfl⟩|⟨v,c,rfl,hv,hc,hi⟩
 ·exact⟨id,(List.map_id _).symm,λx _=>.raw x _⟩
 ·obtain⟨k,n,pi,co,kids⟩:=e
  simp only[aB.aP]at hk h9
  rw[qI,if_neg hk,if_neg h9,aKJ]
  exact⟨_,rfl,λx _=>.inr ⟨v,c,rfl,hv,hc,hi⟩⟩
theorem bM9 {e e':aB} {φ:aB->aB} (h:e'.aL=e.aL.map φ) {i:Nat} (hi:i<e.aL.length):e'.fZ i=φ (e.fZ i):=by
 rw[aB.fZ,h,dI,nE,aB.fV hi];rfl
theorem a1K {e:aB} {i:Nat} (hi:i<e.aL.length):e.fZ i∈e.aL:=by rw[aB.jN hi];exact eI _
theorem aIK.b9V {e e':aB} {env env':List (List Int)} (h:aIK e env e' env') (h9:e.aP=9) (hl:e.aL.length=2):aIK (e.fZ 0) env (e'.fZ 0) env'/\∀ x,aIK (e.fZ 1) (env++[x]) (e'.fZ 1) (env'++[x]):=by
 rcases h with⟨rfl,rfl⟩|⟨v,c,rfl,hv,hc,hi⟩
 ·exact⟨.raw _ _,λx=>.raw _ _⟩
 ·obtain⟨k,n,pi,co,kids⟩:=e
  simp only[aB.aP]at h9
  simp only[aB.aL]at hl
  subst h9
  match kids,hl with
  | [a,b],_ =>
   have e0:(qI (.mk 9 n pi co [a,b]) v c)=.mk 9 n pi co [qI a v c,qI b (v++[c]) (c+1)]:=by
    rw[qI,if_neg cE,if_pos rfl,plT,plL,plL]
   rw[e0]
   refine⟨.inr ⟨v,c,rfl,hv,hc,hi⟩,λx=>.inr ⟨v++[c],c+1,rfl,by rw[mV,mV,hv];rfl,by rw[mV];simp;omega,λi h=>?_⟩⟩
   rw[mV]at h
   simp only[u4]at h
   by_cases hlt:i<env.length
   ·obtain⟨q1,q2⟩:=hi i hlt
    have ev:(v++[c]).getD i 0=v.getD i 0:=by rw[dI,uU aA,←dI]
    rw[ev]
    refine⟨by omega,?_⟩
    rw[dI,uU aA,←dI,q2,dI,dI,uU hlt]
   ·obtain rfl:i=env.length:=by omega
    have ev:(v++[c]).getD env.length 0=c:=by rw[←hv,dI,wZ (iH _),wI];rfl
    rw[ev]
    refine⟨by omega,?_⟩
    rw[show c.toNat=env'.length by omega,dI,wZ (iH _),wI,dI,wZ (iH _),wI]
def aBY {α:Type} (X Y:Out α):Prop:=∀ w u w' u',X=.ok (w,u)->Y=.ok (w',u')->w'=w
theorem aBY.bind {α β γ:Type} {X:Out α} {Y:Out γ} {F:α->Nat->Out β} {G:γ->Nat->Out β} (hX:∀ w u w' u',X=.ok (w,u)->Y=.ok (w',u')->aBY (F w u) (G w' u')):aBY (X.andThen F) (Y.andThen G):=λw u w' u' h1 h2=>by
 obtain⟨a,t,e1,h1⟩:=then_ok h1
 obtain⟨b,t',e2,h2⟩:=then_ok h2
 exact hX _ _ _ _ e1 e2 _ _ _ _ h1 h2
theorem aKU {ev ev':Nat->aB->Out (List Int)} {φ:aB->aB}:∀ (l:List aB) (t t':Nat),(∀ x∈l,∀ t t',aBY (ev t x) (ev' t' (φ x)))->aBY (jY ev l t) (jY ev' (l.map φ) t')
 | [],t,t',_=>λw u w' u' h1 h2=>by cases h1;cases h2;rfl
 |x::l,t,t',h=>by
  rw[nZ,jY,jY]
  refine aBY.bind λa u b u' e1 e2=>aBY.bind λc1 t1 c2 t2 e3 e4=>λw u w' u' h1 h2=>?_
  cases h1;cases h2
  rw[h x (.head _) _ _ _ _ _ _ e1 e2,aKU l _ _ (λy hy=>h y (.tail _ hy)) _ _ _ _ e3 e4]
theorem aKV {ev:Nat->aB->Out (List Int)}:∀ (l:List aB) (t:Nat) (vs:List (List Int)) (u:Nat),jY ev l t=.ok (vs,u)->vs.length=l.length
 | [],t,vs,u,h=>by cases h;rfl
 |x::l,t,vs,u,h=>by
  rw[jY]at h
  obtain⟨a,t1,e1,h⟩:=then_ok h
  obtain⟨b,t2,e2,h⟩:=then_ok h
  cases h
  rw[al2,al2,aKV l _ _ _ e2]
theorem a1L {f g:List (List Int)->Nat->Out (List (List Int))} {m:Nat} (h:∀ vs t t',vs.length=m->aBY (f vs t) (g vs t')) (hl:∀ vs t w u,f vs t=.ok (w,u)->w.length=m):∀ (n:Nat) (vs:List (List Int)) (t t':Nat),vs.length=m->aBY (pN f n vs t) (pN g n vs t')
 |0,vs,t,t',_=>λw u w' u' h1 h2=>by cases h1;cases h2;rfl
 |n+1,vs,t,t',hv=>by
  rw[pN,pN]
  refine aBY.bind λa u b u' e1 e2=>?_
  rw[h vs t t' hv _ _ _ _ e1 e2]
  exact a1L h hl n a u u' (hl _ _ _ _ e1)
theorem bVI (k:Int) (vs:List (List Int)) (t t':Nat):aBY (opE k vs t) (opE k vs t'):=λw u w' u' h1 h2=>by
 unfold opE at h1 h2
 by_cases h3:k=3
 ·rw[if_pos h3]at h1 h2;cases h1;cases h2;rfl
 rw[if_neg h3]at h1 h2
 by_cases h4:k=4
 ·rw[if_pos h4]at h1 h2;cases h1;cases h2;rfl
 rw[if_neg h4]at h1 h2
 by_cases h5:k=5
 ·rw[if_pos h5]at h1 h2;cases h1;cases h2;rfl
 rw[if_neg h5]at h1 h2
 by_cases h7:k=7
 ·rw[if_pos h7]at h1 h2;cases h1;cases h2;rfl
 rw[if_neg h7]at h1 h2
 by_cases h0:(vs.getD 1 []).getD 0 0=0
 ·rw[if_pos h0]at h1;cases h1
 ·rw[if_neg h0]at h1 h2;cases h1;cases h2;rfl
theorem bH6 {p d:aC} (hp:p.ok) (hd:∀ j,j<p.aD.length->d.aD[j]?=p.aD[j]?) {sz:Nat}:∀ (n m t t':Nat) (e e':aB) (env env':List (List Int)) (funcs:Int),e.ok p funcs env.length->funcs<=p.aD.length->aIK e env e' env'->aBY (iM p sz n t e env) (iM d sz m t' e' env')
 |0,m,t,t',e,e',env,env',funcs,_,_,_=>λw u w' u' h1 _=>by rw[iM]at h1;cases h1
 |n+1,0,t,t',e,e',env,env',funcs,_,_,_=>λw u w' u' _ h1=>by rw[iM]at h1;cases h1
 |n+1,m+1,t,t',e,e',env,env',funcs,hok,hf,hR=>by
  have ih:=bH6 hp hd (sz:=sz) n m
  have hnode:=((aB.cN _ _ _ _).1 hok).1
  by_cases h3:t=3000
  ·exact λw u w' u' h1 _=>by rw[iM,if_pos h3]at h1;cases h1
  by_cases h3':t'=3000
  ·exact λw u w' u' _ h1=>by rw[iM,if_pos h3']at h1;cases h1
  have hraw:∀ (F:aU) (vs:List (List Int)) (g:Int),g<=p.aD.length->(∀ x∈F.aN,x.ok p g vs.length)->∀ x∈F.aN,∀ t t',aBY (iM p sz n t x vs) (iM d sz m t' x vs):=λF vs g hg ho x hx t t'=>ih t t' x x vs vs g (ho x hx) hg (.raw _ _)
  rcases rE hnode with hk|hk|hk|hk|hk|hk|hk|hk|hk|hk|hk
  ·obtain⟨a1,a2,a3,a4⟩:=hR.node aA
   rw[aQV h3 hk,aQV h3' aA,a2]
   exact λw u w' u' h1 h2=>by cases h1;cases h2;rfl
  ·have hn:=((dA aA).1 hnode).2.2.2.2.1 hk
   obtain⟨a1,a2⟩:=hR.var hk hn
   rw[aQW h3 hk,aQW h3' a1,a2]
   exact λw u w' u' h1 h2=>by cases h1;cases h2;rfl
  iterate 5
   ·obtain⟨a1,a2,a3,a4⟩:=hR.node aA
    obtain⟨φ,b1,b2⟩:=hR.kids aA aA
    rw[pD h3 aA,pD h3' aA,b1,a1]
    refine aBY.bind λa u b u' e1 e2=>?_
    rw[aKU _ _ _ (λx hx t t'=>ih t t' x (φ x) env env' funcs (cO hok aA x hx) hf (b2 x hx)) _ _ _ _ e1 e2]
    exact bVI _ _ _ _
  ·obtain⟨a1,a2,a3,a4⟩:=hR.node aA
   obtain⟨φ,b1,b2⟩:=hR.kids aA aA
   have hlen:=cQ hok aA
   rw[hk,show dD 8=3 from rfl]at hlen
   have hi:∀ i,i<3->∀ t t',aBY (iM p sz n t (e.fZ i) env) (iM d sz m t' (e'.fZ i) env'):=λi hi t t'=>by
    rw[bM9 b1 aA]
    exact ih t t' _ _ env env' funcs (cO hok aA _ (a1K aA)) hf (b2 _ (a1K aA))
   rw[aJ6 h3 hk,aJ6 h3' aA]
   refine aBY.bind λa u b u' e1 e2=>?_
   rw[hi 0 aA _ _ _ _ _ _ e1 e2]
   by_cases h0:a.getD 0 0=0
   ·rw[if_pos h0,if_pos h0];exact hi 1 aA _ _
   ·rw[if_neg h0,if_neg h0];exact hi 2 aA _ _
  ·obtain⟨a1,a2,a3,a4⟩:=hR.node aA
   have hlen:=cQ hok aA
   rw[hk,show dD 9=2 from rfl]at hlen
   obtain⟨r0,r1⟩:=hR.b9V hk aA
   have o0:=aB.dX hok (i:=0) aA
   have o1:=aB.dX hok (i:=1) aA
   rw[gQ aA]at o0
   rw[jV,if_pos ⟨hk,rfl⟩]at o1
   rw[aQX h3 hk,aQX h3' aA]
   refine aBY.bind λa u b u' e1 e2=>?_
   rw[ih _ _ _ _ _ _ funcs o0 hf r0 _ _ _ _ e1 e2]
   exact ih _ _ _ _ _ _ funcs aDS hf (r1 a)
  ·obtain⟨a1,a2,a3,a4⟩:=hR.node aA
   obtain⟨φ,b1,b2⟩:=hR.kids aA aA
   obtain⟨F,Fc⟩:=nD hp hok hf (.inl hk)
   have ho:d.out e.aW e.bR=p.out e.aW e.bR:=by rw[aC.out,aC.out,aC.outs,aC.outs,hd _ (by have:=Fc.hi;have:=Fc.lo;omega)]
   rw[aE2 h3 hk,aE2 h3' aA,b1,a2,a3,ho]
   refine aBY.bind λa u b u' e1 e2=>?_
   rw[aKU _ _ _ (λx hx t t'=>ih t t' x (φ x) env env' funcs (cO hok aA x hx) hf (b2 x hx)) _ _ _ _ e1 e2]
   have hl:=aKV _ _ _ _ e1
   exact ih _ _ _ _ a a e.aW (by rw[hl,Fc.kids];exact Fc.oks _ (nO Fc.out)) (by have:=Fc.hi;omega) (.raw _ _)
  ·obtain⟨a1,a2,a3,a4⟩:=hR.node aA
   obtain⟨φ,b1,b2⟩:=hR.kids aA aA
   obtain⟨F,Fc⟩:=nD hp hok hf (.inr hk)
   have ho:d.outs e.aW=p.outs e.aW:=by rw[aC.outs,aC.outs,hd _ (by have:=Fc.hi;have:=Fc.lo;omega)]
   rw[aE3 h3 hk,aE3 h3' aA,b1,a2,a3,a4,ho]
   refine aBY.bind λa u b u' e1 e2=>?_
   rw[aKU _ _ _ (λx hx t t'=>ih t t' x (φ x) env env' funcs (cO hok aA x hx) hf (b2 x hx)) _ _ _ _ e1 e2]
   have hl:=aKV _ _ _ _ e1
   have hlp:=Fc.loop hk
   refine aBY.bind λa2 u2 b2 u2' e3 e4=>?_
   rw[a1L (m:=F.aN.length) (λvs t t' hv=>by
    have:=aKU (φ:=id) (ev:=λt x=>iM p sz n t x vs) (ev':=λt x=>iM d sz m t x vs) (p.outs e.aW) t t' λx hx t t'=>ih t t' x x vs vs e.aW (by rw[hv,hlp.2.2];exact Fc.oks x (by rw[←Fc.eq];exact hx)) (by have:=Fc.hi;omega) (.raw _ _)
    rwa [List.map_id]at this) (λvs t w u h=>by rw[aKV _ _ _ _ h,Fc.eq]) e.bI.toNat a u u' (by rw[hl];have:=Fc.kids;omega) _ _ _ _ e3 e4]
   exact λw u w' u' h1 h2=>by cases h1;cases h2;rfl
structure SlC (p d:aC) (sz:Nat) (X D:List (List Int)) (inp:Int) (F:dS) (N:Nat->Prop):Prop where
 hp:p.ok
 hd:∀ j,j<p.aD.length->d.aD[j]?=p.aD[j]?
 dv:∀ (g:Nat) (G:aU),p.aD[g]?=some G->d.outs (p.aD.length+g)=(G.aN.map λx=>qI x (vR G.aT.toNat) (2*G.aT))++G.aN.map λx=>rU (oN p) p.aD.length x (vR G.aT.toNat) (sR G.aT.toNat) (2*G.aT)
 C:bBW inp F N
 c6:1<=sz
 ha:∀ s∈X,bV sz s
 hl:(X.length:Int)=inp
abbrev rgX (sz:Nat) (X:List (List Int)) (F:dS) (r:Int):List Int:=pW sz X F.code r.toNat
abbrev dgX (sz:Nat) (X D:List (List Int)) (F:dS) (r:Int):List Int:=dgS sz D (pW sz X F.code) F.code r.toNat
def ScE (rg dg:Int->List Int) (env v s:List Int) (c:Int) (envd:List (List Int)):Prop:=v.length=env.length/\s.length=env.length/\(envd.length:Int)=c/\∀ i,i<env.length->((0<=v.getD i 0/\v.getD i 0<c)/\envd.getD (v.getD i 0).toNat []=rg (env.getD i 0))/\(0<=s.getD i 0/\s.getD i 0<c)/\envd.getD (s.getD i 0).toNat []=dg (env.getD i 0)
def rV (d:aC) (sz:Nat) (e:aB) (env:List (List Int)) (x:List Int):Prop:=∀ (m t:Nat) (w:List Int) (u:Nat),iM d sz m t e env=.ok (w,u)->w=x
theorem mU {α:Type} {l l':List α} {i:Nat} {z:α} (h:i<l.length):(l++l').getD i z=l.getD i z:=by rw[dI,uU h,←dI]
theorem aBZ {α:Type} {l:List α} {x z:α}:(l++[x]).getD l.length z=x:=by rw[dI,wZ (iH _),wI];rfl
theorem xZ {α:Type} {l l':List α} {i n:Nat} {z:α} (h:n=l.length):(l++l').getD (n+i) z=l'.getD i z:=by rw[dI,wZ aA,←dI];congr 1;omega
theorem ScE.wide {rg dg:Int->List Int} {env v s:List Int} {c:Int} {envd:List (List Int)} (h:ScE rg dg env v s c envd) (x:List Int):ScE rg dg env v s (c+1) (envd++[x]):=by
 obtain⟨h1,h2,h3,h4⟩:=h
 refine⟨h1,h2,by rw[mV];simp;omega,λi hi=>?_⟩
 obtain⟨⟨a,b⟩,a',b'⟩:=h4 i hi
 exact⟨⟨by omega,by rw[mU (l:=envd) aA];exact b⟩,by omega,by rw[mU (l:=envd) aA];exact b'⟩
theorem ScE.snoc {rg dg:Int->List Int} {env v s:List Int} {c:Int} {envd:List (List Int)} (h:ScE rg dg env v s c envd) (r:Int):ScE rg dg (env++[r]) (v++[c]) (s++[c+1]) (c+2) (envd++[rg r]++[dg r]):=by
 obtain⟨h1,h2,h3,h4⟩:=h
 refine⟨by simp[h1],by simp[h2],by simp;omega,λi hi=>?_⟩
 rw[mV,u4]at hi
 by_cases hlt:i<env.length
 ·obtain⟨⟨a,b⟩,a',b'⟩:=h4 i hlt
  rw[mU (l:=v) aA,mU (l:=s) aA,mU (l:=env) hlt,aD6]
  exact⟨⟨by omega,by rw[mU (l:=envd) aA];exact b⟩,by omega,by rw[mU (l:=envd) aA];exact b'⟩
 ·obtain rfl:i=env.length:=by omega
  have e1:(v++[c]).getD env.length 0=c:=by rw[←h1,aBZ]
  have e2:(s++[c+1]).getD env.length 0=c+1:=by rw[←h2,aBZ]
  rw[e1,e2,aBZ]
  refine⟨⟨by omega,?_⟩,by omega,?_⟩
  ·rw[show c.toNat=envd.length by omega,mU aY3,aBZ]
  ·rw[show(c+1).toNat=(envd++[rg r]).length by rw[mV,u4];omega,aBZ]
theorem ScE.rel {rg dg:Int->List Int} {env v s:List Int} {c:Int} {envd:List (List Int)} (h:ScE rg dg env v s c envd) (e:aB):aIK e (env.map rg) (qI e v c) envd:=by
 obtain⟨h1,h2,h3,h4⟩:=h
 refine .inr ⟨v,c,rfl,by rw[nG];exact h1,h3,λi hi=>?_⟩
 rw[nG]at hi
 obtain⟨⟨a,b⟩,-⟩:=h4 i hi
 refine⟨a,b.trans ?_⟩
 rw[dI,dI,nE,cM hi];rfl
theorem wE {d:aC} {sz:Nat} {env:List (List Int)} {k:Int} (hk:k=3∨k=4∨k=5∨k=6) {a b:aB} {x y:List Int} (ha:rV d sz a env x) (hb:rV d sz b env y):rV d sz (nJ k [a,b]) env (opW k x y):=λm t w u h=>by
 cases m with
 |zero=>rw[iM]at h;cases h
 |succ m =>
  by_cases h3:t=3000
  ·rw[iM,if_pos h3]at h;cases h
  rw[pD h3 (by simp only[nJ,aB.aP];omega)]at h
  obtain⟨vs,t1,e1,h⟩:=then_ok h
  change jY _ [a,b] _=_ at e1
  rw[jY]at e1
  obtain⟨va,t2,e2,e1⟩:=then_ok e1
  rw[jY]at e1
  obtain⟨vl,t3,e3,e1⟩:=then_ok e1
  obtain⟨vb,t4,e4,e3⟩:=then_ok e3
  rw[jY]at e3
  cases e3;cases e1
  rw[←ha _ _ _ _ e2,←hb _ _ _ _ e4]
  simp only[nJ,aB.aP]at h
  unfold opE at h
  unfold opW
  rcases hk with rfl|rfl|rfl|rfl
  ·cases h;rfl
  ·cases h;rfl
  ·cases h;rfl
  ·rw[if_neg cE,if_neg cE,if_neg cE,if_neg cE]at h ⊢
   split at h
   ·cases h
   ·cases h;rfl
theorem bCC {d:aC} {sz:Nat} {env:List (List Int)} {a:aB} {x:List Int} (ha:rV d sz a env x):rV d sz (nJ 7 [a]) env (iE x 1000002):=λm t w u h=>by
 cases m with
 |zero=>rw[iM]at h;cases h
 |succ m =>
  by_cases h3:t=3000
  ·rw[iM,if_pos h3]at h;cases h
  rw[pD h3 (.inr (.inr (.inr (.inr rfl))))]at h
  obtain⟨vs,t1,e1,h⟩:=then_ok h
  change jY _ [a] _=_ at e1
  rw[jY]at e1
  obtain⟨va,t2,e2,e1⟩:=then_ok e1
  rw[jY]at e1
  cases e1
  rw[←ha _ _ _ _ e2]
  simp only[nJ,aB.aP]at h
  cases h;rfl
theorem a1M {d:aC} {sz:Nat} {env:List (List Int)} {q a b:aB} {z x:List Int} (hq:rV d sz q env z) (ha:z.getD 0 0=0->rV d sz a env x) (hb:¬z.getD 0 0=0->rV d sz b env x):rV d sz (nJ 8 [q,a,b]) env x:=λm t w u h=>by
 cases m with
 |zero=>rw[iM]at h;cases h
 |succ m =>
  by_cases h3:t=3000
  ·rw[iM,if_pos h3]at h;cases h
  rw[aJ6 h3 rfl]at h
  obtain⟨vs,t1,e1,h⟩:=then_ok h
  rw[hq _ _ _ _ e1]at h
  by_cases h0:z.getD 0 0=0
  ·rw[if_pos h0]at h;exact ha h0 _ _ _ _ h
  ·rw[if_neg h0]at h;exact hb h0 _ _ _ _ h
theorem aUR {d:aC} {sz:Nat} {env:List (List Int)} {a b:aB} {z x:List Int} (ha:rV d sz a env z) (hb:rV d sz b (env++[z]) x):rV d sz (nJ 9 [a,b]) env x:=λm t w u h=>by
 cases m with
 |zero=>rw[iM]at h;cases h
 |succ m =>
  by_cases h3:t=3000
  ·rw[iM,if_pos h3]at h;cases h
  rw[aQX h3 rfl]at h
  obtain⟨vs,t1,e1,h⟩:=then_ok h
  rw[ha _ _ _ _ e1]at h
  exact hb _ _ _ _ h
def aMF (Q:aB->Int->Prop):List aB->List Int->Prop
 | [],[]=>True
 |x::l,r::rs=>Q x r/\aMF Q l rs
 | _,_=>False
theorem aMF.len {Q:aB->Int->Prop}:∀ {l:List aB} {rs:List Int},aMF Q l rs->rs.length=l.length
 | [],[],_=>rfl
 |x::l,r::rs,h=>by rw[al2,al2,aMF.len h.2]
 | [],_::_,h=>h.elim
 | _::_,[],h=>h.elim
theorem aMF.get {Q:aB->Int->Prop}:∀ {l:List aB} {rs:List Int},aMF Q l rs->∀ i,i<l.length->Q (l.getD i dE) (rs.getD i 0)
 | [],[],_,i,hi=>absurd hi (aMP _)
 |x::l,r::rs,h,0,_=>h.1
 |x::l,r::rs,h,i+1,hi=>aMF.get h.2 i (by rw[al2]at hi;omega)
 | [],_::_,h,_,_=>h.elim
 | _::_,[],h,_,_=>h.elim
theorem aB0 {rg:Nat->List Int} {F:dS} {N:Nat->Prop} {ev:Nat->aB->dS->Out (Int×dS)} {inp:Int} {Q:aB->Int->Prop}:∀ (l:List aB) (t:Nat) (S:dS),Good inp S t->t<=3000->HD rg N S->(∀ e∈l,∀ u S',Good inp S' u->S.ext S'->pP S t S' u->wS (aH8 inp S' u) (ev u e S')/\(HD rg N S'->∀ r S2 u2,ev u e S'=.ok ((r,S2),u2)->S2.ext F->HD rg N S2/\Q e r))->∀ rs S' u,tA ev l t S=.ok ((rs,S'),u)->S'.ext F->HD rg N S'/\aMF Q l rs
 | [],t,S,hg,ht,hd,_=>λr S' u h _=>by
  cases h
  exact⟨hd,trivial⟩
 |e::l,t,S,hg,ht,hd,h=>λr S' u hx he=>by
  obtain⟨h1,h2⟩:=h e x6 t S hg S.uH (.refl ht)
  rw[tA]at hx
  obtain⟨⟨r1,S1⟩,t1,e1,hx⟩:=then_ok hx
  obtain⟨q1,q2,q3,q4⟩:=h1 _ _ e1
  simp only at hx q1 q2 q3 q4
  obtain⟨⟨rs,S2⟩,t2,e2,hx⟩:=then_ok hx
  cases hx
  have hl:=λx hx u' S' a b c=>h x (w6 _ hx) u' S' a (q2.trans b) (q4.trans c)
  have hk:=kR l t1 S1 q1 q4.2.2.2 (λx hx u' S' a b c=>(hl x hx u' S' a b c).1) _ _ e2
  obtain⟨a1,a2⟩:=h2 hd r1 S1 t1 e1 (hk.2.1.trans he)
  obtain⟨b1,b2⟩:=aB0 l t1 S1 q1 q4.2.2.2 a1 hl rs _ _ e2 he
  exact⟨b1,a2,b2⟩
theorem pF {d:aC} {sz m:Nat} {env:List (List Int)} {φ:aB->aB} {f:Int->List Int}:∀ {l:List aB} {rs:List Int},aMF (λx r=>rV d sz (φ x) env (f r)) l rs->∀ t vs u,jY (λt e=>iM d sz m t e env) (l.map φ) t=.ok (vs,u)->vs=rs.map f
 | [],[],_,t,vs,u,h=>by cases h;rfl
 |x::l,r::rs,hq,t,vs,u,h=>by
  rw[nZ,jY]at h
  obtain⟨a,t1,e1,h⟩:=then_ok h
  obtain⟨b,t2,e2,h⟩:=then_ok h
  cases h
  rw[hq.1 _ _ _ _ e1,pF hq.2 _ _ _ e2];rfl
 | [],_::_,h,_,_,_,_=>h.elim
 | _::_,[],h,_,_,_,_=>h.elim
theorem aMF.mono {Q R:aB->Int->Prop} (h:∀ x r,Q x r->R x r):∀ {l:List aB} {rs:List Int},aMF Q l rs->aMF R l rs
 | [],[],_=>trivial
 |x::l,r::rs,q=>⟨h _ _ q.1,aMF.mono h q.2⟩
 | [],_::_,h=>h.elim
 | _::_,[],h=>h.elim
theorem aFJ {ev:Nat->aB->Out (List Int)}:∀ (l l':List aB) (t:Nat) (vs:List (List Int)) (u:Nat),jY ev (l++l') t=.ok (vs,u)->∃ a b t',vs=a++b/\jY ev l t=.ok (a,t')/\jY ev l' t'=.ok (b,u)
 | [],l',t,vs,u,h=>⟨[],vs,t,rfl,rfl,h⟩
 |x::l,l',t,vs,u,h=>by
  rw[aU8,jY]at h
  obtain⟨a,t1,e1,h⟩:=then_ok h
  obtain⟨b,t2,e2,h⟩:=then_ok h
  cases h
  obtain⟨p,q,t',rfl,h1,h2⟩:=aFJ l l' _ _ _ e2
  refine⟨a::p,q,t',rfl,?_,h2⟩
  rw[jY,e1,Out.andThen_ok,h1];rfl
section
variable {p d:aC} {sz:Nat} {X D:List (List Int)} {inp:Int} {F:dS} {N:Nat->Prop} (K:SlC p d sz X D inp F N)
include K
theorem SlC.val {n t:Nat} {e:aB} {env:List Int} {S:dS} {funcs:Int} (hok:e.ok p funcs env.length) (hf:funcs<=p.aD.length) (hg:Good inp S t) (ht:t<=3000) (henv:∀ x∈env,rQ S x) (hd:HD (pW sz X F.code) N S) {v s:List Int} {c:Int} {envd:List (List Int)} (hS:ScE (rgX sz X F) (dgX sz X D F) env v s c envd) {r:Int} {S':dS} {u:Nat} (hx:fH p n t e env S=.ok ((r,S'),u)) (he:S'.ext F):HD (pW sz X F.code) N S'/\rV d sz (qI e v c) envd (rgX sz X F r):=by
 obtain⟨h1,h2⟩:=aRH K.hp K.c6 K.C K.ha K.hl n t e env S funcs hok hf hg ht henv hd r S' u hx he
 exact⟨h2,λm t' w u' h=>bH6 K.hp K.hd n m t t' e _ _ envd funcs (by rw[nG];exact hok) hf (hS.rel e) _ _ _ _ h1 h⟩
end
theorem b2T {n i:Nat} (h:i<n):(vR n).getD i 0=i:=by rw[vR,dI,nE,aIY h];rfl
theorem b2U {n i:Nat} (h:i<n):(sR n).getD i 0=(n+i:Nat):=by rw[sR,dI,nE,aIY h];rfl
theorem aXI {rs:List Int} {f:Int->List Int} {i:Nat} (h:i<rs.length):(rs.map f).getD i []=f (rs.getD i 0):=by
 rw[dI,nE,cM h,dI,cM h];rfl
theorem ScE.start {rg dg:Int->List Int} (rs:List Int) {c:Int} (hc:c=2*(rs.length:Nat)):ScE rg dg rs (vR rs.length) (sR rs.length) c (rs.map rg++rs.map dg):=by
 refine⟨aEC _,aWO _,by rw[mV,nG,nG];omega,λi hi=>?_⟩
 rw[b2T hi,b2U hi,nU,nU]
 exact⟨⟨by omega,by rw[mU (by rw[nG];exact hi),aXI hi]⟩,by omega,by rw[xZ aTF,aXI hi]⟩
theorem aUS {rg:Nat->List Int} {F:dS} {N:Nat->Prop} {f:List Int->Nat->dS->Out (List Int×dS)} {g:List (List Int)->Nat->Out (List (List Int))} {ψ:List Int->List (List Int)} {inp:Int} {m:Nat} (h:∀ vs t S,Good inp S t->(vs.length=m/\∀ x∈vs,rQ S x)->t<=3000->wS (aDX inp S t m) (f vs t S)/\(HD rg N S->∀ rs S2 u2,f vs t S=.ok ((rs,S2),u2)->S2.ext F->HD rg N S2/\∀ t' ws u',g (ψ vs) t'=.ok (ws,u')->ws=ψ rs)) :
  ∀ (n:Nat) (vs:List Int) (t:Nat) (S:dS),Good inp S t->(vs.length=m/\∀ x∈vs,rQ S x)->t<=3000->HD rg N S->∀ rs S' u,uZ f n vs t S=.ok ((rs,S'),u)->S'.ext F->HD rg N S'/\∀ t' ws u',pN g n (ψ vs) t'=.ok (ws,u')->ws=ψ rs
 |0,vs,t,S,hg,hv,ht,hd=>λr S' u hx _=>by
  cases hx
  exact⟨hd,λt' ws u' h=>by cases h;rfl⟩
 |n+1,vs,t,S,hg,hv,ht,hd=>λr S' u hx he=>by
  obtain⟨h1,h2⟩:=h vs t S hg hv ht
  rw[uZ]at hx
  obtain⟨⟨r1,S1⟩,t1,e1,hx⟩:=then_ok hx
  obtain⟨q1,q2,q3,q4⟩:=h1 _ _ e1
  simp only at hx q1 q2 q3 q4
  have hk:=wA (λvs t S a b c=>(h vs t S a b c).1) n r1 t1 S1 q1 q3 q4.2.2.2 _ _ hx
  obtain⟨a1,a2⟩:=h2 hd r1 S1 t1 e1 (hk.2.1.trans he)
  obtain⟨b1,b2⟩:=aUS h n r1 t1 S1 q1 q3 q4.2.2.2 a1 r S' u hx he
  refine⟨b1,λt' ws u' hi=>?_⟩
  rw[pN]at hi
  obtain⟨wa,t2,e2,hi⟩:=then_ok hi
  rw[a2 _ _ _ e2]at hi
  exact b2 _ _ _ hi
section
variable {p d:aC} {sz:Nat} {X D:List (List Int)} {inp:Int} {F:dS} {N:Nat->Prop} (K:SlC p d sz X D inp F N)
include K
theorem SlC.b9W {e:aB} {G:aU} (Fc:bQP p e G):d.out (p.aD.length+e.aW) (e.bR+oN p e.aW)=rU (oN p) p.aD.length (p.out e.aW e.bR) (vR G.aT.toNat) (sR G.aT.toNat) (2*G.aT):=by
 have h1:=K.dv e.aW.toNat G Fc.get
 have h2:=Fc.lo
 have h3:=Fc.pk
 have h4:=Fc.pk2
 rw[show((e.aW.toNat:Nat):Int)=e.aW by omega]at h1
 rw[aC.out,h1,oN,Fc.eq,show(e.bR+(G.aN.length:Nat)).toNat=G.aN.length+e.bR.toNat by omega,xZ aTF,dI,nE,Fc.out];rfl
theorem SlC.bRC:∀ (n t:Nat) (e:aB) (env:List Int) (S:dS) (funcs:Int),e.ok p funcs env.length->funcs<=p.aD.length->Good inp S t->t<=3000->(∀ x∈env,rQ S x)->HD (pW sz X F.code) N S->∀ (v s:List Int) (c:Int) (envd:List (List Int)),ScE (rgX sz X F) (dgX sz X D F) env v s c envd->∀ r S' u,fH p n t e env S=.ok ((r,S'),u)->S'.ext F->rV d sz (rU (oN p) p.aD.length e v s c) envd (dgX sz X D F r)
 |0,t,e,env,S,funcs,_,_,_,_,_,_,v,s,c,envd,_=>λr S' u hx _=>by rw[fH]at hx;cases hx
 |n+1,t,e,env,S,funcs,hok,hf,hg,ht,henv,hd,v,s,c,envd,hS=>by
  have ih:=SlC.bRC n
  have io:=vS K.hp (inp:=inp) n
  have hnode:=((aB.cN _ _ _ _).1 hok).1
  by_cases h3:t=3000
  ·intro r S' u hx _
   rw[fH,if_pos h3]at hx;cases hx
  have o7:=hg.later (r7 t)
  have henvE:∀ {S'},S.ext S'->∀ x∈env,rQ S' x:=λe x hx=>(henv x hx).ext e
  have kidsS:¬e.aP=9->∀ x∈e.aL,∀ u S',Good inp S' u->S.ext S'->pP S (t+1) S' u->wS (aH8 inp S' u) (fH p n u x env S')/\(HD (pW sz X F.code) N S'->∀ r S2 u2,fH p n u x env S'=.ok ((r,S2),u2)->S2.ext F->HD (pW sz X F.code) N S2/\(rV d sz (qI x v c) envd (rgX sz X F r)/\rV d sz (rU (oN p) p.aD.length x v s c) envd (dgX sz X D F r))):=λh9 x hx u S' a b q =>
   ⟨io u x env S' funcs (cO hok h9 x hx) hf a q.2.2.2 (henvE b),λhd' r S2 u2 e1 e2=>by
    obtain⟨h1,h2⟩:=K.val (cO hok h9 x hx) hf a q.2.2.2 (henvE b) hd' hS e1 e2
    exact⟨h1,h2,ih u x env S' funcs (cO hok h9 x hx) hf a q.2.2.2 (henvE b) hd' v s c envd hS r S2 u2 e1 e2⟩⟩
  have hput:∀ {S1:dS} {t1:Nat} {ci:bO} {x:Int},Good inp S1 t1->(S1.put ci x).ext F->dgX sz X D F S1.jE.length=aII sz D (dgS sz D (pW sz X F.code) F.code) (pW sz X F.code) S1.jE.length ci/\F.code[S1.jE.length]?=some ci:=λhg he=>by
   have ec:=a4O hg he
   refine⟨?_,ec⟩
   rw[dgX,nU,aIJ ec (K.C.ins _ _ ec)]
  intro r S' u hx he
  rw[pE]
  rcases rE hnode with hk|hk|hk|hk|hk|hk|hk|hk|hk|hk|hk
  ·rw[aQ4 h3 hk]at hx
   cases hx
   rw[(hput hg he).1,aII,if_neg (λq=>absurd (show(2:Int)=1 from q) cE),if_pos rfl,slN,if_pos hk]
   intro m t' w u' h
   cases m with
   |zero=>rw[iM]at h;cases h
   |succ m =>
    by_cases h3':t'=3000
    ·rw[iM,if_pos h3']at h;cases h
    rw[aQV h3' rfl]at h
    cases h;rfl
  ·rw[aQ5 h3 hk]at hx
   cases hx
   have hn:=((dA aA).1 hnode).2.2.2.2.1 hk
   have hi:=(hS.2.2.2 e.aW.toNat aA).2
   rw[slN,if_neg aA,if_pos hk]
   intro m t' w u' h
   cases m with
   |zero=>rw[iM]at h;cases h
   |succ m =>
    by_cases h3':t'=3000
    ·rw[iM,if_pos h3']at h;cases h
    rw[aQW h3' rfl]at h
    cases h
    exact hi.2
  iterate 5
   ·have hlen:=cQ hok aA
    rw[hk]at hlen
    rw[qB h3 aA]at hx
    obtain⟨⟨rs,S1⟩,t1,e1,hx⟩:=then_ok hx
    simp only at hx
    obtain⟨r1,r2,r3,r4⟩:=kR _ _ S o7 aA (λx hx u S' a b c=>(kidsS aA x hx u S' a b c).1) _ _ e1
    simp only at r1 r2 r3 r4
    unfold opR at hx
    split at hx
    ·cases hx
    cases hx
    obtain⟨a1,a2⟩:=aB0 _ _ S o7 aA hd (kidsS aA) _ _ _ e1 ((S1.aKG _ _).trans he)
    obtain⟨p1,p2⟩:=hput r1 he
    have b0:=a2.get 0 a6Q
    rw[show e.aL.getD 0 dE=e.fZ 0 from rfl]at b0
    rw[p1]
    first
     |(have hl2:e.aL.length=2:=by unfold dD at hlen;simp at hlen;omega
       have b1:=a2.get 1 aA
       rw[show e.aL.getD 1 dE=e.fZ 1 from rfl]at b1
       have hrg:=aRG (sz:=sz) (args:=X) p2 (K.C.ins _ _ p2) aO0 aO0
       simp only[hk,opB,slN,aII,opW,wU (e:=e) (i:=0) (show 0<e.aL.length by omega),wU (e:=e) (i:=1) (show 1<e.aL.length by omega),qC hl2]at hrg ⊢
       simp only[Int.reduceEq,if_true,if_false,or_true,or_false,false_or,true_or]at hrg ⊢
       first
        |exact wE cE b0.2 b1.2
        |exact wE cE (wE cE b0.2 b1.1) (wE cE b0.1 b1.2)
        |(rw[hrg];exact wE cE (wE cE b0.2 (wE cE (wE cE b0.1 b1.1) b1.2)) b1.1))
     |(have hl1:e.aL.length=1:=by unfold dD at hlen;simp at hlen;omega
       simp only[hk,opB,slN,aII,aWN hl1]
       exact bCC b0.2)
  ·have hlen:=cQ hok aA
   rw[hk,show dD 8=3 from rfl]at hlen
   have o0:=aB.dX hok (i:=0) aA
   have o1:=aB.dX hok (i:=1) aA
   have o2:=aB.dX hok (i:=2) aA
   rw[gQ aA]at o0 o1 o2
   rw[aC0 h3 hk]at hx
   obtain⟨⟨rr,S1⟩,t1,e1,hx⟩:=then_ok hx
   simp only at hx
   obtain⟨r1,r2,r3,r4⟩:=io _ _ _ _ _ o0 hf o7 aA henv _ _ e1
   simp only at r1 r2 r3 r4
   have go:∀ (b:Bool) (k:aB),k.ok p funcs env.length->fH p n t1 k env (S1.guard ⟨rr,b⟩)=.ok ((r,S'),u)->(S1.ext F/\N rr.toNat)/\(HD (pW sz X F.code) N S1->rV d sz (rU (oN p) p.aD.length k v s c) envd (dgX sz X D F r)):=λb k hk hq=>by
    have hx1:S1.ext (S1.guard ⟨rr,b⟩):=S1.tN _
    have hgd:=r1.guard (b:=b) r3 (by have:=r4;unfold pP at this;have:=hg.aCZ;omega)
    obtain⟨q1,q2,q3,q4⟩:=io t1 k env _ _ hk hf hgd (by have:=r4;unfold pP at this;omega) (henvE (r2.trans hx1)) _ _ hq
    simp only at q2
    refine⟨⟨hx1.trans (q2.trans he),?_⟩,λhdd=>ih t1 k env _ _ hk hf hgd (by have:=r4;unfold pP at this;omega) (henvE (r2.trans hx1)) hdd v s c envd hS _ _ _ hq he⟩
    have hm:(⟨rr,b⟩:j8)∈F.guards:=by
     have h1:(⟨rr,b⟩:j8)∈(S1.guard ⟨rr,b⟩).guards:=by simp[dS.guard]
     exact(q2.trans he).2.2.subset h1
    exact K.C.gds _ hm
   rw[slN,if_neg aA,if_neg aA,if_neg aA,if_neg aA,if_neg aA,if_pos hk,wU aA,wU aA,wU aA]
   by_cases hz:S1.val rr=0
   ·rw[if_pos hz]at hx
    obtain⟨⟨g1,g2⟩,g3⟩:=go _ _ o1 hx
    obtain⟨a1,a2⟩:=K.val o0 hf o7 aA henv hd hS e1 g1
    have h0:(rgX sz X F rr).getD 0 0=0:=by rw[a1.1 rr.toNat (by unfold rQ at r3;omega) g2];exact hz
    exact a1M a2 (λ_=>g3 a1) λq=>absurd h0 q
   ·rw[if_neg hz]at hx
    obtain⟨⟨g1,g2⟩,g3⟩:=go _ _ o2 hx
    obtain⟨a1,a2⟩:=K.val o0 hf o7 aA henv hd hS e1 g1
    have h0:¬(rgX sz X F rr).getD 0 0=0:=by rw[a1.1 rr.toNat (by unfold rQ at r3;omega) g2];exact hz
    exact a1M a2 (λq=>absurd q h0) λ_=>g3 a1
  ·have hlen:=cQ hok aA
   rw[hk,show dD 9=2 from rfl]at hlen
   have o0:=aB.dX hok (i:=0) aA
   have o1:=aB.dX hok (i:=1) aA
   rw[gQ aA]at o0
   rw[hk,show jV 9 1 (env.length:Int)=env.length+1 from rfl]at o1
   rw[aQ6 h3 hk]at hx
   obtain⟨⟨rr,S1⟩,t1,e1,hx⟩:=then_ok hx
   simp only at hx
   obtain⟨r1,r2,r3,r4⟩:=io _ _ _ _ _ o0 hf o7 aA henv _ _ e1
   simp only at r1 r2 r3 r4
   have bGU:∀ x∈env++[rr],rQ S1 x:=λx hx=>by
    rcases pJ.1 hx with hx|hx
    ·exact henvE r2 x hx
    ·rw[jF.1 hx];exact r3
   have o1':(e.fZ 1).ok p funcs (env++[rr]).length:=by rw[mV];exact o1
   obtain⟨q1,q2,q3,q4⟩:=io t1 (e.fZ 1) (env++[rr]) S1 funcs o1' hf r1 r4.2.2.2 bGU _ _ hx
   obtain⟨a1,a2⟩:=K.val o0 hf o7 aA henv hd hS e1 (q2.trans he)
   have b1:=ih _ _ _ _ _ o0 hf o7 aA henv hd v s (c+1) (envd++[rgX sz X F rr]) (hS.wide _) _ _ _ e1 (q2.trans he)
   have b2:=ih _ _ _ _ _ o1' hf r1 r4.2.2.2 bGU a1 _ _ _ _ (hS.snoc rr) _ _ _ hx he
   rw[slN,if_neg aA,if_neg aA,if_neg aA,if_neg aA,if_neg aA,if_neg aA,if_pos hk,wU aA]
   have hT:slT (oN p) p.aD.length e.aL v s c=[rU (oN p) p.aD.length (e.fZ 0) v s (c+1),rU (oN p) p.aD.length (e.fZ 1) (v++[c]) (s++[c+1]) (c+2)]:=by
    obtain⟨k,n,pi,co,kids⟩:=e
    match kids,hlen with
    | [a,b],_ =>
     change slT _ _ [a,b] _ _ _=_
     rw[slT,slL,slL];rfl
   rw[hT]
   exact aUR a2 (aUR b1 b2)
  ·obtain⟨G,Fc⟩:=nD K.hp hok hf (.inl hk)
   have f2:=Fc.hi
   have f4:=Fc.pk2
   rw[aF3 h3 hk]at hx
   have hs:=kidsS aA
   obtain⟨⟨rs,S1⟩,t1,e1,hx⟩:=then_ok hx
   simp only at hx
   obtain⟨r1,r2,r3,r4⟩:=kR _ _ S o7 aA (λx hx u S' a b c=>(hs x hx u S' a b c).1) _ _ e1
   simp only at r1 r2 r3 r4
   have hco:(p.out e.aW e.bR).ok p e.aW rs.length:=by rw[r3.1,Fc.kids];exact Fc.oks _ (nO Fc.out)
   obtain⟨q1,q2,q3,q4⟩:=io t1 _ rs S1 e.aW hco aA r1 r4.2.2.2 r3.2 _ _ hx
   obtain⟨a1,a2⟩:=aB0 _ _ S o7 aA hd hs _ _ _ e1 (q2.trans he)
   have hrl:rs.length=G.aT.toNat:=by have:=Fc.kids;have:=r3.1;omega
   have hb:=ih t1 _ rs S1 e.aW hco aA r1 r4.2.2.2 r3.2 a1 _ _ _ _ (ScE.start rs (c:=2*G.aT) (by have:=Fc.params;omega)) _ _ _ hx he
   rw[hrl]at hb
   rw[slN,if_neg aA,if_neg aA,if_neg aA,if_neg aA,if_neg aA,if_neg aA,if_neg aA,hk]
   intro m t' w u' h
   cases m with
   |zero=>rw[iM]at h;cases h
   |succ m =>
    by_cases h3':t'=3000
    ·rw[iM,if_pos h3']at h;cases h
    rw[aE2 h3' rfl]at h
    obtain⟨ws,t2,e2,h⟩:=then_ok h
    obtain⟨wa,wb,t3,rfl,e3,e4⟩:=aFJ _ _ _ _ _ e2
    rw[pF (a2.mono λx r q=>q.1) _ _ _ e3,pF (a2.mono λx r q=>q.2) _ _ _ e4]at h
    change iM d sz m t2 (d.out (p.aD.length+e.aW) (e.bR+oN p e.aW)) _=_ at h
    rw[K.b9W Fc]at h
    exact hb _ _ _ _ h
  ·obtain⟨G,Fc⟩:=nD K.hp hok hf (.inr hk)
   have f2:=Fc.hi
   have f4:=Fc.pk2
   have f9:=Fc.loop hk
   rw[aF4 h3 hk]at hx
   have hs:=kidsS aA
   obtain⟨⟨rs,S1⟩,t1,e1,hx⟩:=then_ok hx
   simp only at hx
   obtain⟨r1,r2,r3,r4⟩:=kR _ _ S o7 aA (λx hx u S' a b c=>(hs x hx u S' a b c).1) _ _ e1
   simp only at r1 r2 r3 r4
   obtain⟨⟨rs2,S2⟩,t2,e2,hx⟩:=then_ok hx
   cases hx
   have hdv:=K.dv e.aW.toNat G Fc.get
   rw[show((e.aW.toNat:Nat):Int)=e.aW by have:=Fc.lo;omega]at hdv
   have hfl:∀ m vs t S,Good inp S t->(vs.length=G.aN.length/\∀ x∈vs,rQ S x)->t<=3000->wS (aDX inp S t G.aN.length) (tA (λt e S=>fH p n t e vs S) (p.outs e.aW) t S)/\(HD (pW sz X F.code) N S->∀ rs S2 u2,tA (λt e S=>fH p n t e vs S) (p.outs e.aW) t S=.ok ((rs,S2),u2)->S2.ext F->HD (pW sz X F.code) N S2/\∀ t' ws u',jY (λt x=>iM d sz m t x (vs.map (rgX sz X F)++vs.map (dgX sz X D F))) (d.outs (p.aD.length+e.aW)) t'=.ok (ws,u')->ws=rs.map (rgX sz X F)++rs.map (dgX sz X D F)):=λm vs w S' hg' hv hw=>by
    rw[Fc.eq]
    have hvl:vs.length=G.aT.toNat:=by have:=f9.2.2;omega
    have hst:=ScE.start (rg:=rgX sz X F) (dg:=dgX sz X D F) vs (c:=2*G.aT) (by have:=Fc.params;omega)
    rw[hvl]at hst
    have hxo:∀ x∈G.aN,x.ok p e.aW vs.length:=λx hx=>by rw[hv.1,f9.2.2];exact Fc.oks x hx
    have hx2:∀ x∈G.aN,∀ u S'',Good inp S'' u->S'.ext S''->pP S' w S'' u->wS (aH8 inp S'' u) (fH p n u x vs S'')/\(HD (pW sz X F.code) N S''->∀ r S2 u2,fH p n u x vs S''=.ok ((r,S2),u2)->S2.ext F->HD (pW sz X F.code) N S2/\(rV d sz (qI x (vR G.aT.toNat) (2*G.aT)) (vs.map (rgX sz X F)++vs.map (dgX sz X D F)) (rgX sz X F r)/\rV d sz (rU (oN p) p.aD.length x (vR G.aT.toNat) (sR G.aT.toNat) (2*G.aT)) (vs.map (rgX sz X F)++vs.map (dgX sz X D F)) (dgX sz X D F r))):=λx hx u S'' a b c =>
     ⟨io u x vs S'' e.aW (hxo x hx) aA a c.2.2.2 λy hy=>(hv.2 y hy).ext b,λhdd r S2 u2 z1 z2=>by
      obtain⟨y1,y2⟩:=K.val (hxo x hx) aA a c.2.2.2 (λy hy=>(hv.2 y hy).ext b) hdd hst z1 z2
      exact⟨y1,y2,ih u x vs S'' e.aW (hxo x hx) aA a c.2.2.2 (λy hy=>(hv.2 y hy).ext b) hdd _ _ _ _ hst _ _ _ z1 z2⟩⟩
    refine⟨kR _ _ S' hg' hw λx hx u S'' a b c=>(hx2 x hx u S'' a b c).1,λhdd rs S2 u2 z1 z2=>?_⟩
    obtain⟨y1,y2⟩:=aB0 _ _ S' hg' hw hdd hx2 _ _ _ z1 z2
    refine⟨y1,λt' ws u' hq=>?_⟩
    rw[hdv]at hq
    obtain⟨wa,wb,t3,rfl,e3,e4⟩:=aFJ _ _ _ _ _ hq
    rw[pF (y2.mono λx r q=>q.1) _ _ _ e3,pF (y2.mono λx r q=>q.2) _ _ _ e4]
   have hv0:rs.length=G.aN.length/\∀ x∈rs,rQ S1 x:=⟨by have:=r3.1;have:=Fc.kids;omega,r3.2⟩
   have hk2:=wA (inp:=inp) (m:=G.aN.length) (λvs t S a b c=>(hfl 0 vs t S a b c).1) _ _ _ _ r1 hv0 r4.2.2.2 _ _ e2
   obtain⟨a1,a2⟩:=aB0 _ _ S o7 aA hd hs _ _ _ e1 (hk2.2.1.trans he)
   have hl2:rs2.length=G.aN.length:=hk2.2.2.1.1
   rw[slN,if_neg aA,if_neg aA,if_neg aA,if_neg aA,if_neg aA,if_neg aA,if_neg aA,hk]
   intro m t' w u' h
   cases m with
   |zero=>rw[iM]at h;cases h
   |succ m =>
    by_cases h3':t'=3000
    ·rw[iM,if_pos h3']at h;cases h
    rw[aE3 h3' rfl]at h
    obtain⟨ws,t3,e3,h⟩:=then_ok h
    obtain⟨wa,wb,t4,rfl,e4,e5⟩:=aFJ _ _ _ _ _ e3
    rw[pF (a2.mono λx r q=>q.1) _ _ _ e4,pF (a2.mono λx r q=>q.2) _ _ _ e5]at h
    obtain⟨wc,t5,e6,h⟩:=then_ok h
    obtain⟨b1,b2⟩:=aUS (ψ:=λvs=>vs.map (rgX sz X F)++vs.map (dgX sz X D F)) (g:=λvs t=>jY (λt x=>iM d sz m t x vs) (d.outs (p.aD.length+e.aW)) t) (m:=G.aN.length) (hfl m) _ _ _ _ r1 hv0 r4.2.2.2 a1 _ _ _ e2 he
    have h7:=b2 _ _ _ e6
    subst h7
    cases h
    have h3:=Fc.pk
    show((rs2.map (rgX sz X F)++rs2.map (dgX sz X D F)).getD (e.bR+oN p e.aW).toNat [])=_
    rw[oN,Fc.eq,show(e.bR+(G.aN.length:Nat)).toNat=G.aN.length+e.bR.toNat by omega,xZ (by rw[nG,hl2]),aXI aA]
end
structure Der (p d:aC):Prop where
 hd:∀ j,j<p.aD.length->d.aD[j]?=p.aD[j]?
 dv:∀ (g:Nat) (G:aU),p.aD[g]?=some G->d.outs (p.aD.length+g)=(G.aN.map λx=>qI x (vR G.aT.toNat) (2*G.aT))++G.aN.map λx=>rU (oN p) p.aD.length x (vR G.aT.toNat) (sR G.aT.toNat) (2*G.aT)
theorem bNA {inp:Int} {F:dS} (hins:∀ i c,F.code[i]?=some c->cV inp i c):bBW inp F λ_=>True:=⟨hins,λ_ _ _ _=>⟨λ_=>⟨trivial,trivial⟩,λ_=>trivial⟩,λ_ _=>trivial,λ_ _ _ _=>trivial⟩
theorem bVK {p d:aC} (hp:p.ok) (H:Der p d) {f:Int} (hf:0<=f/\f<p.aD.length) {start L:List Int} {F:dS} {u:Nat} (ns:dW start) (hl:∀ G,p.aD[f.toNat]?=some G->(start.length:Int)=G.aT) (hX:wT p f start=.ok ((L,F),u)) (T:aFH p f start L F u) {sz:Nat} (c6:1<=sz) {X D:List (List Int)} (hs:St start sz X) (hD:D.length=start.length) {vs:List (List Int)} {t:Nat} (h:evF d sz (p.aD.length+f) (X++D)=.ok (vs,t)) :
  vs=L.map (rgX sz X F)++L.map (dgX sz X D F):=by
 obtain⟨G,ef,hF1,hF2,hF3,hF4⟩:=vQ hp hf
 have hla:=hl G ef
 have hg:=aKH start ns aA
 have hin:=aWJ start
 have hel:(inE start).length=start.length:=by simp[inE]
 obtain⟨q1,q2,q3,q4⟩:=(aKI hp f hf start ns hl).1 _ _ hX
 simp only at q1 q2 q3 q4
 have K:SlC p d sz X D start.length F λ_=>True:=⟨hp,H.hd,H.dv,bNA T.ins,c6,hs.1.2,by rw[hs.1.1]⟩
 have hcode:∀ i,i<start.length->F.code[i]?=some ⟨1,0,0,(i:Int)⟩:=λi hi=>by
  obtain⟨x,hx⟩:=q2.1
  rw[←hx,uU (by simp[inS];exact hi)]
  simp[inS,hi]
 have hrg:∀ i,i<start.length->pW sz X F.code i=X.getD i []:=λi hi=>by
  rw[aRF (hcode i hi) rfl,nU]
 have hdg:∀ i,i<start.length->dgS sz D (pW sz X F.code) F.code i=D.getD i []:=λi hi=>by
  rw[aIJ (hcode i hi) (T.ins _ _ (hcode i hi)),aII,if_pos rfl,nU]
 have hd0:HD (pW sz X F.code) (λ_=>True) (inS start):=⟨λi hi hn=>by
  have hi':i<start.length:=hi
  rw[hrg i hi'];exact hs.2 i hi',λi c hc h6=>by
  obtain⟨h1,h2⟩:=mS.1 hc
  simp[inS]at h1 h2
  subst h2
  simp at h6⟩
 have hm:∀ (Y:List (List Int)) (φ:Int->List Int),Y.length=start.length->(∀ i:Nat,i<start.length->φ (i:Int)=Y.getD i [])->(inE start).map φ=Y:=λY φ hY hφ=>by
  apply vT
  ·rw[nG,hel,hY]
  ·intro i h1 h2
   rw[r8]
   have e1:(inE start)[i]'(by rw[hel];omega)=(i:Int):=by simp[inE]
   rw[e1,hφ i aA,dI,cM h2];rfl
 have hS:=ScE.start (rg:=rgX sz X F) (dg:=dgX sz X D F) (inE start) (c:=2*G.aT) (by rw[hel];omega)
 rw[hm X _ hs.1.1 (λi hi=>by rw[rgX,nU];exact hrg i hi),hm D _ hD (λi hi=>by rw[dgX,nU];exact hdg i hi),hel,show start.length=G.aT.toNat by omega]at hS
 have hx2:∀ x∈p.outs f,∀ u S'',Good start.length S'' u->(inS start).ext S''->pP (inS start) 0 S'' u->wS (aH8 start.length S'' u) (fH p 3001 u x (inE start) S'')/\(HD (pW sz X F.code) (λ_=>True) S''->∀ r S2 u2,fH p 3001 u x (inE start) S''=.ok ((r,S2),u2)->S2.ext F->HD (pW sz X F.code) (λ_=>True) S2/\(rV d sz (qI x (vR G.aT.toNat) (2*G.aT)) (X++D) (rgX sz X F r)/\rV d sz (rU (oN p) p.aD.length x (vR G.aT.toNat) (sR G.aT.toNat) (2*G.aT)) (X++D) (dgX sz X D F r))):=λx hx u S'' a b c=>by
  have hxo:x.ok p f (inE start).length:=by rw[hel,hla];exact hF4 x (by rw[←hF3];exact hx)
  refine⟨vS hp _ u x _ S'' f hxo aA a c.2.2.2 λy hy=>(hin y hy).ext b,λhdd r S2 u2 z1 z2=>?_⟩
  obtain⟨y1,y2⟩:=K.val hxo aA a c.2.2.2 (λy hy=>(hin y hy).ext b) hdd hS z1 z2
  exact⟨y1,y2,K.bRC 3001 u x _ S'' f hxo aA a c.2.2.2 (λy hy=>(hin y hy).ext b) hdd _ _ _ _ hS _ _ _ z1 z2⟩
 obtain⟨a1,a2⟩:=aB0 _ _ _ hg aA hd0 hx2 _ _ _ hX F.uH
 have hdv:=H.dv f.toNat G ef
 rw[show((f.toNat:Nat):Int)=f by omega]at hdv
 rw[evF,hdv,←hF3]at h
 obtain⟨wa,wb,t3,rfl,e3,e4⟩:=aFJ _ _ _ _ _ h
 rw[pF (a2.mono λx r q=>q.1) _ _ _ e3,pF (a2.mono λx r q=>q.2) _ _ _ e4]
theorem bNB {A B:List (List Int)} (hl:A.length=B.length) (h:∀ i,i<A.length->A.getD i []=B.getD i []):A=B:=by
 refine vT hl λi h1 h2=>?_
 have:=h i h1
 rw[dI,dI,cM h1,cM h2]at this
 exact this
theorem a1N {p d:aC} (hp:p.ok) (H:Der p d) {f:Int} (hf:0<=f/\f<p.aD.length) {start one L L':List Int} {F F':dS} {u u':Nat} (ns:dW start) (no:dW one) (ho:one.length=start.length) (hl:∀ G,p.aD[f.toNat]?=some G->(start.length:Int)=G.aT) (hX:wT p f start=.ok ((L,F),u)) (T:aFH p f start L F u) (hL:L.length=start.length) (T':aFH d (p.aD.length+f) (start++one) L' F' u') :
  ∀ k,eS (Vy F'.code L') (start++one) k=eS (Vy F.code L) start k++eS (Vz F.code L (eS (Vy F.code L) start)) one k
 |0=>by rw[eS,eS,eS,kS]
 |k+1=>by
  have ih:=a1N hp H hf ns no ho hl hX T hL T' k
  have hst:=gE (Vy F'.code L') (start:=start++one) (λx hx=>by rcases pJ.1 hx with hx|hx;exact ns x hx;exact no x hx) k
  have hs:=gE (Vy F.code L) ns k
  have hy:=j5 (Vy F.code L) start k
  have hz:=j5 (Vz F.code L (eS (Vy F.code L) start)) one k
  rw[ih]at hst
  have hV:=bVK hp H hf ns hl hX T (sz:=k+1) aA hs (by rw[hz,ho]) (T'.ev (k+1) _ aA hst)
  have hV':Vy F'.code L' (k+1) (eS (Vy F.code L) start k++eS (Vz F.code L (eS (Vy F.code L) start)) one k)=Vy F.code L (k+1) (eS (Vy F.code L) start k)++Vz F.code L (eS (Vy F.code L) start) (k+1) (eS (Vz F.code L (eS (Vy F.code L) start)) one k):=hV
  have hvy:(Vy F.code L (k+1) (eS (Vy F.code L) start k)).length=start.length:=by rw[Vy,nG,hL]
  refine bNB (by rw[j5,mV,mV,j5,j5]) λi hi=>?_
  rw[j5]at hi
  rw[eS,pX hi,ih,hV']
  rw[mV]at hi
  by_cases h1:i<start.length
  ·rw[mU (l:=eS (Vy F.code L) start k) aA,mU (l:=Vy F.code L (k+1) (eS (Vy F.code L) start k)) aA,mU (l:=eS (Vy F.code L) start (k+1)) (by rw[j5];exact h1),eS,pX h1]
  ·obtain⟨j,rfl⟩:∃ j,i=start.length+j:=⟨i-start.length,by omega⟩
   rw[xZ (l:=eS (Vy F.code L) start k) hy.symm,xZ (l:=Vy F.code L (k+1) (eS (Vy F.code L) start k)) hvy.symm,xZ (l:=eS (Vy F.code L) start (k+1)) (j5 _ _ _).symm,eS,pX aA]
theorem a9I (c:Int) {f a b:Nat->Int}:∀ n,(∀ i,i<n->Cg (f i) (a i+c*b i))->Cg (jJ f n) (jJ a n+c*jJ b n)
 |0,_=>Cg.of_eq (by rw[jJ,jJ,jJ];omega)
 |n+1,h=>by
  obtain⟨x,hx⟩:=a9I c n λi hi=>h i aA
  obtain⟨y,hy⟩:=h n (aD9 n)
  rw[jJ,jJ,jJ,hx,hy,Int.mul_add]
  exact⟨x+y,by omega⟩
theorem bVL {sz:Nat} {a b:List Int} (ha:bV sz a) (hb:bV sz b) (h:∀ j,j<sz->Cg (sF a j) (sF b j)):a=b:=by
 refine vT (by rw[ha.1,hb.1]) λj h1 h2=>?_
 have:=(h j (by rw[←ha.1];exact h1)).num (ha.2.get j) (hb.2.get j)
 rw[sF,sF,dI,dI,cM h1,cM h2]at this
 exact this
theorem bNC {sz:Nat} (c6:1<=sz/\sz<=1048576) {code:List bO} {inp:Nat} (hins:∀ i c,code[i]?=some c->cV inp i c) {rg:List (List Int)} (hrg:gF sz code.length rg) {A B W:List (List Int)} (hA:gF sz inp A) (hB:gF sz inp B) (hW:gF sz inp W) (c:Int) (h:∀ i,i<inp->∀ j,j<sz->Cg (sF (W.getD i []) j) (sF (A.getD i []) j+c*sF (B.getD i []) j)) {r:Int} (hr:0<=r/\r<code.length) {j:Nat} (hj:j<sz) :
  Cg (sF (dgS sz W (λi=>rg.getD i []) code r.toNat) j) (sF (dgS sz A (λi=>rg.getD i []) code r.toNat) j+c*sF (dgS sz B (λi=>rg.getD i []) code r.toNat) j):=by
 have ho:∀ x∈[r],0<=x/\x<code.length:=λx hx=>by rw[jF.1 hx];exact hr
 have hq:=a1D (inp:=inp) (i:=0) c6 hins hrg ho
 have e:∀ Z,gF sz inp Z->aMC sz (aRO code [r] rg sz inp 0) Z inp=dgS sz Z (λi=>rg.getD i []) code r.toNat:=λZ hZ=>a9B c6 hins ho hrg hZ (o:=0) bN
 rw[←e W hW,←e A hA,←e B hB]
 generalize aRO code [r] rg sz inp 0=S at *
 obtain⟨x,hx⟩:=aFG (Z:=W) hj hq inp (iH _)
 obtain⟨y,hy⟩:=aFG (Z:=A) hj hq inp (iH _)
 obtain⟨z,hz⟩:=aFG (Z:=B) hj hq inp (iH _)
 obtain⟨w,hw⟩:=a9I c (f:=λi=>kF (fA S i) (fA W i) j) (a:=λi=>kF (fA S i) (fA A i) j) (b:=λi=>kF (fA S i) (fA B i) j) inp λi hi=>by
  refine(p7 j _ _ _ _ (λ_ _=>Cg.refl _) λk hk=>h i hi k aA).trans (Cg.of_eq ?_)
  rw[aBW j (sF (A.getD i [])) λk=>c*sF (B.getD i []) k,aRI];rfl
 refine⟨x+w-y-c*z,?_⟩
 have h1:c*(jJ (λi=>kF (fA S i) (fA B i) j) inp+1000003*z)=c*jJ (λi=>kF (fA S i) (fA B i) j) inp+1000003*(c*z):=by rw[Int.mul_add,Int.mul_left_comm]
 rw[hx,hy,hz,hw,h1]
 generalize c*jJ (λi=>kF (fA S i) (fA B i) j) inp=p1
 generalize c*z=p2
 omega
theorem aMG {V:Nat->List (List Int)->List (List Int)} {start:List Int} {i k:Nat} (hi:i<start.length):sF ((eS V start (k+1)).getD i []) (k+1)=((V (k+1) (eS V start k)).getD i []).getD k 0*nV ((k:Int)+1)%1000003:=by
 rw[sF,wD V start hi,dI,bJ5,nE,aIY (aD9 k)];rfl
theorem aRQ {V:Nat->List (List Int)->List (List Int)} {start:List Int} (ns:dW start) {i j k:Nat} (hi:i<start.length) (hj:j<k+1):sF ((eS V start (k+1)).getD i []) j=sF ((eS V start k).getD i []) j:=by
 have:=(gE V ns k).len hi
 rw[eS,pX hi,sF,mU aA];rfl
section
variable {p:aC} {f:Int} {start L one two:List Int} {F:dS} {u:Nat} (T:aFH p f start L F u) (hL:L.length=start.length) (ns:dW start) (n1:dW one) (n2:dW two) (l1:one.length=start.length) (l2:two.length=start.length)
include T hL ns n1 n2 l1 l2
theorem bH7:∀ (k:Nat),k<=12->∀ i,i<start.length->∀ j,j<k+1->Cg (sF ((eS (Vz F.code L (eS (Vy F.code L) start)) (iK one (iE two 5)) k).getD i []) j) (sF ((eS (Vz F.code L (eS (Vy F.code L) start)) one k).getD i []) j+5*sF ((eS (Vz F.code L (eS (Vy F.code L) start)) two k).getD i []) j)
 |0,_,i,hi,j,hj=>by
  obtain rfl:j=0:=by omega
  have o1:bV start.length one:=⟨l1,n1⟩
  have o2:bV start.length two:=⟨l2,n2⟩
  have ow:=kX o1 (eO 5 o2)
  have e:=λ(s:List Int) (ns:dW s) (hl:s.length=start.length)=>(gE (Vz F.code L (eS (Vy F.code L) start)) ns 0).2 i aA
  have ew:=e _ ow.2 ow.1
  have e1:=e _ n1 l1
  have e2:=e _ n2 l2
  rw[sF,sF,sF,ew,e1,e2]
  refine(aIG o1 (eO 5 o2) hi).trans (((Cg.refl _).add (a4T o2 5 hi)).trans (Cg.of_eq ?_))
  rw[aOW (sF two i) 5];rfl
 |k+1,hk,i,hi,j,hj=>by
  have ih:=bH7 k aA
  have o1:bV start.length one:=⟨l1,n1⟩
  have o2:bV start.length two:=⟨l2,n2⟩
  have ow:=kX o1 (eO 5 o2)
  have lw:=ow.1
  have nw:=ow.2
  generalize iK one (iE two 5)=w at *
  by_cases h1:j<k+1
  ·rw[aRQ nw aA h1,aRQ n1 aA h1,aRQ n2 aA h1]
   exact ih i hi j h1
  ·obtain rfl:j=k+1:=by omega
   rw[aMG aA,aMG aA,aMG aA]
   have hy:=gE (Vy F.code L) ns k
   have hr:=T.outs _ (aXB (L:=L) (i:=i) aA)
   have hrg:=a1E T.ins hy.1
   have sw:=(gE (Vz F.code L (eS (Vy F.code L) start)) nw k).1
   have s1:=(gE (Vz F.code L (eS (Vy F.code L) start)) n1 k).1
   have s2:=(gE (Vz F.code L (eS (Vy F.code L) start)) n2 k).1
   rw[lw]at sw
   rw[l1]at s1
   rw[l2]at s2
   have hd:=bNC (sz:=k+1) aA T.ins hrg s1 s2 sw 5 ih hr (j:=k) (aD9 k)
   have ev:∀ Z,((Vz F.code L (eS (Vy F.code L) start) (k+1) Z).getD i []).getD k 0=sF (dgS (k+1) Z (λi=>(tP (k+1) (eS (Vy F.code L) start k) F.code F.code.length).getD i []) F.code (L.getD i 0).toNat) k:=λZ=>by
    rw[Vz,aBX aA];rfl
   rw[ev,ev,ev]
   refine(Cg.mod _).trans ((hd.mul (Cg.refl _)).trans ?_)
   rw[Int.add_mul,a58]
   exact(Cg.mod _).symm.add ((Cg.refl 5).mul (Cg.mod _).symm)
theorem bND {k:Nat} (hk:k<=12) {i:Nat} (hi:i<start.length):(eS (Vz F.code L (eS (Vy F.code L) start)) (iK one (iE two 5)) k).getD i []=iK ((eS (Vz F.code L (eS (Vy F.code L) start)) one k).getD i []) (iE ((eS (Vz F.code L (eS (Vy F.code L) start)) two k).getD i []) 5):=by
 have o1:bV start.length one:=⟨l1,n1⟩
 have o2:bV start.length two:=⟨l2,n2⟩
 have ow:=kX o1 (eO 5 o2)
 have hc:=bH7 T hL ns n1 n2 l1 l2 k hk i hi
 have lw:=ow.1
 have nw:=ow.2
 generalize iK one (iE two 5)=w at *
 have sw:=((gE (Vz F.code L (eS (Vy F.code L) start)) nw k).1.get (i:=i) aA).2
 have s1:=((gE (Vz F.code L (eS (Vy F.code L) start)) n1 k).1.get (i:=i) aA).2
 have s2:=((gE (Vz F.code L (eS (Vy F.code L) start)) n2 k).1.get (i:=i) aA).2
 exact bVL sw (kX s1 (eO 5 s2)) λj h1=>(hc j h1).trans (((Cg.refl _).add ((Cg.of_eq (aOW _ _)).trans (a4T s2 5 h1).symm)).trans (aIG s1 (eO 5 s2) h1).symm)
end
def ndL (l:List aB):Nat:=l.length+aB.sL l
theorem qR (x:aB) (l:List aB):ndL (x::l)=x.s+1+ndL l:=by rw[ndL,ndL,aB.sL,al2];omega
theorem a45 (l:List aB):(l.getD 0 dE).s+1<=ndL l+1/\(l.getD 1 dE).s+1<=ndL l+1/\(l.getD 0 dE).s+1+((l.getD 1 dE).s+1)<=ndL l+2/\(l.getD 1 dE).s+1+((l.getD 2 dE).s+1)<=ndL l+2:=by
 have h0:dE.s=0:=rfl
 match l with
 | []=>simp only[List.getD_nil,h0,ndL,aB.sL,al3];omega
 | [a]=>simp only[aIZ,aI0,List.getD_nil,h0,ndL,aB.sL,al2,al3];omega
 | [a,b]=>simp only[aIZ,aI0,List.getD_nil,h0,ndL,aB.sL,al2,al3];omega
 |a::b::c::l=>simp only[aIZ,aI0,ndL,aB.sL,al2];omega
theorem aXJ:∀ l l':List aB,ndL (l++l')=ndL l+ndL l'
 | [],l'=>by simp[ndL,aB.sL]
 |x::l,l'=>by rw[aU8,qR,aXJ l l',qR];omega
theorem a1O (k n pi co:Int) (kids:List aB):(aB.mk k n pi co kids).s=ndL kids:=by rw[aB.s,ndL]
mutual
theorem bRD:∀ (e:aB) (v:List Int) (c:Int),(qI e v c).s<=e.s
 | .mk k n pi co kids,v,c=>by
  rw[qI]
  split
  ·rw[a1O];exact fE _
  ·rw[a1O,a1O]
   split
   ·exact b2W kids v c
   ·exact a1P kids v c
theorem a1P:∀ (l:List aB) (v:List Int) (c:Int),ndL (plL l v c)<=ndL l
 | [],v,c=>by rw[plL];exact iH _
 |x::l,v,c=>by
  rw[plL,qR,qR]
  have:=bRD x v c
  have:=a1P l v c
  omega
theorem b2W:∀ (l:List aB) (v:List Int) (c:Int),ndL (plT l v c)<=ndL l
 | [],v,c=>by rw[plT];exact iH _
 |x::l,v,c=>by
  rw[plT,qR,qR]
  have:=bRD x v c
  have:=a1P l (v++[c]) (c+1)
  omega
end
theorem aRR {a b c d x:Nat} (h1:x<=9*a*b) (h2:a<=c) (h3:b<=d):x<=9*c*d:=aLG h1 (Nat.mul_le_mul (Nat.mul_le_mul_left 9 h2) h3)
mutual
theorem bRE (outs:Int->Int) (nf:Int):∀ (e:aB) (v s:List Int) (c:Int),(rU outs nf e v s c).s+1<=9*(e.s+1)*e.d
 | .mk k n pi co kids,v,s,c=>by
  have hq:=a1P kids v c
  have hd:=a9J outs nf kids v s c
  have hm:=b2X outs nf kids v s c
  have hE:9*((aB.mk k n pi co kids).s+1)*(aB.mk k n pi co kids).d=9*ndL kids*aB.dL kids+9*ndL kids+9*aB.dL kids+9:=by
   rw[a1O,aB.d,aYY,aYY,wH];omega
  rw[hE,rU,slN]
  obtain⟨q0,q1,q2,q3⟩:=a45 (plL kids v c)
  obtain⟨d0,d1,d2,d3⟩:=a45 (slL outs nf kids v s c)
  obtain⟨m0,m1,m2,m3⟩:=a45 (slT outs nf kids v s c)
  generalize plL kids v c=q at *
  generalize slL outs nf kids v s c=d at *
  generalize slT outs nf kids v s c=m at *
  repeat' split
  all_goals
   simp only[nJ,a1O,qR,aXJ,show ndL []=0 from rfl]
   omega
theorem a9J (outs:Int->Int) (nf:Int):∀ (l:List aB) (v s:List Int) (c:Int),ndL (slL outs nf l v s c)<=9*ndL l*aB.dL l
 | [],v,s,c=>by rw[slL];exact fE _
 |x::l,v,s,c=>by
  have h1:=aRR (bRE outs nf x v s c) (iH _) (show x.d<=aB.dL (x::l)by rw[aB.dL];omega)
  have h2:=aRR (a9J outs nf l v s c) (iH _) (show aB.dL l<=aB.dL (x::l)by rw[aB.dL];omega)
  rw[slL,qR,qR,aYY,wH]
  omega
theorem b2X (outs:Int->Int) (nf:Int):∀ (l:List aB) (v s:List Int) (c:Int),ndL (slT outs nf l v s c)<=9*ndL l*aB.dL l
 | [],v,s,c=>by rw[slT];exact fE _
 |x::l,v,s,c=>by
  have h1:=aRR (bRE outs nf x v s (c+1)) (iH _) (show x.d<=aB.dL (x::l)by rw[aB.dL];omega)
  have h2:=aRR (a9J outs nf l (v++[c]) (s++[c+1]) (c+2)) (iH _) (show aB.dL l<=aB.dL (x::l)by rw[aB.dL];omega)
  rw[slT,qR,qR,aYY,wH]
  omega
end
def vG (nm:Nat->List UInt8) (p:aC) (g:Nat) (G:aU):aU:=⟨nm g,2*G.aT,(G.aN.map λx=>qI x (vR G.aT.toNat) (2*G.aT))++G.aN.map λx=>rU (oN p) p.aD.length x (vR G.aT.toNat) (sR G.aT.toNat) (2*G.aT)⟩
def xR (nm:Nat->List UInt8) (p:aC):aC:=⟨p.aD++p.aD.mapIdx (vG nm p)⟩
theorem bNE (nm:Nat->List UInt8) (p:aC):Der p (xR nm p) where
 hd j hj:=by rw[xR,uU hj]
 dv g G hG:=by
  have hg:=(mS.1 hG).1
  rw[aC.outs,show((p.aD.length:Int)+(g:Int)).toNat=p.aD.length+g by omega,xR,wZ (Nat.le_add_right _ _),bDL,List.getElem?_mapIdx,hG];rfl
theorem aXK {α:Type} (s:α->Nat) (b:Nat):∀ l:List α,(∀ x∈l,s x<=b)->(l.map s).sum<=l.length*b
 | [],_=>by simp
 |x::l,h=>by
  have h1:=h x (.head _)
  have h2:=aXK s b l λy hy=>h y (.tail _ hy)
  rw[nZ,aOV,al2,wH]
  omega
theorem a47 (l:List aB):uW aB.s l=ndL l:=by rw[l8,ndL,aB.a3B]
theorem bH8:∀ {l:List aB} {b:Nat},(∀ x∈l,x.d<=b)->aB.dL l<=b
 | [],b,_=>fE _
 |x::l,b,h=>by
  have h1:=h x (.head _)
  have h2:=bH8 (l:=l) λy hy=>h y (.tail _ hy)
  rw[aB.dL];omega
theorem bH9 {nm:Nat->List UInt8} {p:aC} (hp:p.ok) (hn:∀ g,g<16->(nm g).length<=40):(xR nm p).s<=4194304:=by
 have hl:=hp.1
 have hF:∀ (k:Nat) (f:aU),p.aD[k]?=some f->f.e8.length<=40/\ndL f.aN<=400/\aB.dL f.aN<=60:=λk f hk=>by
  obtain⟨h1,h2,h3,h4,h5,h6⟩:=hp.2 k f hk
  rw[a47]at h5
  refine⟨?_,by omega,bH8 λx hx=>by have:=(h6 x hx).2.2.2.1;omega⟩
  unfold aGO at h1
  omega
 have h1:(p.aD.map aU.s).sum<=p.aD.length*440:=aXK _ _ _ λf hf=>by
  obtain⟨k,hk,rfl⟩:=aD8.1 hf
  obtain⟨a,b,_⟩:=hF k _ (cM hk)
  rw[aU.u9,a47];omega
 have h2:((p.aD.mapIdx (vG nm p)).map aU.s).sum<=(p.aD.mapIdx (vG nm p)).length*216840:=aXK _ _ _ λf hf=>by
  obtain⟨k,hk,rfl⟩:=aD8.1 hf
  rw[aYZ]at hk
  obtain⟨a,b,c⟩:=hF k _ (cM hk)
  rw[bDM,aU.u9,a47,vG,aXJ,←aKJ,←aWM]
  have hnk:=hn k aA
  generalize p.aD[k]=G at *
  have e1:=a1P G.aN (vR G.aT.toNat) (2*G.aT)
  have e2:=aRR (a9J (oN p) p.aD.length G.aN (vR G.aT.toNat) (sR G.aT.toNat) (2*G.aT)) b c
  simp only
  omega
 rw[aYZ]at h2
 rw[aC.u9,xR,l8,kS,List.sum_append,mV,aYZ]
 have h3:p.aD.length*440<=16*440:=aYQ _ aA
 have h4:p.aD.length*216840<=16*216840:=aYQ _ aA
 omega
def b2Y (p:aC) (ns ng np:Nat) (c:List Int) (pl:Bool) (vars:Int) (dp:Nat) (B:aE) (R:Nat->Nat->Int->Prop):aH->aE->Prop:=λr h' =>
 ∃ (x:aB) (e:List OV) (g':aE) (a':Nat) (sd' L':Int),x.o e/\r=.agg (e.map OV.val)/\gB B (OV.cJ e) g'/\(g' ns=none/\g' ng=none)/\h'=aR (aR g' ns (nF c a' sd')) ng (nA ns np L' pl) /\
  x.ok p p.aD.length vars/\x.d<=dp+1/\R x.s a' L'
def bNF (p:aC) (ns ng np:Nat) (c:List Int) (pl:Bool) (vars:Int) (dp a:Nat) (L:Int) (B:aE):aH->aE->Prop :=
 b2Y p ns ng np c pl vars dp B λs a' L'=>(L'<=L-1/\L-(s+1)<=L'/\s+3*mL L'<=3*mL L)/\(a<=a'/\a'<=a+14*(s+1))
def bIA (p:aC) (ns ng np:Nat) (c:List Int) (pl:Bool) (vars:Int) (dp a:Nat) (L:Int) (B:aE):aH->aE->Prop :=
 b2Y p ns ng np c pl vars dp B λs a' L'=>(L'<=L/\L-s<=L'/\s+3*mL L'<=3*mL L+3)/\(a<=a'/\a'<=a+10+14*s)
def bIB (dp a:Nat) (vars L:Int):Prop:=(0<=vars/\vars+dp<=1000)/\a+42*mL L+100*dp<=800000000/\(-2000000+10000*(dp:Int)<=L/\L<=1000)
def bIC (P:Program) (f:FuncId) (p:aC) (ns ng np:Nat) (c:List Int) (pl:Bool) (dp:Nat):Prop:=∀ (vars:Int) (B:aE) (a:Nat) (sd L:Int),B ns=none->B ng=none->aFC p np B->bIB dp a vars L ->
 jC P f [.op ng 4 0 0,I vars,I p.aD.length,I dp] (aR (aR B ns (nF c a sd)) ng (nA ns np L pl)) (bNF p ns ng np c pl vars dp a L B)
def bRF (P:Program) (f:FuncId) (p:aC) (ns ng np:Nat) (c:List Int) (pl:Bool) (dp:Nat):Prop:=∀ (vars:Int) (B:aE) (a:Nat) (sd L:Int),B ns=none->B ng=none->aFC p np B->(0<=vars/\vars+dp<=1000)->a+42*mL L+42+100*dp<=800000050->(-2000000+10000*(dp:Int)<=L/\L<=1000/\1<=L) ->
 jC P f [.op ng 4 0 0,I vars,I p.aD.length,I dp] (aR (aR B ns (nF c a sd)) ng (nA ns np L pl)) (bIA p ns ng np c pl vars dp a L B)
def aKW (p:aC):Prop:=∀ f∈p.aD,(1<=f.aT/\f.aT<=3)/\(1<=f.aN.length/\f.aN.length<=3)
theorem a9K {p:aC} {k n vars:Int} (h:(k=1/\oU n)∨(k=2/\0<=n/\n<vars)):(aB.mk k n 0 0 []).ok p p.aD.length vars:=by
 refine(aB.cN _ _ _ _).2 ⟨?_,λj hj=>by simp[aB.aL]at hj⟩
 rw[dA bD0]
 simp only[aB.aP,aB.aW,aB.bR,aB.bI,aB.aL,al3]
 rcases h with⟨rfl,h⟩|⟨rfl,h⟩
 ·exact⟨rfl,trivial,trivial,λ_=>h,λq=>by omega,λq=>absurd rfl q⟩
 ·exact⟨rfl,trivial,trivial,λq=>by omega,λ_=>by omega,λ_ q=>absurd rfl q⟩
theorem bID (k n:Int):(aB.mk k n 0 0 []).d=1:=by rw[aB.bE6];rfl
theorem aXL (k n:Int):(aB.mk k n 0 0 []).s=0:=by rw[bFA];rfl
theorem aRS {p:aC} {ns ng np:Nat} {c:List Int} {pl:Bool} {vars:Int} {dp a:Nat} {L:Int} {B H:aE} {k n:Int} {a':Nat} {sd':Int} (h:(k=1/\oU n)∨(k=2/\0<=n/\n<vars)) (hB1:B ns=none) (hB2:B ng=none) (ha:a<=a'/\a'<=a+14) (hle:(aR (aR B ns (nF c a' sd')) ng (nA ns np (L-1) pl)).le H) :
  ∃ r1 g2,Shift (.agg [I k,I n,I 0,I 0,.bD]) H r1 g2/\bNF p ns ng np c pl vars dp a L B r1 g2:=by
 refine⟨_,_,Shift.of (a0I k n) hle,_,_,B,a',sd',L-1,bFB k n,rfl,by rw[aTZ];exact gB.nil B,⟨hB1,hB2⟩,rfl,a9K h,by rw[bID];omega,?_,by rw[aXL];omega⟩
 rw[aXL]
 unfold mL
 omega
theorem bIE {p:aC} {ns ng np:Nat} {c:List Int} {pl:Bool} {vars:Int} {dp a:Nat} {L:Int} {B g' H:aE} {x:aB} {e:List OV} {a':Nat} {sd' L':Int} (hx:x.o e) (w:gB B (OV.cJ e) g') (z:g' ns=none/\g' ng=none) (hok:x.ok p p.aD.length vars) (hd:x.d<=dp+1)
  (hL:L'<=L-1/\(L-1)-x.s<=L'/\x.s+3*mL L'<=3*mL (L-1)+3) (ha:a<=a'/\a'<=a+14*(x.s+1)) (h1:¬L-1<1) (hle:(aR (aR g' ns (nF c a' sd')) ng (nA ns np L' pl)).le H) :
  ∃ r1 g2,Shift (.agg (e.map OV.val)) H r1 g2/\bNF p ns ng np c pl vars dp a L B r1 g2 :=
 ⟨_,_,Shift.of (Sub.refl _) hle,x,e,g',a',sd',L',hx,rfl,w,z,rfl,hok,hd,⟨by omega,by omega,by unfold mL at hL ⊢;omega⟩,ha⟩
abbrev GSt:=Int×Nat×List aB×List (List OV)×aE×Option Nat×Nat×Int×Int
def aFK (p:aC) (vars:Int) (dp a2:Nat) (L:Int) (B:aE) (ns ng n8 n9:Nat):GSt->Prop:=λ(K,i,kids,es,g1,o,a3,_,L3) =>
 (3<=K/\K<=9)/\i<=(dD K).toNat/\kids.length=i/\OR aB.o kids es/\gB B (OV.bF es) g1/\(g1 ns=none/\g1 ng=none/\g1 n8=none/\g1 n9=none)/\yJ g1 es o/\(∀ m,o=some m->¬m=ns/\¬m=ng/\¬m=n8/\¬m=n9) /\
  (∀ (j:Nat) (h:j<kids.length),kids[j].ok p p.aD.length (jV K j vars))/\aB.dL kids<=dp/\(L3<=L-1/\(L-1)-uW aB.s kids<=L3/\uW aB.s kids+3*mL L3<=3*mL (L-1)+i)/\(a2<=a3/\a3<=a2+14*uW aB.s kids)
theorem aXM (x:aB):∀ l:List aB,aB.dL (l++[x])=max (aB.dL l) x.d
 | []=>by simp[aB.dL]
 |y::l=>by rw[aU8,aB.dL,aB.dL,aXM x l];omega
theorem aFK.next {p:aC} {vars:Int} {dp a2:Nat} {L:Int} {B:aE} {ns ng n8 n9:Nat} {K:Int} {i:Nat} {kids:List aB} {es:List (List OV)} {g1 g5:aE} {o:Option Nat} {a3 a5:Nat} {sd3 sd5 L3 L5:Int} {x:aB} {e:List OV} {m:Nat}
  (h:aFK p vars dp a2 L B ns ng n8 n9 (K,i,kids,es,g1,o,a3,sd3,L3)) (hlt:(i:Int)<dD K) (hx:x.o e) (w:gB g1 (OV.cJ e) g5) (z:g5 ns=none/\g5 ng=none/\g5 n8=none/\g5 n9=none) (hm:g5 m=none) (hm2:¬m=ns/\¬m=ng/\¬m=n8/\¬m=n9)
  (hok:x.ok p p.aD.length (jV K i vars)) (hd:x.d<=dp) (hL:L5<=L3-1/\L3-(x.s+1)<=L5/\x.s+3*mL L5<=3*mL L3) (ha:a3<=a5/\a5<=a3+14*(x.s+1)):aFK p vars dp a2 L B ns ng n8 n9 (K,i+1,kids++[x],es++[e],g5,some m,a5,sd5,L5):=by
 obtain⟨hK,hi,hlen,hor,hnew,-,-,-,bVM,hdl,hL3,ha3⟩:=h
 refine⟨hK,by omega,by rw[mV,hlen];rfl,OR.append hor ⟨hx,trivial⟩,gB.snoc hnew w,z,hm,λb q=>by cases q;exact hm2,λj hj=>?_,by rw[aXM];omega,?_,?_⟩
 ·rcases bZ j kids.length with h2|h2
  ·rw[a6C h2];exact bVM j h2
  ·obtain rfl:j=kids.length:=by rw[mV]at hj;simp at hj;omega
   rw[a6D (iH _)]
   simp only[wI,List.getElem_cons_zero]
   rw[hlen];exact hok
 ·rw[aJ1];refine⟨by omega,by omega,by omega⟩
 ·rw[aJ1];omega
theorem bIF {p:aC} {ns ng np:Nat} {c:List Int} {pl:Bool} {vars:Int} {dp a a2:Nat} {L:Int} {B H:aE} {n8 n9:Nat} {K:Int} {i:Nat} {kids:List aB} {es:List (List OV)} {g1:aE} {o:Option Nat} {a3:Nat} {sd3 L3:Int}
  (h:aFK p vars dp a2 L B ns ng n8 n9 (K,i,kids,es,g1,o,a3,sd3,L3)) (hi:(i:Int)=dD K) (ha:a<=a2/\a2<=a+4) (h1:¬L-1<1) (hle:(aR (aR (bY g1 (.row 5 (OV.cells es)) o) ns (nF c a3 sd3)) ng (nA ns np L3 pl)).le H) :
  ∃ r1 g2,Shift (.agg [I K,I 0,I 0,I 0,gW 5 i o]) H r1 g2/\bNF p ns ng np c pl vars dp a L B r1 g2:=by
 obtain⟨hK,-,hlen,hor,hnew,⟨zs,zg,-,-⟩,hgs,hon,hok,hdl,hL,ha3⟩:=h
 have hes:es.length=i:=by rw[←hor.length];exact hlen
 have hk3:i<=3:=by
  have:dD K<=3:=by unfold dD;split <;> (try split) <;> (try split) <;> (try split) <;> omega
  omega
 rw[←hes]
 have hat:∀ q,B q=B q:=λ_=>rfl
 have z (q:Nat) (hq:g1 q=none) (hqo:∀ m,o=some m->¬m=q):bY g1 (.row 5 (OV.cells es)) o q=none:=fU hq hqo
 refine⟨_,_,Shift.of (Sub.agg (.cons (.refl _) (.cons (.refl _) (.cons (.refl _) (.cons (.refl _) (.cons aFT .nil)))))) hle,.mk K 0 0 0 kids,[.v (I K),.v (I 0),.v (I 0),.v (I 0),gov 5 es o],_,a3,sd3,L3,(aB.pM _ _).2 ⟨_,rfl,aCL hor hgs⟩,rfl,
  by simpa only[OV.fC,OV.gZ,OV.sZ,lW,dT]using xK hnew hgs,⟨z ns zs λm e=>(hon m e).1,z ng zg λm e=>(hon m e).2.1⟩,rfl,(aB.cN _ _ _ _).2 ⟨?_,hok⟩,by rw[aB.bE6];simp only[aB.aL];omega,?_,?_⟩
 ·rw[dA bD0]
  simp only[aB.aP,aB.aW,aB.bR,aB.bI,aB.aL]
  refine⟨by omega,trivial,trivial,λq=>by omega,λq=>by omega,λ_ _=>trivial⟩
 ·rw[bFA];unfold mL at hL ⊢;refine⟨by omega,by omega,by omega⟩
 ·rw[bFA];omega
theorem share {T G:Prop} (m:T->G) (t:T):G:=m t
@[go_sem] def aFL:List Nat:=[0,1,2,3,8,9,10,11,34,43,49,52,55,58,61,65,68,86,92,102]
@[go_sem] def a1Q:List Nat:=[113]
@[go_sem] def a1R:Marks:=λid=>match id with|32=>([1,7,9,11],(.op 0 (.op 2 (.op 3 (.op 4 (.op 5 (.op 6 (.op 1 (.op 7 (.op 8 (.op 9 (.op 10 (.op 11 .nil)))))))))))),[(1,7)])|_=>([],.nil,[])
set_option maxHeartbeats 8000000 in
theorem aRT {p:aC} {ns ng np:Nat} {c:List Int} {pl:Bool} (hc:∀ x∈c,InB x) (hl:c.length<=4096) (hne:¬ns=ng) (hP:aKW p) {dp:Nat} (ih:∀ d,d+1=dp->bIC Tryz.prog 34 p ns ng np c pl d) (hcall:1<=dp->bRF Tryz.prog 87 p ns ng np c pl dp):bIC Tryz.prog 34 p ns ng np c pl dp:=by
 intro vars B a sd L hB1 hB2 hprog ⟨hv,ha,hL⟩
 obtain⟨zI,bK,bL,lO⟩:=bB (show ¬ns=ng from hne)
 have w1:IntKind.i64.wrap (L-1)=L-1:=IntWalk.i64_in _ aA
 refine lU 117 aFL a1Q a1R Tryz.func34 ?_
 simp -dsimp -implicitDefEqProofs only[go_sem,↓reduceIte,Tryz.f34,nA]
 intro n8 q8
 have a8:¬n8=ng:=by grind
 have b8:¬n8=ns:=by grind
 have z8:B n8=none:=by grind
 obtain⟨bNG,cR,cS,uA⟩:=bB (show ¬n8=ng from a8)
 obtain⟨a9L,bT,bU,oZ⟩:=bB (show ¬n8=ns from b8)
 simp -dsimp -implicitDefEqProofs only[go_sem,↓reduceIte,Tryz.f34,cR,bT,cS,bL,bU,bK,aI,aG,nA,dZ,eC,eE,eF,eH,lW,dT,iI,w1,cH uA,cH oZ,aO]
 rw[show(bE.row 4 [[.v (.op ns 3 0 0),.v (.op np 1 0 0),.v (.int .i64 (L-1)),.v (.bool pl)]])=nA ns np (L-1) pl from rfl]
 refine⟨λh1=>⟨λh2=>?_,λh2=>?_⟩,λh1=>?_⟩
 ·refine aJ.gS (bB0 (a:=a) (sd:=sd) hc hl aA 5 aA aTE) ?_
  rintro r_ h' ⟨b,a1,sd1,rfl,ha1,rfl⟩
  simp only[cH lO,aO]
  cases b
  ·simp -dsimp -implicitDefEqProofs only[go_sem,↓reduceIte,Tryz.f34,cR,bT,cS,bL,bU,bK,aI,aG,dZ,eC,eE,eF,eH,lW,dT,iI]
   intro n9 q9
   have a9:¬n9=ng:=by grind
   have b9:¬n9=ns:=by grind
   have c9:¬n9=n8:=by grind
   have z9:B n9=none:=by grind
   obtain⟨bNH,dG,dH,tZ⟩:=bB (show ¬n9=ng from a9)
   obtain⟨a9M,cA,cB,oY⟩:=bB (show ¬n9=ns from b9)
   obtain⟨aFU,cC,cD,a9N⟩:=bB (show ¬n9=n8 from c9)
   simp -dsimp -implicitDefEqProofs only[go_sem,↓reduceIte,Tryz.f34,cR,bT,cD,cS,bL,dH,bU,bK,cB,cC,dG,cA,aI,aG,nA,dZ,eC,eE,eF,eH,lW,dT,iI,cH tZ,cH oY,aO]
   refine aJ.gS (wB (a:=a1) (sd:=sd1) hc hl aA 12 aA aTE) ?_
   rintro r_ h' ⟨x,a2,sd2,rfl,x0,x1,-,ha2,rfl⟩
   simp only[cH lO,aO]
   simp -dsimp -implicitDefEqProofs only[go_sem,↓reduceIte,Tryz.f34,cR,bT,cD,cS,bL,dH,bU,bK,cB,cC,dG,cA,aI,aG,dZ,eC,eE,eF,eH,lW,dT,iI,cH tZ,cH oY,aO]
   apply share
   case m =>
    intro key
    repeat'(with_reducible first|intro _|refine And.intro ?_ ?_)
    all_goals try
     first
     |skip
      refine cZ aFL a1Q a1R (λx:GSt=>[(0,.op ng 4 0 0),(1,I vars),(2,I p.aD.length),(3,I dp),(8,.op n8 5 0 0),(9,.op n9 5 0 0),(10,I x.2.1)]) (λx=>aR (aR (aR (aR (bY x.2.2.2.2.1 (.row 5 (OV.cells x.2.2.2.1)) x.2.2.2.2.2.1) n8 (zG 0 0 0 0 .bD)) n9 (zG x.1 0 0 0 (gW 5 x.2.1 x.2.2.2.2.2.1))) ns (nF c x.2.2.2.2.2.2.1 x.2.2.2.2.2.2.2.1)) ng (nA ns np x.2.2.2.2.2.2.2.2 pl)) (λx=>aFK p vars dp a2 L B ns ng n8 n9 x) (λx=>(dD x.1).toNat-x.2.1) (7,0,[],[],B,none,a2,sd2,L-1) ⟨by simp[c4,b7],aE.le_refl _,by decide,by decide,rfl,trivial,gB.nil B,⟨hB1,hB2,z8,z9⟩,rfl,(λm e=>by cases e),(λj h=>by cases h),fE _,⟨aLJ _,by simp[uW],by simp[uW]⟩,by simp[uW]⟩ ?_
      exact key
     |skip
      refine cZ aFL a1Q a1R (λx:GSt=>[(0,.op ng 4 0 0),(1,I vars),(2,I p.aD.length),(3,I dp),(8,.op n8 5 0 0),(9,.op n9 5 0 0),(10,I x.2.1)]) (λx=>aR (aR (aR (aR (bY x.2.2.2.2.1 (.row 5 (OV.cells x.2.2.2.1)) x.2.2.2.2.2.1) n8 (zG 0 0 0 0 .bD)) n9 (zG x.1 0 0 0 (gW 5 x.2.1 x.2.2.2.2.2.1))) ns (nF c x.2.2.2.2.2.2.1 x.2.2.2.2.2.2.2.1)) ng (nA ns np x.2.2.2.2.2.2.2.2 pl)) (λx=>aFK p vars dp a2 L B ns ng n8 n9 x) (λx=>(dD x.1).toNat-x.2.1) (9,0,[],[],B,none,a2,sd2,L-1) ⟨by simp[c4,b7],aE.le_refl _,by decide,by decide,rfl,trivial,gB.nil B,⟨hB1,hB2,z8,z9⟩,rfl,(λm e=>by cases e),(λj h=>by cases h),fE _,⟨aLJ _,by simp[uW],by simp[uW]⟩,by simp[uW]⟩ ?_
      exact key
     |skip
      refine cZ aFL a1Q a1R (λx:GSt=>[(0,.op ng 4 0 0),(1,I vars),(2,I p.aD.length),(3,I dp),(8,.op n8 5 0 0),(9,.op n9 5 0 0),(10,I x.2.1)]) (λx=>aR (aR (aR (aR (bY x.2.2.2.2.1 (.row 5 (OV.cells x.2.2.2.1)) x.2.2.2.2.2.1) n8 (zG 0 0 0 0 .bD)) n9 (zG x.1 0 0 0 (gW 5 x.2.1 x.2.2.2.2.2.1))) ns (nF c x.2.2.2.2.2.2.1 x.2.2.2.2.2.2.2.1)) ng (nA ns np x.2.2.2.2.2.2.2.2 pl)) (λx=>aFK p vars dp a2 L B ns ng n8 n9 x) (λx=>(dD x.1).toNat-x.2.1) (8,0,[],[],B,none,a2,sd2,L-1) ⟨by simp[c4,b7],aE.le_refl _,by decide,by decide,rfl,trivial,gB.nil B,⟨hB1,hB2,z8,z9⟩,rfl,(λm e=>by cases e),(λj h=>by cases h),fE _,⟨aLJ _,by simp[uW],by simp[uW]⟩,by simp[uW]⟩ ?_
      exact key
     |skip
      refine cZ aFL a1Q a1R (λx:GSt=>[(0,.op ng 4 0 0),(1,I vars),(2,I p.aD.length),(3,I dp),(8,.op n8 5 0 0),(9,.op n9 5 0 0),(10,I x.2.1)]) (λx=>aR (aR (aR (aR (bY x.2.2.2.2.1 (.row 5 (OV.cells x.2.2.2.1)) x.2.2.2.2.2.1) n8 (zG 0 0 0 0 .bD)) n9 (zG x.1 0 0 0 (gW 5 x.2.1 x.2.2.2.2.2.1))) ns (nF c x.2.2.2.2.2.2.1 x.2.2.2.2.2.2.2.1)) ng (nA ns np x.2.2.2.2.2.2.2.2 pl)) (λx=>aFK p vars dp a2 L B ns ng n8 n9 x) (λx=>(dD x.1).toNat-x.2.1) (6,0,[],[],B,none,a2,sd2,L-1) ⟨by simp[c4,b7],aE.le_refl _,by decide,by decide,rfl,trivial,gB.nil B,⟨hB1,hB2,z8,z9⟩,rfl,(λm e=>by cases e),(λj h=>by cases h),fE _,⟨aLJ _,by simp[uW],by simp[uW]⟩,by simp[uW]⟩ ?_
      exact key
     |skip
      refine cZ aFL a1Q a1R (λx:GSt=>[(0,.op ng 4 0 0),(1,I vars),(2,I p.aD.length),(3,I dp),(8,.op n8 5 0 0),(9,.op n9 5 0 0),(10,I x.2.1)]) (λx=>aR (aR (aR (aR (bY x.2.2.2.2.1 (.row 5 (OV.cells x.2.2.2.1)) x.2.2.2.2.2.1) n8 (zG 0 0 0 0 .bD)) n9 (zG x.1 0 0 0 (gW 5 x.2.1 x.2.2.2.2.2.1))) ns (nF c x.2.2.2.2.2.2.1 x.2.2.2.2.2.2.2.1)) ng (nA ns np x.2.2.2.2.2.2.2.2 pl)) (λx=>aFK p vars dp a2 L B ns ng n8 n9 x) (λx=>(dD x.1).toNat-x.2.1) (3,0,[],[],B,none,a2,sd2,L-1) ⟨by simp[c4,b7],aE.le_refl _,by decide,by decide,rfl,trivial,gB.nil B,⟨hB1,hB2,z8,z9⟩,rfl,(λm e=>by cases e),(λj h=>by cases h),fE _,⟨aLJ _,by simp[uW],by simp[uW]⟩,by simp[uW]⟩ ?_
      exact key
     |skip
      refine cZ aFL a1Q a1R (λx:GSt=>[(0,.op ng 4 0 0),(1,I vars),(2,I p.aD.length),(3,I dp),(8,.op n8 5 0 0),(9,.op n9 5 0 0),(10,I x.2.1)]) (λx=>aR (aR (aR (aR (bY x.2.2.2.2.1 (.row 5 (OV.cells x.2.2.2.1)) x.2.2.2.2.2.1) n8 (zG 0 0 0 0 .bD)) n9 (zG x.1 0 0 0 (gW 5 x.2.1 x.2.2.2.2.2.1))) ns (nF c x.2.2.2.2.2.2.1 x.2.2.2.2.2.2.2.1)) ng (nA ns np x.2.2.2.2.2.2.2.2 pl)) (λx=>aFK p vars dp a2 L B ns ng n8 n9 x) (λx=>(dD x.1).toNat-x.2.1) (4,0,[],[],B,none,a2,sd2,L-1) ⟨by simp[c4,b7],aE.le_refl _,by decide,by decide,rfl,trivial,gB.nil B,⟨hB1,hB2,z8,z9⟩,rfl,(λm e=>by cases e),(λj h=>by cases h),fE _,⟨aLJ _,by simp[uW],by simp[uW]⟩,by simp[uW]⟩ ?_
      exact key
     |skip
      refine cZ aFL a1Q a1R (λx:GSt=>[(0,.op ng 4 0 0),(1,I vars),(2,I p.aD.length),(3,I dp),(8,.op n8 5 0 0),(9,.op n9 5 0 0),(10,I x.2.1)]) (λx=>aR (aR (aR (aR (bY x.2.2.2.2.1 (.row 5 (OV.cells x.2.2.2.1)) x.2.2.2.2.2.1) n8 (zG 0 0 0 0 .bD)) n9 (zG x.1 0 0 0 (gW 5 x.2.1 x.2.2.2.2.2.1))) ns (nF c x.2.2.2.2.2.2.1 x.2.2.2.2.2.2.2.1)) ng (nA ns np x.2.2.2.2.2.2.2.2 pl)) (λx=>aFK p vars dp a2 L B ns ng n8 n9 x) (λx=>(dD x.1).toNat-x.2.1) (5,0,[],[],B,none,a2,sd2,L-1) ⟨by simp[c4,b7],aE.le_refl _,by decide,by decide,rfl,trivial,gB.nil B,⟨hB1,hB2,z8,z9⟩,rfl,(λm e=>by cases e),(λj h=>by cases h),fE _,⟨aLJ _,by simp[uW],by simp[uW]⟩,by simp[uW]⟩ ?_
      exact key
    all_goals
     rw[show ∀ H:aE,aR H ng (bE.row 4 [[Cell.v (aH.op ns 3 0 0),Cell.v (aH.op np 1 0 0),Cell.v (I (L-1)),Cell.v (aH.bool pl)]])=aR H ng (nA ns np (L-1) pl)from λ_=>rfl]
     refine aJ.gS (hcall aA vars _ a2 sd2 (L-1) (by rw[aI _ _ _ _ oY,aI _ _ _ _ oZ];exact hB1) (by rw[aI _ _ _ _ tZ,aI _ _ _ _ uA];exact hB2) (hprog.le (aE.bP z9 (aE.bP z8 (aE.le_refl _)))) ⟨by omega,by omega⟩ (by unfold mL at ha ⊢;omega) ⟨by omega,by omega,by omega⟩) ?_
     rintro r_ h' ⟨x,e,g',a',sd',L',hx,rfl,hnew,⟨y1,y2⟩,rfl,hok,hd,hL',ha'⟩
     obtain⟨g5,rfl,w5,z58,z59⟩:=gB.aHN z8 (by rw[aI _ _ _ _ aFU];exact z9) hnew
     simp only[aG,cR,bT,cD,cS,bL,dH,bU,bK,cB,cC,dG,cA,if_false]at y1 y2 z59
     rw[aB.pM]at hx
     obtain⟨y4,rfl,os4⟩:=hx
     simp -dsimp -implicitDefEqProofs only[go_sem,↓reduceIte,Tryz.f34,cR,bT,cD,cS,bL,dH,bU,bK,cB,cC,dG,cA,aI,aG,OV.dY,OV.bS,OV.jB,os4.flat,os4.one]
     exact bIE (x:=x) (a':=a') (sd':=sd') (L':=L') ((aB.pM _ _).2 ⟨y4,rfl,os4⟩) w5 ⟨y1,y2⟩ hok hd hL' aA h1 (by
      intro q_
      simp only[aG]
      grind)
   case t =>
    rintro⟨K,i,kids,es,g1,o,a3,sd3,L3⟩ hgg
    obtain⟨hK,hi,hlen,hor,hnew,⟨zs,zg,z18,z19⟩,hgs,hon,hok,hdl,hL3,ha3⟩:=id hgg
    simp only at hi hlen hor hnew zs zg z18 z19 hgs hon hok hdl hL3 ha3 hK ⊢
    have hkn:0<=dD K/\dD K<=3:=by unfold dD;split <;> (try split) <;> (try split) <;> (try split) <;> omega
    have wd:IntKind.i64.wrap ((dp:Int)-1)=((dp-1:Nat):Int):=by rw[IntWalk.i64_in _ aA];omega
    have hml:3*mL (L-1)+3=3*mL L:=by unfold mL;omega
    have bKH:mL L<=1000:=by unfold mL;omega
    have wv:IntKind.i64.wrap (vars+1)=vars+1:=IntWalk.i64_in _ aA
    unfold zG
    simp -dsimp -implicitDefEqProofs only[go_sem,↓reduceIte,Tryz.f34,cR,bT,cD,cS,bL,dH,bU,bK,cB,cC,dG,cA,aI,aG,dZ,eC,eE,eF,eH,lW,dT,iI]
    first|refine aJ.mk ((zU K)) ?_|refine aF.mk ((zU K)) ?_|refine aJ.bA ((zU K)) ?_|refine aF.mk (aX.cU ((zU K))) ?_
    simp -dsimp -implicitDefEqProofs only[go_sem,↓reduceIte,Tryz.f34,cR,bT,cD,cS,bL,dH,bU,bK,cB,cC,dG,cA,aI,aG,dZ,eC,eE,eF,eH,lW,dT,iI,wd,wv]
    refine⟨λhlt=>⟨λk9=>⟨λi1=>?_,λi1=>?_⟩,λk9=>?_⟩,λhge=>⟨kH ..,?_⟩⟩
    ·have hV:vars+1=jV K i vars:=by unfold jV;rw[if_pos ⟨k9,by omega⟩]
     cases o with
     |none =>
      rw[kD]at hgs
      subst hgs
      obtain rfl:kids=[]:=aNI.1 hor.length
      obtain rfl:i=0:=hlen.symm
      simp only[aQ,b5]
      refine aJ.gS (ih (dp-1) aA (vars+1) _ a3 sd3 L3 a6J a6L (hprog.le (aE.bP z9 (aE.bP z8 hnew.le))) ⟨by omega,by omega,by omega⟩) ?_
      rintro r_ h' ⟨x5,e5,g',a5,sd5,L5,hx,rfl,hnw,⟨y1,y2⟩,rfl,aOZ,hd5,hL5,ha5⟩
      obtain⟨g5,rfl,w5,z58,z59⟩:=gB.aHN z18 a6U hnw
      simp only[aG,cR,bT,cD,cS,bL,dH,bU,bK,cB,cC,dG,cA,if_false]at y1 y2 z59
      have hx5:=hx
      rw[aB.pM]at hx
      obtain⟨y4,rfl,os4⟩:=hx
      simp -dsimp -implicitDefEqProofs only[go_sem,↓reduceIte,Tryz.f34,cR,bT,cD,cS,bL,dH,bU,bK,cB,cC,dG,cA,aI,aG,dZ,eC,eE,eF,eH,lW,dT,iI,OV.dY,OV.bS,OV.jB,os4.flat,os4.one]
      have ht:=fF []
      refine⟨by decide,by decide,by decide,λm qm=>?_⟩
      have am:¬m=ns:=by grind
      have bm:¬m=ng:=by grind
      have cm:¬m=n8:=by grind
      have em:¬m=n9:=by grind
      have dm:g5 m=none:=by grind
      skip
      obtain⟨pG,fX,fY,tC⟩:=bB (show ¬m=ns from am)
      obtain⟨yX,kN,kO,yY⟩:=bB (show ¬m=ng from bm)
      obtain⟨yZ,iA,hU,y5⟩:=bB (show ¬m=n8 from cm)
      obtain⟨aDC,mC,mD,aDD⟩:=bB (show ¬m=n9 from em)
      simp -dsimp -implicitDefEqProofs only[go_sem,↓reduceIte,Tryz.f34,cR,bT,cD,hU,cS,bL,dH,kO,bU,bK,cB,fY,cC,dG,cA,mD,iA,kN,fX,mC,aI,aG,dZ,eC,eE,eF,eH,lW,dT,iI]
      refine⟨(K,0+1,[]++[x5],[]++[[.v (.int .i64 x5.aP),.v (.int .i64 x5.aW),.v (.int .i64 x5.bR),.v (.int .i64 x5.bI),y4]],g5,some m,a5,sd5,L5),IntWalk.i64_in _ aA,?_,hgg.next hlt hx5 w5 ⟨y1,y2,z58,z59⟩ dm ⟨am,bm,cm,em⟩ aMR aA hL5 ha5,by simp only;omega⟩
      intro q_
      simp only[aG,aK,aY,jW,fF,cW,lK,mT,OV.dY,OV.bS,OV.jB,lW,nZ,sX,ht]
      grind
     |some m0 =>
      rw[jX]at hgs
      obtain⟨hm1,hm2,hm3,hm4⟩:=hon m0 rfl
      obtain⟨aC6,iX,iY,aB5⟩:=bB (show ¬m0=ns from hm1)
      obtain⟨aXN,pH,pI,aNT⟩:=bB (show ¬m0=ng from hm2)
      obtain⟨aOI,mE,mG,aI5⟩:=bB (show ¬m0=n8 from hm3)
      obtain⟨aOJ,mH,mI,aI3⟩:=bB (show ¬m0=n9 from hm4)
      have hBm:B m0=none:=by
       cases hb:B m0 with
       |none=>rfl
       |some v=>have:=hnew.keep hb;rw[hgs]at this;cases this
      simp only[aK,aY]
      refine aJ.gS (ih (dp-1) aA (vars+1) _ a3 sd3 L3 a6F a6G (hprog.le (aE.bP z9 (aE.bP z8 (aE.bP hBm hnew.le)))) ⟨by omega,by omega,by omega⟩) ?_
      rintro r_ h' ⟨x5,e5,g',a5,sd5,L5,hx,rfl,hnw,⟨y1,y2⟩,rfl,aOZ,hd5,hL5,ha5⟩
      obtain⟨g5,rfl,w5,z50,z58,z59⟩:=gB.aVY hgs a6V a6I hnw
      simp only[aG,cR,bT,cD,mG,cS,bL,dH,pI,bU,bK,cB,iY,cC,dG,cA,mI,mE,pH,iX,mH,if_false]at y1 y2 z58 z59
      have hx5:=hx
      rw[aB.pM]at hx
      obtain⟨y4,rfl,os4⟩:=hx
      simp -dsimp -implicitDefEqProofs only[go_sem,↓reduceIte,Tryz.f34,cR,bT,cD,mG,cS,bL,dH,pI,bU,bK,cB,iY,cC,dG,cA,mI,mE,pH,iX,mH,aI,aG,dZ,eC,eE,eF,eH,lW,dT,iI,OV.dY,OV.bS,OV.jB,os4.flat,os4.one,cW]
      have ht:List.take i (OV.cells es)=OV.cells es:=pQ aY5
      refine⟨by decide,by decide,by decide,by have:=hor.length;omega,by omega,by omega,λm qm=>?_⟩
      have am:¬m=ns:=by grind
      have bm:¬m=ng:=by grind
      have cm:¬m=n8:=by grind
      have em:¬m=n9:=by grind
      have dm:g5 m=none:=by grind
      have fm:¬m=m0:=(by grind);have uM:=eq_false fm;have uN:=eq_false (l5 fm);have aRU:=fm;have aRV:=l5 fm
      obtain⟨pG,fX,fY,tC⟩:=bB (show ¬m=ns from am)
      obtain⟨yX,kN,kO,yY⟩:=bB (show ¬m=ng from bm)
      obtain⟨yZ,iA,hU,y5⟩:=bB (show ¬m=n8 from cm)
      obtain⟨aDC,mC,mD,aDD⟩:=bB (show ¬m=n9 from em)
      simp -dsimp -implicitDefEqProofs only[go_sem,↓reduceIte,Tryz.f34,cR,bT,cD,hU,cS,bL,dH,kO,bU,bK,cB,fY,cC,dG,cA,mD,iA,kN,fX,mC,uM,iA,mC,kN,fX,uN,mE,mH,pH,iX,hU,mG,cD,cR,bT,mD,mI,cC,dG,cA,kO,pI,cS,dH,bL,fY,iY,bU,cB,bK,aI,aG,dZ,eC,eE,eF,eH,lW,dT,iI]
      refine⟨(K,i+1,kids++[x5],es++[[.v (.int .i64 x5.aP),.v (.int .i64 x5.aW),.v (.int .i64 x5.bR),.v (.int .i64 x5.bI),y4]],g5,some m,a5,sd5,L5),IntWalk.i64_in _ aA,?_,hgg.next hlt hx5 w5 ⟨y1,y2,z58,z59⟩ dm ⟨am,bm,cm,em⟩ aMR aA hL5 ha5,by simp only;omega⟩
      intro q_
      simp only[aG,aK,aY,jW,fF,cW,lK,mT,OV.dY,OV.bS,OV.jB,lW,nZ,sX,ht]
      grind
    ·have hV:vars=jV K i vars:=by unfold jV;rw[if_neg (λq=>i1 aA)]
     cases o with
     |none =>
      rw[kD]at hgs
      subst hgs
      obtain rfl:kids=[]:=aNI.1 hor.length
      obtain rfl:i=0:=hlen.symm
      simp only[aQ,b5]
      refine aJ.gS (ih (dp-1) aA vars _ a3 sd3 L3 a6J a6L (hprog.le (aE.bP z9 (aE.bP z8 hnew.le))) ⟨by omega,by omega,by omega⟩) ?_
      rintro r_ h' ⟨x5,e5,g',a5,sd5,L5,hx,rfl,hnw,⟨y1,y2⟩,rfl,aOZ,hd5,hL5,ha5⟩
      obtain⟨g5,rfl,w5,z58,z59⟩:=gB.aHN z18 a6U hnw
      simp only[aG,cR,bT,cD,cS,bL,dH,bU,bK,cB,cC,dG,cA,if_false]at y1 y2 z59
      have hx5:=hx
      rw[aB.pM]at hx
      obtain⟨y4,rfl,os4⟩:=hx
      simp -dsimp -implicitDefEqProofs only[go_sem,↓reduceIte,Tryz.f34,cR,bT,cD,cS,bL,dH,bU,bK,cB,cC,dG,cA,aI,aG,dZ,eC,eE,eF,eH,lW,dT,iI,OV.dY,OV.bS,OV.jB,os4.flat,os4.one]
      have ht:=fF []
      refine⟨by decide,by decide,by decide,λm qm=>?_⟩
      have am:¬m=ns:=by grind
      have bm:¬m=ng:=by grind
      have cm:¬m=n8:=by grind
      have em:¬m=n9:=by grind
      have dm:g5 m=none:=by grind
      skip
      obtain⟨pG,fX,fY,tC⟩:=bB (show ¬m=ns from am)
      obtain⟨yX,kN,kO,yY⟩:=bB (show ¬m=ng from bm)
      obtain⟨yZ,iA,hU,y5⟩:=bB (show ¬m=n8 from cm)
      obtain⟨aDC,mC,mD,aDD⟩:=bB (show ¬m=n9 from em)
      simp -dsimp -implicitDefEqProofs only[go_sem,↓reduceIte,Tryz.f34,cR,bT,cD,hU,cS,bL,dH,kO,bU,bK,cB,fY,cC,dG,cA,mD,iA,kN,fX,mC,aI,aG,dZ,eC,eE,eF,eH,lW,dT,iI]
      refine⟨(K,0+1,[]++[x5],[]++[[.v (.int .i64 x5.aP),.v (.int .i64 x5.aW),.v (.int .i64 x5.bR),.v (.int .i64 x5.bI),y4]],g5,some m,a5,sd5,L5),IntWalk.i64_in _ aA,?_,hgg.next hlt hx5 w5 ⟨y1,y2,z58,z59⟩ dm ⟨am,bm,cm,em⟩ aMR aA hL5 ha5,by simp only;omega⟩
      intro q_
      simp only[aG,aK,aY,jW,fF,cW,lK,mT,OV.dY,OV.bS,OV.jB,lW,nZ,sX,ht]
      grind
     |some m0 =>
      rw[jX]at hgs
      obtain⟨hm1,hm2,hm3,hm4⟩:=hon m0 rfl
      obtain⟨aC6,iX,iY,aB5⟩:=bB (show ¬m0=ns from hm1)
      obtain⟨aXN,pH,pI,aNT⟩:=bB (show ¬m0=ng from hm2)
      obtain⟨aOI,mE,mG,aI5⟩:=bB (show ¬m0=n8 from hm3)
      obtain⟨aOJ,mH,mI,aI3⟩:=bB (show ¬m0=n9 from hm4)
      have hBm:B m0=none:=by
       cases hb:B m0 with
       |none=>rfl
       |some v=>have:=hnew.keep hb;rw[hgs]at this;cases this
      simp only[aK,aY]
      refine aJ.gS (ih (dp-1) aA vars _ a3 sd3 L3 a6F a6G (hprog.le (aE.bP z9 (aE.bP z8 (aE.bP hBm hnew.le)))) ⟨by omega,by omega,by omega⟩) ?_
      rintro r_ h' ⟨x5,e5,g',a5,sd5,L5,hx,rfl,hnw,⟨y1,y2⟩,rfl,aOZ,hd5,hL5,ha5⟩
      obtain⟨g5,rfl,w5,z50,z58,z59⟩:=gB.aVY hgs a6V a6I hnw
      simp only[aG,cR,bT,cD,mG,cS,bL,dH,pI,bU,bK,cB,iY,cC,dG,cA,mI,mE,pH,iX,mH,if_false]at y1 y2 z58 z59
      have hx5:=hx
      rw[aB.pM]at hx
      obtain⟨y4,rfl,os4⟩:=hx
      simp -dsimp -implicitDefEqProofs only[go_sem,↓reduceIte,Tryz.f34,cR,bT,cD,mG,cS,bL,dH,pI,bU,bK,cB,iY,cC,dG,cA,mI,mE,pH,iX,mH,aI,aG,dZ,eC,eE,eF,eH,lW,dT,iI,OV.dY,OV.bS,OV.jB,os4.flat,os4.one,cW]
      have ht:List.take i (OV.cells es)=OV.cells es:=pQ aY5
      refine⟨by decide,by decide,by decide,by have:=hor.length;omega,by omega,by omega,λm qm=>?_⟩
      have am:¬m=ns:=by grind
      have bm:¬m=ng:=by grind
      have cm:¬m=n8:=by grind
      have em:¬m=n9:=by grind
      have dm:g5 m=none:=by grind
      have fm:¬m=m0:=(by grind);have uM:=eq_false fm;have uN:=eq_false (l5 fm);have aRU:=fm;have aRV:=l5 fm
      obtain⟨pG,fX,fY,tC⟩:=bB (show ¬m=ns from am)
      obtain⟨yX,kN,kO,yY⟩:=bB (show ¬m=ng from bm)
      obtain⟨yZ,iA,hU,y5⟩:=bB (show ¬m=n8 from cm)
      obtain⟨aDC,mC,mD,aDD⟩:=bB (show ¬m=n9 from em)
      simp -dsimp -implicitDefEqProofs only[go_sem,↓reduceIte,Tryz.f34,cR,bT,cD,hU,cS,bL,dH,kO,bU,bK,cB,fY,cC,dG,cA,mD,iA,kN,fX,mC,uM,iA,mC,kN,fX,uN,mE,mH,pH,iX,hU,mG,cD,cR,bT,mD,mI,cC,dG,cA,kO,pI,cS,dH,bL,fY,iY,bU,cB,bK,aI,aG,dZ,eC,eE,eF,eH,lW,dT,iI]
      refine⟨(K,i+1,kids++[x5],es++[[.v (.int .i64 x5.aP),.v (.int .i64 x5.aW),.v (.int .i64 x5.bR),.v (.int .i64 x5.bI),y4]],g5,some m,a5,sd5,L5),IntWalk.i64_in _ aA,?_,hgg.next hlt hx5 w5 ⟨y1,y2,z58,z59⟩ dm ⟨am,bm,cm,em⟩ aMR aA hL5 ha5,by simp only;omega⟩
      intro q_
      simp only[aG,aK,aY,jW,fF,cW,lK,mT,OV.dY,OV.bS,OV.jB,lW,nZ,sX,ht]
      grind
    ·have hV:vars=jV K i vars:=by unfold jV;rw[if_neg (λq=>k9 q.1)]
     cases o with
     |none =>
      rw[kD]at hgs
      subst hgs
      obtain rfl:kids=[]:=aNI.1 hor.length
      obtain rfl:i=0:=hlen.symm
      simp only[aQ,b5]
      refine aJ.gS (ih (dp-1) aA vars _ a3 sd3 L3 a6J a6L (hprog.le (aE.bP z9 (aE.bP z8 hnew.le))) ⟨by omega,by omega,by omega⟩) ?_
      rintro r_ h' ⟨x5,e5,g',a5,sd5,L5,hx,rfl,hnw,⟨y1,y2⟩,rfl,aOZ,hd5,hL5,ha5⟩
      obtain⟨g5,rfl,w5,z58,z59⟩:=gB.aHN z18 a6U hnw
      simp only[aG,cR,bT,cD,cS,bL,dH,bU,bK,cB,cC,dG,cA,if_false]at y1 y2 z59
      have hx5:=hx
      rw[aB.pM]at hx
      obtain⟨y4,rfl,os4⟩:=hx
      simp -dsimp -implicitDefEqProofs only[go_sem,↓reduceIte,Tryz.f34,cR,bT,cD,cS,bL,dH,bU,bK,cB,cC,dG,cA,aI,aG,dZ,eC,eE,eF,eH,lW,dT,iI,OV.dY,OV.bS,OV.jB,os4.flat,os4.one]
      have ht:=fF []
      refine⟨by decide,by decide,by decide,λm qm=>?_⟩
      have am:¬m=ns:=by grind
      have bm:¬m=ng:=by grind
      have cm:¬m=n8:=by grind
      have em:¬m=n9:=by grind
      have dm:g5 m=none:=by grind
      skip
      obtain⟨pG,fX,fY,tC⟩:=bB (show ¬m=ns from am)
      obtain⟨yX,kN,kO,yY⟩:=bB (show ¬m=ng from bm)
      obtain⟨yZ,iA,hU,y5⟩:=bB (show ¬m=n8 from cm)
      obtain⟨aDC,mC,mD,aDD⟩:=bB (show ¬m=n9 from em)
      simp -dsimp -implicitDefEqProofs only[go_sem,↓reduceIte,Tryz.f34,cR,bT,cD,hU,cS,bL,dH,kO,bU,bK,cB,fY,cC,dG,cA,mD,iA,kN,fX,mC,aI,aG,dZ,eC,eE,eF,eH,lW,dT,iI]
      refine⟨(K,0+1,[]++[x5],[]++[[.v (.int .i64 x5.aP),.v (.int .i64 x5.aW),.v (.int .i64 x5.bR),.v (.int .i64 x5.bI),y4]],g5,some m,a5,sd5,L5),IntWalk.i64_in _ aA,?_,hgg.next hlt hx5 w5 ⟨y1,y2,z58,z59⟩ dm ⟨am,bm,cm,em⟩ aMR aA hL5 ha5,by simp only;omega⟩
      intro q_
      simp only[aG,aK,aY,jW,fF,cW,lK,mT,OV.dY,OV.bS,OV.jB,lW,nZ,sX,ht]
      grind
     |some m0 =>
      rw[jX]at hgs
      obtain⟨hm1,hm2,hm3,hm4⟩:=hon m0 rfl
      obtain⟨aC6,iX,iY,aB5⟩:=bB (show ¬m0=ns from hm1)
      obtain⟨aXN,pH,pI,aNT⟩:=bB (show ¬m0=ng from hm2)
      obtain⟨aOI,mE,mG,aI5⟩:=bB (show ¬m0=n8 from hm3)
      obtain⟨aOJ,mH,mI,aI3⟩:=bB (show ¬m0=n9 from hm4)
      have hBm:B m0=none:=by
       cases hb:B m0 with
       |none=>rfl
       |some v=>have:=hnew.keep hb;rw[hgs]at this;cases this
      simp only[aK,aY]
      refine aJ.gS (ih (dp-1) aA vars _ a3 sd3 L3 a6F a6G (hprog.le (aE.bP z9 (aE.bP z8 (aE.bP hBm hnew.le)))) ⟨by omega,by omega,by omega⟩) ?_
      rintro r_ h' ⟨x5,e5,g',a5,sd5,L5,hx,rfl,hnw,⟨y1,y2⟩,rfl,aOZ,hd5,hL5,ha5⟩
      obtain⟨g5,rfl,w5,z50,z58,z59⟩:=gB.aVY hgs a6V a6I hnw
      simp only[aG,cR,bT,cD,mG,cS,bL,dH,pI,bU,bK,cB,iY,cC,dG,cA,mI,mE,pH,iX,mH,if_false]at y1 y2 z58 z59
      have hx5:=hx
      rw[aB.pM]at hx
      obtain⟨y4,rfl,os4⟩:=hx
      simp -dsimp -implicitDefEqProofs only[go_sem,↓reduceIte,Tryz.f34,cR,bT,cD,mG,cS,bL,dH,pI,bU,bK,cB,iY,cC,dG,cA,mI,mE,pH,iX,mH,aI,aG,dZ,eC,eE,eF,eH,lW,dT,iI,OV.dY,OV.bS,OV.jB,os4.flat,os4.one,cW]
      have ht:List.take i (OV.cells es)=OV.cells es:=pQ aY5
      refine⟨by decide,by decide,by decide,by have:=hor.length;omega,by omega,by omega,λm qm=>?_⟩
      have am:¬m=ns:=by grind
      have bm:¬m=ng:=by grind
      have cm:¬m=n8:=by grind
      have em:¬m=n9:=by grind
      have dm:g5 m=none:=by grind
      have fm:¬m=m0:=(by grind);have uM:=eq_false fm;have uN:=eq_false (l5 fm);have aRU:=fm;have aRV:=l5 fm
      obtain⟨pG,fX,fY,tC⟩:=bB (show ¬m=ns from am)
      obtain⟨yX,kN,kO,yY⟩:=bB (show ¬m=ng from bm)
      obtain⟨yZ,iA,hU,y5⟩:=bB (show ¬m=n8 from cm)
      obtain⟨aDC,mC,mD,aDD⟩:=bB (show ¬m=n9 from em)
      simp -dsimp -implicitDefEqProofs only[go_sem,↓reduceIte,Tryz.f34,cR,bT,cD,hU,cS,bL,dH,kO,bU,bK,cB,fY,cC,dG,cA,mD,iA,kN,fX,mC,uM,iA,mC,kN,fX,uN,mE,mH,pH,iX,hU,mG,cD,cR,bT,mD,mI,cC,dG,cA,kO,pI,cS,dH,bL,fY,iY,bU,cB,bK,aI,aG,dZ,eC,eE,eF,eH,lW,dT,iI]
      refine⟨(K,i+1,kids++[x5],es++[[.v (.int .i64 x5.aP),.v (.int .i64 x5.aW),.v (.int .i64 x5.bR),.v (.int .i64 x5.bI),y4]],g5,some m,a5,sd5,L5),IntWalk.i64_in _ aA,?_,hgg.next hlt hx5 w5 ⟨y1,y2,z58,z59⟩ dm ⟨am,bm,cm,em⟩ aMR aA hL5 ha5,by simp only;omega⟩
      intro q_
      simp only[aG,aK,aY,jW,fF,cW,lK,mT,OV.dY,OV.bS,OV.jB,lW,nZ,sX,ht]
      grind
    ·have hi2:(i:Int)=dD K:=by omega
     have y8:bY g1 (.row 5 (OV.cells es)) o n8=none:=fU z18 λm e=>(hon m e).2.2.1
     have y9:bY g1 (.row 5 (OV.cells es)) o n9=none:=fU z19 λm e=>(hon m e).2.2.2
     exact bIF (vars:=vars) (a:=a) (L:=L) hgg hi2 aA h1 (by
      intro q_
      simp only[aG]
      grind)
  ·simp -dsimp -implicitDefEqProofs only[go_sem,↓reduceIte,Tryz.f34,cR,bT,cS,bL,bU,bK,aI,aG,dZ,eC,eE,eF,eH,lW,dT,iI]
   refine aJ.gS (a81 (np:=np) (a:=a1) (sd:=sd1) (L:=L-1) (pl:=pl) (B:=aR B n8 (.row 5 [[.v (I 0),.v (I 0),.v (I 0),.v (I 0),.v .bD]])) hc hl hne vars aA a6S a6T aA) ?_
   rintro r_ h' ⟨k,n,a',sd',rfl,hkn,ha',rfl⟩
   simp -dsimp -implicitDefEqProofs only[go_sem,↓reduceIte,Tryz.f34,cR,bT,cS,bL,bU,bK,aI,aG,cH uA,cH oZ,aO]
   exact aRS (a:=a) (a':=a') (sd':=sd') hkn hB1 hB2 aA (by
    intro q_
    simp only[aG]
    grind)
 ·refine aJ.gS (a81 (np:=np) (a:=a) (sd:=sd) (L:=L-1) (pl:=pl) (B:=aR B n8 (.row 5 [[.v (I 0),.v (I 0),.v (I 0),.v (I 0),.v .bD]])) hc hl hne vars aA a6S a6T aA) ?_
  rintro r_ h' ⟨k,n,a',sd',rfl,hkn,ha',rfl⟩
  simp -dsimp -implicitDefEqProofs only[go_sem,↓reduceIte,Tryz.f34,cR,bT,cS,bL,bU,bK,aI,aG,cH uA,cH oZ,aO]
  exact aRS (a:=a) (a':=a') (sd':=sd') hkn hB1 hB2 aA (by
   intro q_
   simp only[aG]
   grind)
 ·refine aJ.gS (a81 (np:=np) (a:=a) (sd:=sd) (L:=L-1) (pl:=pl) (B:=aR B n8 (.row 5 [[.v (I 0),.v (I 0),.v (I 0),.v (I 0),.v .bD]])) hc hl hne vars aA a6S a6T aA) ?_
  rintro r_ h' ⟨k,n,a',sd',rfl,hkn,ha',rfl⟩
  simp -dsimp -implicitDefEqProofs only[go_sem,↓reduceIte,Tryz.f34,cR,bT,cS,bL,bU,bK,aI,aG,cH uA,cH oZ,aO]
  exact aRS (a:=a) (a':=a') (sd':=sd') hkn hB1 hB2 aA (by
   intro q_
   simp only[aG]
   grind)
theorem bCD {p:aC} {ns ng np:Nat} {c:List Int} {pl:Bool} {vars:Int} {dp a:Nat} {L:Int} {B H:aE} {k n:Int} {a':Nat} {sd':Int} (h:(k=1/\oU n)∨(k=2/\0<=n/\n<vars)) (hB1:B ns=none) (hB2:B ng=none) (ha:a<=a'/\a'<=a+10) (hle:(aR (aR B ns (nF c a' sd')) ng (nA ns np L pl)).le H) :
  ∃ r1 g2,Shift (.agg [I k,I n,I 0,I 0,.bD]) H r1 g2/\bIA p ns ng np c pl vars dp a L B r1 g2:=by
 refine⟨_,_,Shift.of (a0I k n) hle,_,_,B,a',sd',L,bFB k n,rfl,by rw[aTZ];exact gB.nil B,⟨hB1,hB2⟩,rfl,a9K h,by rw[bID];omega,?_,by rw[aXL];omega⟩
 rw[aXL]
 omega
structure b9Z (T:Prop):Prop where
 get:T
theorem bIG {T G:Prop} (m:b9Z T->G) (t:T):G:=m ⟨t⟩
abbrev CSt:=Int×Nat×List aB×List (List OV)×aE×Option Nat×Nat×Int×Int×Int
def aRW (p:aC) (f:aU) (vars:Int) (dp a:Nat) (L:Int) (B:aE) (ns ng n8 n9:Nat):CSt->Prop:=λ(K,i,kids,es,g1,o,a3,_,L3,cnt) =>
 ((K=10/\cnt=0)∨(K=11/\0<=cnt/\cnt<=8/\(f.aN.length:Int)=f.aT))/\i<=f.aT.toNat/\kids.length=i/\OR aB.o kids es/\gB B (OV.bF es) g1/\(g1 ns=none/\g1 ng=none/\g1 n8=none/\g1 n9=none)/\yJ g1 es o/\(∀ m,o=some m->¬m=ns/\¬m=ng/\¬m=n8/\¬m=n9) /\
  (∀ (j:Nat) (h:j<kids.length),kids[j].ok p p.aD.length vars)/\aB.dL kids<=dp/\(L3<=L/\L-uW aB.s kids<=L3/\uW aB.s kids+3*mL L3<=3*mL L+i)/\(a<=a3/\a3<=a+10+14*uW aB.s kids)
theorem aRW.next {p:aC} {f:aU} {vars:Int} {dp a:Nat} {L:Int} {B:aE} {ns ng n8 n9:Nat} {K cnt:Int} {i:Nat} {kids:List aB} {es:List (List OV)} {g1 g5:aE} {o:Option Nat} {a3 a5:Nat} {sd3 sd5 L3 L5:Int} {x:aB} {e:List OV} {m:Nat}
  (h:aRW p f vars dp a L B ns ng n8 n9 (K,i,kids,es,g1,o,a3,sd3,L3,cnt)) (hlt:(i:Int)<f.aT) (hx:x.o e) (w:gB g1 (OV.cJ e) g5) (z:g5 ns=none/\g5 ng=none/\g5 n8=none/\g5 n9=none) (hm:g5 m=none) (hm2:¬m=ns/\¬m=ng/\¬m=n8/\¬m=n9)
  (hok:x.ok p p.aD.length vars) (hd:x.d<=dp) (hL:L5<=L3-1/\L3-(x.s+1)<=L5/\x.s+3*mL L5<=3*mL L3) (ha:a3<=a5/\a5<=a3+14*(x.s+1)):aRW p f vars dp a L B ns ng n8 n9 (K,i+1,kids++[x],es++[e],g5,some m,a5,sd5,L5,cnt):=by
 obtain⟨hK,hi,hlen,hor,hnew,-,-,-,bVM,hdl,hL3,ha3⟩:=h
 refine⟨hK,by omega,by rw[mV,hlen];rfl,OR.append hor ⟨hx,trivial⟩,gB.snoc hnew w,z,hm,λb q=>by cases q;exact hm2,λj hj=>?_,by rw[aXM];omega,?_,?_⟩
 ·rcases bZ j kids.length with h2|h2
  ·rw[a6C h2];exact bVM j h2
  ·obtain rfl:j=kids.length:=by rw[mV]at hj;simp at hj;omega
   rw[a6D (iH _)]
   simp only[wI,List.getElem_cons_zero]
   exact hok
 ·rw[aJ1];refine⟨by omega,by omega,by omega⟩
 ·rw[aJ1];omega
theorem bCE {p:aC} {f:aU} {ns ng np:Nat} {c:List Int} {pl:Bool} {vars:Int} {dp a k:Nat} {L y cnt:Int} {B H:aE} {n8 n9:Nat} {K:Int} {i:Nat} {kids:List aB} {es:List (List OV)} {g1:aE} {o:Option Nat} {a3:Nat} {sd3 L3:Int} (hf:p.aD[k]?=some f) (hf1:1<=f.aT/\f.aT<=3) (hy:0<=y/\y<f.aN.length)
  (h:aRW p f vars dp a L B ns ng n8 n9 (K,i,kids,es,g1,o,a3,sd3,L3,cnt)) (hi:(i:Int)=f.aT) (hle:(aR (aR (bY g1 (.row 5 (OV.cells es)) o) ns (nF c a3 sd3)) ng (nA ns np L3 pl)).le H) :
  ∃ r1 g2,Shift (.agg [I K,I k,I y,I cnt,gW 5 i o]) H r1 g2/\bIA p ns ng np c pl vars dp a L B r1 g2:=by
 obtain⟨hK,-,hlen,hor,hnew,⟨zs,zg,-,-⟩,hgs,hon,hok,hdl,hL,ha3⟩:=h
 have hes:es.length=i:=by rw[←hor.length];exact hlen
 have hkl:k<p.aD.length:=by rcases bZ k p.aD.length with h|h;exact h;rw[a2L h]at hf;cases hf
 rw[←hes]
 have z (q:Nat) (hq:g1 q=none) (hqo:∀ m,o=some m->¬m=q):bY g1 (.row 5 (OV.cells es)) o q=none:=fU hq hqo
 refine⟨_,_,Shift.of (Sub.agg (.cons (.refl _) (.cons (.refl _) (.cons (.refl _) (.cons (.refl _) (.cons aFT .nil)))))) hle,.mk K k y cnt kids,[.v (I K),.v (I k),.v (I y),.v (I cnt),gov 5 es o],_,a3,sd3,L3,(aB.pM _ _).2 ⟨_,rfl,aCL hor hgs⟩,rfl,
  by simpa only[OV.fC,OV.gZ,OV.sZ,lW,dT]using xK hnew hgs,⟨z ns zs λm e=>(hon m e).1,z ng zg λm e=>(hon m e).2.1⟩,rfl,(aB.cN _ _ _ _).2 ⟨?_,λj hj=>?_⟩,by rw[aB.bE6];simp only[aB.aL];omega,?_,?_⟩
 ·unfold oG
  rw[if_pos (show(aB.mk K k y cnt kids).aP=10∨(aB.mk K k y cnt kids).aP=11 from by simp only[aB.aP];omega)]
  simp only[aB.aP,aB.aW,aB.bR,aB.bI,aB.aL]
  refine⟨by omega,by omega,λf' hf'=>?_⟩
  rw[nU,hf]at hf'
  cases hf'
  refine⟨hy.1,by omega,by omega,λq=>by omega,λq=>by omega⟩
 ·have hm:jV (aB.mk K k y cnt kids).aP j vars=vars:=by unfold jV;rw[if_neg bD0]
  rw[hm]
  exact hok j hj
 ·rw[bFA];refine⟨by omega,by omega,by omega⟩
 ·rw[bFA];omega
@[go_sem] def aXO:List Nat:=[0,1,2,3,8,9,10,11,13,61,74]
@[go_sem] def bNI:List Nat:=[85]
@[go_sem] def bNJ:Marks:=λid=>match id with|4=>([3,6,8],(.op 0 (.op 1 (.op 2 (.op 7 (.op 3 (.op 4 (.op 5 (.op 6 (.op 8 (.op 9 (.op 10 .nil))))))))))),[])|5=>([3,7,8,9,11],(.op 0 (.op 1 (.op 2 (.op 4 (.op 5 (.op 6 (.op 3 (.op 7 (.op 8 (.op 9 (.op 10 (.op 11 .nil)))))))))))),[(3,8)])|6=>([3,4,8,14,15],(.op 0 (.op 1 (.op 2 (.op 5 (.op 6 (.op 7 (.op 3 (.op 8 (.op 4 (.op 9 (.op 10 (.op 11 (.op 12 (.op 13 (.op 14 (.op 15 (.op 16 .nil))))))))))))))))),[(8,4)])|12=>([1,7,9,11],(.op 0 (.op 2 (.op 3 (.op 4 (.op 5 (.op 6 (.op 1 (.op 7 (.op 8 (.op 9 (.op 10 (.op 11 .nil)))))))))))),[(1,7)])|_=>([],.nil,[])
set_option maxHeartbeats 8000000 in
theorem a5A {p:aC} {ns ng np:Nat} {c:List Int} {pl:Bool} (hc:∀ x∈c,InB x) (hl:c.length<=4096) (hne:¬ns=ng) (hP:aKW p) (hpl:p.aD.length<=100) {dp:Nat} (hdp:1<=dp) (ih:∀ d,d+1=dp->bIC Tryz.prog 34 p ns ng np c pl d):bRF Tryz.prog 87 p ns ng np c pl dp:=by
 intro vars B a sd L hB1 hB2 hprog hv ha hL
 obtain⟨zI,bK,bL,lO⟩:=bB (show ¬ns=ng from hne)
 refine lU 89 aXO bNI bNJ Tryz.func87 ?_
 simp -dsimp -implicitDefEqProofs only[go_sem,↓reduceIte,Tryz.f87,nA]
 intro n8 q8
 have a8:¬n8=ng:=by grind
 have b8:¬n8=ns:=by grind
 have z8:B n8=none:=by grind
 obtain⟨bNG,cR,cS,uA⟩:=bB (show ¬n8=ng from a8)
 obtain⟨a9L,bT,bU,oZ⟩:=bB (show ¬n8=ns from b8)
 simp -dsimp -implicitDefEqProofs only[go_sem,↓reduceIte,Tryz.f87,cR,bT,cS,bL,bU,bK,aI,aG,nA,dZ,eC,eE,eF,eH,lW,dT,iI,cH uA,cH oZ,aO]
 rw[show ∀ H:aE,aR H ng (bE.row 4 [[Cell.v (aH.op ns 3 0 0),Cell.v (aH.op np 1 0 0),Cell.v (I L),Cell.v (aH.bool pl)]])=aR H ng (nA ns np L pl)from λ_=>rfl]
 refine⟨λh0=>?_,λh0=>?_⟩
 ·refine aJ.gS (a81 (np:=np) (a:=a) (sd:=sd) (L:=L) (pl:=pl) (B:=aR B n8 (.row 5 [[.v (I 0),.v (I 0),.v (I 0),.v (I 0),.v .bD]])) hc hl hne vars aA a6S a6T aA) ?_
  rintro r_ h' ⟨k,n,a',sd',rfl,hkn,ha',rfl⟩
  simp -dsimp -implicitDefEqProofs only[go_sem,↓reduceIte,Tryz.f87,cR,bT,cS,bL,bU,bK,aI,aG,cH uA,cH oZ,aO]
  exact bCD (a:=a) (a':=a') (sd':=sd') hkn hB1 hB2 aA (by
   intro q_
   simp only[aG]
   grind)
 ·obtain⟨esF,oF,horF,hBp,honF,hBm⟩:=id hprog
  cases oF with
  |none=>exact absurd (by rw[honF rfl];rfl) h0
  |some mF =>
  have hBm:=hBm mF rfl
  have p1:¬np=ns:=λq=>by rw[q,hB1]at hBp;cases hBp
  have p2:¬np=ng:=λq=>by rw[q,hB2]at hBp;cases hBp
  have p3:¬np=n8:=λq=>by rw[q,z8]at hBp;cases hBp
  have m1:¬mF=ns:=λq=>by rw[q,hB1]at hBm;cases hBm
  have m2:¬mF=ng:=λq=>by rw[q,hB2]at hBm;cases hBm
  have m3:¬mF=n8:=λq=>by rw[q,z8]at hBm;cases hBm
  obtain⟨aXP,iF,iG,aGC⟩:=bB (show ¬np=ns from p1)
  obtain⟨bNK,rK,rL,aOK⟩:=bB (show ¬np=ng from p2)
  obtain⟨b5H,aDE,aDF,b5I⟩:=bB (show ¬np=n8 from p3)
  obtain⟨b5J,zZ,z7,b5K⟩:=bB (show ¬mF=ns from m1)
  obtain⟨b5L,aAA,aAB,b5M⟩:=bB (show ¬mF=ng from m2)
  obtain⟨b5N,aAC,aAD,b5O⟩:=bB (show ¬mF=n8 from m3)
  refine aJ.gS (wB (a:=a) (sd:=sd) hc hl aA p.aD.length aA aTE) ?_
  rintro r_ h' ⟨x,a2,sd2,rfl,x0,x1,-,ha2,rfl⟩
  simp only[cH lO,aO]
  have x1:=x1 aA
  obtain⟨k,rfl⟩:∃ k:Nat,x=k:=⟨x.toNat,by omega⟩
  have hk:k<p.aD.length:=by omega
  have hf:p.aD[k]?=some p.aD[k]:=cM hk
  obtain⟨hf1,hf2⟩:=hP _ (eI hk)
  generalize p.aD[k]=f at hf hf1 hf2
  obtain⟨ef,hef,hfo⟩:=horF.bSU k f hf
  obtain⟨y,rfl,hy⟩:=hfo
  obtain⟨n5,eo,rfl,hyR⟩:=hy.some aA
  have hcell:=aTU hef
  have hes:esF.length=p.aD.length:=horF.length.symm
  have hyl:eo.length=f.aN.length:=hyR.length.symm
  simp only[nZ,sX,OV.jB,OV.aCK]at hcell
  simp -dsimp -implicitDefEqProofs only[go_sem,↓reduceIte,Tryz.f87,cR,bT,aDF,cS,bL,rL,bU,bK,iG,aDE,rK,iF,cR,bT,aAD,cS,bL,aAB,bU,bK,z7,aAC,aAA,zZ,aI,aG,dZ,eC,eE,eF,eH,lW,dT,iI,nA,hBp,hBm,hcell,aY,cW]
  intro n9 q9
  have a9:¬n9=ng:=by grind
  have b9:¬n9=ns:=by grind
  have c9:¬n9=n8:=by grind
  have z9:B n9=none:=by grind
  have p4:¬np=n9:=λq=>by rw[q,z9]at hBp;cases hBp
  have m4:¬mF=n9:=λq=>by rw[q,z9]at hBm;cases hBm
  obtain⟨bNH,dG,dH,tZ⟩:=bB (show ¬n9=ng from a9)
  obtain⟨a9M,cA,cB,oY⟩:=bB (show ¬n9=ns from b9)
  obtain⟨aFU,cC,cD,a9N⟩:=bB (show ¬n9=n8 from c9)
  obtain⟨b5P,aGD,aGE,b5Q⟩:=bB (show ¬np=n9 from p4)
  obtain⟨b5R,aDG,aDH,b5S⟩:=bB (show ¬mF=n9 from m4)
  simp -dsimp -implicitDefEqProofs only[go_sem,↓reduceIte,Tryz.f87,cR,bT,aDF,cD,cS,bL,rL,dH,bU,bK,iG,cB,aDE,rK,iF,aGD,cC,dG,cA,aGE,cR,bT,aAD,cD,cS,bL,aAB,dH,bU,bK,z7,cB,aAC,aAA,zZ,aDG,cC,dG,cA,aDH,aI,aG,dZ,eC,eE,eF,eH,lW,dT,iI,nA,hBp,hBm,hcell,aY,cW,cH tZ,cH oY,aO]
  rw[show ∀ H:aE,aR H ng (bE.row 4 [[Cell.v (aH.op ns 3 0 0),Cell.v (aH.op np 1 0 0),Cell.v (I L),Cell.v (aH.bool pl)]])=aR H ng (nA ns np L pl)from λ_=>rfl]
  refine⟨hk,λ_=>?_⟩
  refine aJ.gS (wB (a:=a2) (sd:=sd2) hc hl aA eo.length aA aTE) ?_
  rintro r_ h' ⟨y,a3,sd3,rfl,y0,y1,-,ha3,rfl⟩
  have y1:=y1 aA
  simp only[cH lO,aO]
  simp -dsimp -implicitDefEqProofs only[go_sem,↓reduceIte,Tryz.f87,cR,bT,aDF,cD,cS,bL,rL,dH,bU,bK,iG,cB,aDE,rK,iF,aGD,cC,dG,cA,aGE,cR,bT,aAD,cD,cS,bL,aAB,dH,bU,bK,z7,cB,aAC,aAA,zZ,aDG,cC,dG,cA,aDH,aI,aG,dZ,eC,eE,eF,eH,lW,dT,iI,hBp,hBm,hcell,aY,cW,cH tZ,cH oY,cH lO,aO]
  refine λ_=>?_
  apply bIG
  case m =>
   intro key
   refine⟨λh1=>?_,λh1=>?_⟩
   ·simp -dsimp -implicitDefEqProofs only[go_sem,↓reduceIte,Tryz.f87,cR,bT,aDF,cD,cS,bL,rL,dH,bU,bK,iG,cB,aDE,rK,iF,aGD,cC,dG,cA,aGE,cR,bT,aAD,cD,cS,bL,aAB,dH,bU,bK,z7,cB,aAC,aAA,zZ,aDG,cC,dG,cA,aDH,aI,aG,dZ,eC,eE,eF,eH,lW,dT,iI,nA,hBp,hBm,hcell,aY,cW]
    rw[show ∀ H:aE,aR H ng (bE.row 4 [[Cell.v (aH.op ns 3 0 0),Cell.v (aH.op np 1 0 0),Cell.v (I L),Cell.v (aH.bool pl)]])=aR H ng (nA ns np L pl)from λ_=>rfl]
    refine aJ.gS (bB0 (a:=a3) (sd:=sd3) hc hl aA 2 aA aTE) ?_
    rintro r_ h' ⟨b,a4,sd4,rfl,ha4,rfl⟩
    simp only[cH lO,aO]
    cases b
    ·simp -dsimp -implicitDefEqProofs only[go_sem,↓reduceIte,Tryz.f87,cR,bT,aDF,cD,cS,bL,rL,dH,bU,bK,iG,cB,aDE,rK,iF,aGD,cC,dG,cA,aGE,cR,bT,aAD,cD,cS,bL,aAB,dH,bU,bK,z7,cB,aAC,aAA,zZ,aDG,cC,dG,cA,aDH,aI,aG,dZ,eC,eE,eF,eH,lW,dT,iI,cH tZ,cH oY,cH lO,aO]
     refine cZ aXO bNI bNJ (λx:CSt=>[(0,.op ng 4 0 0),(1,I vars),(2,I p.aD.length),(3,I dp),(8,.op n8 5 0 0),(9,.op n9 5 0 0),(10,.op mF 3 k 0),(11,I x.2.1)]) (λx=>aR (aR (aR (aR (bY x.2.2.2.2.1 (.row 5 (OV.cells x.2.2.2.1)) x.2.2.2.2.2.1) n8 (zG 0 0 0 0 .bD)) n9 (zG x.1 k y x.2.2.2.2.2.2.2.2.2 (gW 5 x.2.1 x.2.2.2.2.2.1))) ns (nF c x.2.2.2.2.2.2.1 x.2.2.2.2.2.2.2.1)) ng (nA ns np x.2.2.2.2.2.2.2.2.1 pl)) (λx=>aRW p f vars dp a L B ns ng n8 n9 x) (λx=>f.aT.toNat-x.2.1) (10,0,[],[],B,none,a4,sd4,L,0) ⟨by simp[c4,b7],aE.le_refl _,by omega,fE _,rfl,trivial,gB.nil B,⟨hB1,hB2,z8,z9⟩,rfl,(λm e=>by cases e),(λj h=>by cases h),fE _,⟨aLJ _,by simp[uW],by simp[uW]⟩,by simp[uW];omega⟩ ?_
     exact key.get
    ·simp -dsimp -implicitDefEqProofs only[go_sem,↓reduceIte,Tryz.f87,cR,bT,aDF,cD,cS,bL,rL,dH,bU,bK,iG,cB,aDE,rK,iF,aGD,cC,dG,cA,aGE,cR,bT,aAD,cD,cS,bL,aAB,dH,bU,bK,z7,cB,aAC,aAA,zZ,aDG,cC,dG,cA,aDH,aI,aG,dZ,eC,eE,eF,eH,lW,dT,iI,nA,cH tZ,cH oY,cH lO,aO]
     rw[show ∀ H:aE,aR H ng (bE.row 4 [[Cell.v (aH.op ns 3 0 0),Cell.v (aH.op np 1 0 0),Cell.v (I L),Cell.v (aH.bool pl)]])=aR H ng (nA ns np L pl)from λ_=>rfl]
     refine aJ.gS (wB (a:=a4) (sd:=sd4) hc hl aA 4 aA aTE) ?_
     rintro r_ h' ⟨cnt,a5,sd5,rfl,c0,c1,-,ha5,rfl⟩
     have c1:=c1 aA
     simp only[cH lO,aO]
     simp -dsimp -implicitDefEqProofs only[go_sem,↓reduceIte,Tryz.f87,cR,bT,aDF,cD,cS,bL,rL,dH,bU,bK,iG,cB,aDE,rK,iF,aGD,cC,dG,cA,aGE,cR,bT,aAD,cD,cS,bL,aAB,dH,bU,bK,z7,cB,aAC,aAA,zZ,aDG,cC,dG,cA,aDH,aI,aG,dZ,eC,eE,eF,eH,lW,dT,iI,cH tZ,cH oY,cH lO,aO]
     refine cZ aXO bNI bNJ (λx:CSt=>[(0,.op ng 4 0 0),(1,I vars),(2,I p.aD.length),(3,I dp),(8,.op n8 5 0 0),(9,.op n9 5 0 0),(10,.op mF 3 k 0),(11,I x.2.1)]) (λx=>aR (aR (aR (aR (bY x.2.2.2.2.1 (.row 5 (OV.cells x.2.2.2.1)) x.2.2.2.2.2.1) n8 (zG 0 0 0 0 .bD)) n9 (zG x.1 k y x.2.2.2.2.2.2.2.2.2 (gW 5 x.2.1 x.2.2.2.2.2.1))) ns (nF c x.2.2.2.2.2.2.1 x.2.2.2.2.2.2.2.1)) ng (nA ns np x.2.2.2.2.2.2.2.2.1 pl)) (λx=>aRW p f vars dp a L B ns ng n8 n9 x) (λx=>f.aT.toNat-x.2.1) (11,0,[],[],B,none,a5,sd5,L,cnt) ⟨by simp[c4,b7],aE.le_refl _,by omega,fE _,rfl,trivial,gB.nil B,⟨hB1,hB2,z8,z9⟩,rfl,(λm e=>by cases e),(λj h=>by cases h),fE _,⟨aLJ _,by simp[uW],by simp[uW]⟩,by simp[uW];omega⟩ ?_
     exact key.get
   ·refine cZ aXO bNI bNJ (λx:CSt=>[(0,.op ng 4 0 0),(1,I vars),(2,I p.aD.length),(3,I dp),(8,.op n8 5 0 0),(9,.op n9 5 0 0),(10,.op mF 3 k 0),(11,I x.2.1)]) (λx=>aR (aR (aR (aR (bY x.2.2.2.2.1 (.row 5 (OV.cells x.2.2.2.1)) x.2.2.2.2.2.1) n8 (zG 0 0 0 0 .bD)) n9 (zG x.1 k y x.2.2.2.2.2.2.2.2.2 (gW 5 x.2.1 x.2.2.2.2.2.1))) ns (nF c x.2.2.2.2.2.2.1 x.2.2.2.2.2.2.2.1)) ng (nA ns np x.2.2.2.2.2.2.2.2.1 pl)) (λx=>aRW p f vars dp a L B ns ng n8 n9 x) (λx=>f.aT.toNat-x.2.1) (10,0,[],[],B,none,a3,sd3,L,0) ⟨by simp[c4,b7],aE.le_refl _,by omega,fE _,rfl,trivial,gB.nil B,⟨hB1,hB2,z8,z9⟩,rfl,(λm e=>by cases e),(λj h=>by cases h),fE _,⟨aLJ _,by simp[uW],by simp[uW]⟩,by simp[uW];omega⟩ ?_
    exact key.get
  case t =>
   rintro⟨K,i,kids,es,g1,o,a3,sd3,L3,cnt⟩ hgg
   obtain⟨hK,hi,hlen,hor,hnew,⟨zs,zg,z18,z19⟩,hgs,hon,hok,hdl,hL3,ha3⟩:=id hgg
   simp only at hi hlen hor hnew zs zg z18 z19 hgs hon hok hdl hL3 ha3 hK ⊢
   have wd:IntKind.i64.wrap ((dp:Int)-1)=((dp-1:Nat):Int):=by rw[IntWalk.i64_in _ aA];omega
   have bKH:mL L<=1000:=by unfold mL;omega
   have hGm:=hnew.keep hBm
   have hom:∀ R,bY g1 R o mF=some (.row 3 (OV.cells esF)):=by
    intro R
    cases o with
    |none=>exact hGm
    |some m5 =>
     rw[jX]at hgs
     rw[aK,aI _ _ _ _ (λq=>by rw[←q,hGm]at hgs;cases hgs)]
     exact hGm
   unfold zG
   simp -dsimp -implicitDefEqProofs only[go_sem,↓reduceIte,Tryz.f87,cR,bT,cD,cS,bL,dH,bU,bK,cB,cC,dG,cA,cR,bT,aAD,cD,cS,bL,aAB,dH,bU,bK,z7,cB,aAC,aAA,zZ,aDG,cC,dG,cA,aDH,aI,aG,dZ,eC,eE,eF,eH,lW,dT,iI,wd,hom,hcell]
   refine⟨λhlt=>?_,λhge=>⟨kH ..,?_⟩⟩
   ·have hV:vars=vars:=rfl
    cases o with
    |none =>
     rw[kD]at hgs
     subst hgs
     obtain rfl:kids=[]:=aNI.1 hor.length
     obtain rfl:i=0:=hlen.symm
     simp only[aQ,b5]
     refine aJ.gS (ih (dp-1) aA vars _ a3 sd3 L3 a6J a6L (hprog.le (aE.bP z9 (aE.bP z8 hnew.le))) ⟨by omega,by omega,by omega⟩) ?_
     rintro r_ h' ⟨x5,e5,g',a5,sd5,L5,hx,rfl,hnw,⟨y1,y2⟩,rfl,aOZ,hd5,hL5,ha5⟩
     obtain⟨g5,rfl,w5,z58,z59⟩:=gB.aHN z18 a6U hnw
     simp only[aG,cR,bT,cD,cS,bL,dH,bU,bK,cB,cC,dG,cA,if_false]at y1 y2 z59
     have hx5:=hx
     rw[aB.pM]at hx
     obtain⟨y4,rfl,os4⟩:=hx
     simp -dsimp -implicitDefEqProofs only[go_sem,↓reduceIte,Tryz.f87,cR,bT,cD,cS,bL,dH,bU,bK,cB,cC,dG,cA,aI,aG,dZ,eC,eE,eF,eH,lW,dT,iI,OV.dY,OV.bS,OV.jB,os4.flat,os4.one]
     have ht:=fF []
     refine⟨by decide,by decide,by decide,λm qm=>?_⟩
     have am:¬m=ns:=by grind
     have bm:¬m=ng:=by grind
     have cm:¬m=n8:=by grind
     have em:¬m=n9:=by grind
     have dm:g5 m=none:=by grind
     skip
     obtain⟨pG,fX,fY,tC⟩:=bB (show ¬m=ns from am)
     obtain⟨yX,kN,kO,yY⟩:=bB (show ¬m=ng from bm)
     obtain⟨yZ,iA,hU,y5⟩:=bB (show ¬m=n8 from cm)
     obtain⟨aDC,mC,mD,aDD⟩:=bB (show ¬m=n9 from em)
     simp -dsimp -implicitDefEqProofs only[go_sem,↓reduceIte,Tryz.f87,cR,bT,cD,hU,cS,bL,dH,kO,bU,bK,cB,fY,cC,dG,cA,mD,iA,kN,fX,mC,aI,aG,dZ,eC,eE,eF,eH,lW,dT,iI]
     refine⟨(K,0+1,[]++[x5],[]++[[.v (.int .i64 x5.aP),.v (.int .i64 x5.aW),.v (.int .i64 x5.bR),.v (.int .i64 x5.bI),y4]],g5,some m,a5,sd5,L5,cnt),IntWalk.i64_in _ aA,?_,hgg.next hlt hx5 w5 ⟨y1,y2,z58,z59⟩ dm ⟨am,bm,cm,em⟩ aMR aA hL5 ha5,by simp only;omega⟩
     intro q_
     simp only[aG,aK,aY,jW,fF,cW,lK,mT,OV.dY,OV.bS,OV.jB,lW,nZ,sX,ht]
     grind
    |some m0 =>
     rw[jX]at hgs
     obtain⟨hm1,hm2,hm3,hm4⟩:=hon m0 rfl
     obtain⟨aC6,iX,iY,aB5⟩:=bB (show ¬m0=ns from hm1)
     obtain⟨aXN,pH,pI,aNT⟩:=bB (show ¬m0=ng from hm2)
     obtain⟨aOI,mE,mG,aI5⟩:=bB (show ¬m0=n8 from hm3)
     obtain⟨aOJ,mH,mI,aI3⟩:=bB (show ¬m0=n9 from hm4)
     have hBm:B m0=none:=by
      cases hb:B m0 with
      |none=>rfl
      |some v=>have:=hnew.keep hb;rw[hgs]at this;cases this
     simp only[aK,aY]
     refine aJ.gS (ih (dp-1) aA vars _ a3 sd3 L3 a6F a6G (hprog.le (aE.bP z9 (aE.bP z8 (aE.bP hBm hnew.le)))) ⟨by omega,by omega,by omega⟩) ?_
     rintro r_ h' ⟨x5,e5,g',a5,sd5,L5,hx,rfl,hnw,⟨y1,y2⟩,rfl,aOZ,hd5,hL5,ha5⟩
     obtain⟨g5,rfl,w5,z50,z58,z59⟩:=gB.aVY hgs a6V a6I hnw
     simp only[aG,cR,bT,cD,mG,cS,bL,dH,pI,bU,bK,cB,iY,cC,dG,cA,mI,mE,pH,iX,mH,if_false]at y1 y2 z58 z59
     have hx5:=hx
     rw[aB.pM]at hx
     obtain⟨y4,rfl,os4⟩:=hx
     simp -dsimp -implicitDefEqProofs only[go_sem,↓reduceIte,Tryz.f87,cR,bT,cD,mG,cS,bL,dH,pI,bU,bK,cB,iY,cC,dG,cA,mI,mE,pH,iX,mH,aI,aG,dZ,eC,eE,eF,eH,lW,dT,iI,OV.dY,OV.bS,OV.jB,os4.flat,os4.one,cW]
     have ht:List.take i (OV.cells es)=OV.cells es:=pQ aY5
     refine⟨by decide,by decide,by decide,by have:=hor.length;omega,by omega,by omega,λm qm=>?_⟩
     have am:¬m=ns:=by grind
     have bm:¬m=ng:=by grind
     have cm:¬m=n8:=by grind
     have em:¬m=n9:=by grind
     have dm:g5 m=none:=by grind
     have fm:¬m=m0:=(by grind);have uM:=eq_false fm;have uN:=eq_false (l5 fm);have aRU:=fm;have aRV:=l5 fm
     obtain⟨pG,fX,fY,tC⟩:=bB (show ¬m=ns from am)
     obtain⟨yX,kN,kO,yY⟩:=bB (show ¬m=ng from bm)
     obtain⟨yZ,iA,hU,y5⟩:=bB (show ¬m=n8 from cm)
     obtain⟨aDC,mC,mD,aDD⟩:=bB (show ¬m=n9 from em)
     simp -dsimp -implicitDefEqProofs only[go_sem,↓reduceIte,Tryz.f87,cR,bT,cD,hU,cS,bL,dH,kO,bU,bK,cB,fY,cC,dG,cA,mD,iA,kN,fX,mC,uM,iA,mC,kN,fX,uN,mE,mH,pH,iX,hU,mG,cD,cR,bT,mD,mI,cC,dG,cA,kO,pI,cS,dH,bL,fY,iY,bU,cB,bK,aI,aG,dZ,eC,eE,eF,eH,lW,dT,iI]
     refine⟨(K,i+1,kids++[x5],es++[[.v (.int .i64 x5.aP),.v (.int .i64 x5.aW),.v (.int .i64 x5.bR),.v (.int .i64 x5.bI),y4]],g5,some m,a5,sd5,L5,cnt),IntWalk.i64_in _ aA,?_,hgg.next hlt hx5 w5 ⟨y1,y2,z58,z59⟩ dm ⟨am,bm,cm,em⟩ aMR aA hL5 ha5,by simp only;omega⟩
     intro q_
     simp only[aG,aK,aY,jW,fF,cW,lK,mT,OV.dY,OV.bS,OV.jB,lW,nZ,sX,ht]
     grind
   ·have hi2:(i:Int)=f.aT:=by omega
    have y8:bY g1 (.row 5 (OV.cells es)) o n8=none:=fU z18 λm e=>(hon m e).2.2.1
    have y9:bY g1 (.row 5 (OV.cells es)) o n9=none:=fU z19 λm e=>(hon m e).2.2.2
    exact bCE hf hf1 ⟨y0,by omega⟩ hgg hi2 (by
     intro q_
     simp only[aG]
     grind)
end Go.Hl

/-
  Contracts of functions and laws of the layer over the walk.
-/
import Derived.Test.YtajjlpophonkoaaGreatDoorVvG
import Derived.Test.YtajjlpophonkoaaGreatDoorVvA
import Derived.Test.YtajjlpophonkoaaGreatDoorVvE
import Derived.Test.YtajjlpophonkoaaGreatDoorVvF
import Derived.Test.YtajjlpophonkoaaGreatDoorVvD
namespace Go.Hl
open Go.Proofs
set_option linter.unusedVariables false
set_option linter.unusedSimpArgs false
theorem b20 {p:aC} {ns ng np:Nat} {c:List Int} {pl:Bool} (hc:∀ x∈c,InB x) (hl:c.length<=4096) (hne:¬ns=ng) (hP:aKW p) (hpl:p.aD.length<=100) (dp:Nat):bIC Tryz.prog 34 p ns ng np c pl dp:=by
 induction dp with
 |zero=>exact aRT hc hl hne hP (λd h=>by omega) (λh=>by omega)
 |succ d ih =>
  have hd:∀ d',d'+1=d+1->bIC Tryz.prog 34 p ns ng np c pl d':=λd' h=>by
   cases h
   exact ih
  exact aRT hc hl hne hP hd (λ_=>a5A hc hl hne hP hpl aA hd)
def aXQ:List (List UInt8):=[[102],[103],[115,116,101,112],[104,50]]
def aIL (p:aC) (k:Nat) (f:aU):Prop:=(∃ w∈aXQ,f.e8=w++Go.Lib.itoa k)/\(1<=f.aT/\f.aT<=3)/\(1<=f.aN.length/\f.aN.length<=3)/\∀ e∈f.aN,e.s<=39/\e.d<=6/\e.ok p k f.aT
def aG5 (fs:List aU):Prop:=∀ (j:Nat) (f:aU),fs[j]?=some f->aIL ⟨fs⟩ j f
theorem bCF {p q:aC} {m:Nat} (hpq:∀ j,j<m->q.aD[j]?=p.aD[j]?) {e:aB} {vars:Int} (h:oG p e vars m):oG q e vars m:=by
 unfold oG at h ⊢
 split
 ·rename_i hk
  rw[if_pos hk]at h
  exact⟨h.1,h.2.1,λf ef=>h.2.2 f (by rw[hpq _ aA]at ef;exact ef)⟩
 ·rename_i hk
  rw[if_neg hk]at h
  exact h
theorem aB.bRI {p q:aC} {m:Nat} (hpq:∀ j,j<m->q.aD[j]?=p.aD[j]?) (e:aB) (vars:Int) (h:e.ok p m vars):e.ok q m vars:=by
 have h1:=(aB.cN _ _ _ _).1 h
 refine(aB.cN _ _ _ _).2 ⟨bCF hpq h1.1,λj hj=>?_⟩
 have hs:=aB.kB (eI hj)
 exact aB.bRI hpq e.aL[j] _ (h1.2 j hj)
termination_by e.s
theorem aG5.snoc {fs:List aU} (h:aG5 fs) {f:aU} (hf:aIL ⟨fs⟩ fs.length f):aG5 (fs++[f]):=by
 have up:∀ {k:Nat} {g:aU},k<=fs.length->aIL ⟨fs⟩ k g->aIL ⟨fs++[f]⟩ k g:=λ{k g} hk ⟨h1,h2,h3,h4⟩=>⟨h1,h2,h3,λe he=>⟨(h4 e he).1,(h4 e he).2.1,aB.bRI (λj hj=>by simp only[aC.aD];rw[uU aA]) e _ (h4 e he).2.2⟩⟩
 intro j g hg
 rcases bZ j fs.length with h1|h1
 ·rw[uU h1]at hg
  exact up aA (h j g hg)
 ·have hj:j<(fs++[f]).length:=by rcases bZ j (fs++[f]).length with q|q;exact q;rw[a2L q]at hg;cases hg
  rw[mV,u4]at hj
  obtain rfl:j=fs.length:=by omega
  rw[wZ (iH _),wI]at hg
  cases hg
  exact up (iH _) hf
theorem aG5.get {fs:List aU} (h:aG5 fs) {f:aU} (hf:f∈fs):∃ j,j<fs.length/\fs[j]?=some f/\aIL ⟨fs⟩ j f:=by
 obtain⟨j,hj,e⟩:=aD8.1 hf
 have e2:fs[j]?=some f:=by rw[cM hj,e]
 exact⟨j,hj,e2,h j f e2⟩
theorem aG5.a9O {fs:List aU} (h:aG5 fs):aKW ⟨fs⟩:=λf hf=>by
 obtain⟨j,-,-,hg⟩:=h.get hf
 exact⟨hg.2.1,hg.2.2.1⟩
theorem a1S {k:Nat} (h:k<=2):∃ c:UInt8,Go.Lib.itoa k=[c]/\Dig c/\c.toNat=48+k:=by
 refine⟨UInt8.ofNat (48+k),by rw[bE9 _ aA,nU,bLD aA],?_⟩
 match k,h with
 |0,_=>exact⟨⟨by decide,by decide⟩,rfl⟩
 |1,_=>exact⟨⟨by decide,by decide⟩,rfl⟩
 |2,_=>exact⟨⟨by decide,by decide⟩,rfl⟩
set_option maxRecDepth 100000
theorem OV.aNB {x:OV} {p:Nat×bE} (hp:p∈x.rows):∀ {e:List OV},x∈e->p∈OV.cJ e
 |y::e,h=>by
  rw[OV.fC]
  rcases pY.1 h with rfl|h
  ·exact aLF _ hp
  ·exact aD5 _ (OV.aNB hp h)
theorem OV.aKX {x:OV} {e:List OV} {p:Nat×bE} (hx:x∈e) (hp:p∈x.rows):∀ {es:List (List OV)},e∈es->p∈OV.bF es
 |y::es,h=>by
  rw[OV.bF]
  rcases pY.1 h with rfl|h
  ·exact aLF _ (OV.aNB hp hx)
  ·exact aD5 _ (OV.aKX hx hp h)
theorem aE.bVP {h:aE} {b sz:Nat} {es:List (List OV)} (hb:h b=some (.row sz (OV.cells es))) (ho:xH h (OV.bF es)) (hnb:b∉bH (OV.bF es)) :
  (aR (jL h (bH (OV.bF es))) b (.row sz ((es.map (List.map OV.pU)).map (List.map .v)))).wk h:=λE w R=>by
 have R1:=R.jL (bH (OV.bF es))
 have xM:jL h (bH (OV.bF es)) b=some (.row sz (OV.cells es)):=by rw[iL hnb];exact hb
 have h0:∀ b,qK E h w b->qK E (jL h (bH (OV.bF es))) w b:=λb=>tJ _ b
 have hun:∀ i j x v,kA es i j=some x->gC E h w x.val v->gC E (jL h (bH (OV.bF es))) w x.pU v:=λi j x v hx hr=>by
  obtain⟨e,e1,e2⟩:=lG hx
  have hsub:∀ p∈x.rows,p∈OV.bF es:=λp hp=>OV.aKX (nO e2) hp (nO e1)
  exact gC.aGY R x (λp hp=>ho p (hsub p hp)) (λp hp=>dR.2 ⟨p.2,hsub p hp⟩) v hr
 have hat:∀ i j,kA ((es.map (List.map OV.pU)).map (List.map Cell.v)) i j=(kA es i j).map λx=>Cell.v x.pU:=λi j=>by rw[qA,qA,Option.map_map];rfl
 have b21:∀ i j,kA (OV.cells es) i j=(kA es i j).map λx=>Cell.v x.val:=λi j=>qA _ _ _ _
 have hlen:((es.map (List.map OV.pU)).map (List.map Cell.v)).length=(OV.cells es).length:=by rw[nG,nG,cW]
 generalize jL h (bH (OV.bF es))=h1 at *
 have live:∀ q o,aR h1 b (.row sz ((es.map (List.map OV.pU)).map (List.map .v))) q=some o->∃ o',h1 q=some o'/\(o.live->o'.live):=λq o ho=>by
  by_cases e:q=b
  ·subst e;exact⟨_,xM,λ_=>trivial⟩
  ·rw[aI _ _ _ _ e]at ho;exact⟨o,ho,id⟩
 have sB:∀ q,qK E h1 w q->qK E (aR h1 b (.row sz ((es.map (List.map OV.pU)).map (List.map .v)))) w q:=λq i=>⟨i.1,λn o ho hl=>by
  obtain⟨o',h1,h2⟩:=live n o ho;exact i.2 n o' h1 (h2 hl)⟩
 refine⟨⟨R1.fin,λn hn=>R1.dom n λe=>?_,λn o c hn hl=>?_,λn o n' o' c hn hl hn' hl'=>?_,λn o hn=>?_,R1.laid.sB sB⟩,λq i=>sB q (h0 q i)⟩
 ·by_cases e2:n=b
  ·subst e2;rw[xM]at e;cases e
  ·rw[aI _ _ _ _ e2]at hn;exact hn e
 ·obtain⟨o2,h1,h2⟩:=live n o hn
  exact R1.lt n o2 c h1 (h2 hl)
 ·obtain⟨o2,h1,h2⟩:=live n o hn
  obtain⟨o3,h3,h4⟩:=live n' o' hn'
  exact R1.apart n o2 n' o3 c h1 (h2 hl) h3 (h4 hl')
 ·by_cases e:n=b
  ·subst e
   rw[aM]at hn
   obtain rfl:=gV hn
   rcases R.obj n _ hb with⟨k,o2,hlc,ra⟩|⟨he,hlc⟩
   ·refine .inl ⟨k,o2,hlc,ra.hb,λe he=>?_,?_⟩
    ·obtain⟨e1,h3,rfl⟩:=qU.1 he
     obtain⟨e2,h4,rfl⟩:=qU.1 h3
     have:=ra.size (e2.map λc=>Cell.v c.val) (List.mem_map_of_mem h4)
     rw[nG]at this
     rw[nG,nG];exact this
    obtain⟨cs,t,cv,T,g1,g2,g3,g4,g5,g6⟩:=ra.mem
    refine⟨cs,t,cv,T,g1,by rw[hlen];exact g2,g3,g4,λi j x hx=>?_,λi j x hx=>?_⟩
    ·rw[hat]at hx
     obtain⟨y,hy,rfl⟩:=u5.1 hx
     exact g5 i j (.v y.val) (by rw[b21,hy];rfl)
    ·rw[hat]at hx
     obtain⟨y,hy,rfl⟩:=u5.1 hx
     have hr:=g6 i j (.v y.val) (by rw[b21,hy];rfl)
     cases hr with
     |v _ _ _ k1 k2=>exact .v _ _ _ k1 ((hun i j y _ hy k2).sB sB)
   ·have h5:es=[]:=by
     cases es with
     |nil=>rfl
     |cons e es=>simp[OV.cells]at he
    subst h5
    exact .inr ⟨rfl,hlc⟩
  ·rw[aI _ _ _ _ e]at hn
   exact(R1.obj n o hn).sB sB
theorem bIH {B g':aE} {l:List (Nat×bE)} {ns ng:Nat} {X Y:bE} (w:gB B l g') (z:g' ns=none) (z2:g' ng=none):(aR (aR B ns X) ng Y).le (jL (aR (aR g' ns X) ng Y) (bH l)):=λm=>by
 by_cases e2:m∈bH l
 ·obtain⟨o,ho⟩:=dR.1 e2
  have:=w.tO _ ho
  simp only at this
  have e3:¬m=ns:=λe=>by rw[e,z]at this;cases this
  have e4:¬m=ng:=λe=>by rw[e,z2]at this;cases this
  rw[aI _ _ _ _ e4,aI _ _ _ _ e3];exact .inl (w.fresh m e2)
 ·rw[iL e2]
  by_cases e4:m=ng
  ·rw[e4,aM,aM];exact .inr rfl
  rw[aI _ _ _ _ e4,aI _ _ _ _ e4]
  by_cases e3:m=ns
  ·rw[e3,aM,aM];exact .inr rfl
  rw[aI _ _ _ _ e3,aI _ _ _ _ e3,w.upto m e2];exact .inr rfl
theorem jC.bNL {P:Program} {f:FuncId} {args:List aH} {h:aE} {K K':aH->aE->Prop} (a:jC P f args h K) (hK:∀ r h',K r h'->∃ r1 g1,Shift r h' r1 g1/\K' r1 g1):jC P f args h K':=by
 refine⟨a.1,λE w vs R hv=>Calls.mono (a.2 E w vs R hv) λe w' he=>?_⟩
 cases e <;> try exact he
 obtain⟨r,h',E',k,ev,R',rx⟩:=he
 obtain⟨r1,g1,s,k1⟩:=hK r h' k
 obtain⟨E2,ev2,R2,rx2⟩:=s E' w' _ R' rx
 exact⟨r1,g1,E2,k1,ev.trans ev2,R2,rx2⟩
theorem b91 {p:aC} {ns ng np:Nat} {c:List Int} {pl:Bool} (hc:∀ x∈c,InB x) (hl:c.length<=4096) (hne:¬ns=ng) (hP:aKW p) (hpl:p.aD.length<=100) (dp:Nat) (vars:Int) {B:aE} {a:Nat} {sd L:Int} (h1:B ns=none) (h2:B ng=none) (h3:aFC p np B) (h4:bIB dp a vars L) :
  jC Tryz.prog 34 [.op ng 4 0 0,I vars,I p.aD.length,I dp] (aR (aR B ns (nF c a sd)) ng (nA ns np L pl)) λr h'=>∃ (x:aB) (a':Nat) (sd' L':Int),r=.agg x.c/\h'=aR (aR B ns (nF c a' sd')) ng (nA ns np L' pl)/\x.s<=3*mL L/\(a<=a'/\a'<=a+14*(x.s+1)) :=
 (b20 (pl:=pl) hc hl hne hP hpl dp vars B a sd L h1 h2 h3 h4).bNL λr h' ⟨x,e,g',a',sd',L',ho,hr,hw,⟨z1,z2⟩,hh,hok,hd,hL,ha⟩=>by
  subst hr hh
  refine⟨_,_,Shift.own (h:=aR (aR B ns (nF c a' sd')) ng (nA ns np L' pl)) e (λq hq=>?_) (bIH hw z1 z2),x,a',sd',L',by rw[aB.aM5 ho],rfl,by omega,ha⟩
  have:=hw.tO q hq
  rw[aI _ _ _ _ (λe=>by rw[e,z2]at this;cases this),aI _ _ _ _ (λe=>by rw[e,z1]at this;cases this)];exact this
theorem aUU (k n:Int):Sub (.agg [I k,I n,I 0,I 0,.bD]) (.agg (aB.mk k n 0 0 []).c):=by
 rw[aB.aS]
 exact Sub.agg (.cons (.refl _) (.cons (.refl _) (.cons (.refl _) (.cons (.refl _) (.cons (Sub.nil 5 false) .nil)))))
theorem bVQ (n:Int):fM Tryz.prog 163 [I n] (.agg (aB.mk 1 n 0 0 []).c):=by
 refine iN 5 aD2 dC cK Tryz.func163 λh=>?_
 simp -dsimp -implicitDefEqProofs only[go_sem,↓reduceIte,Tryz.f163]
 exact λm hm=>Shift.of (aUU 1 n) aY4
theorem bII (n:Int):fM Tryz.prog 162 [I n] (.agg (aB.mk 2 n 0 0 []).c):=by
 refine iN 5 aD2 dC cK Tryz.func162 λh=>?_
 simp -dsimp -implicitDefEqProofs only[go_sem,↓reduceIte,Tryz.f162]
 exact λm hm=>Shift.of (aUU 2 n) aY4
@[go_sem] def bNM:List Nat:=[0,1,2,4,5,6]
@[go_sem] def b22:List Nat:=[4,5,10]
theorem aG6 (k:Int) (x y:aB):fM Tryz.prog 165 [I k,.agg x.c,.agg y.c] (.agg (aB.mk k 0 0 0 [x,y]).c):=by
 rw[aB.aS (.mk k 0 0 0 [x,y])]
 simp only[aB.aL,fN,nZ,sX,aB.aP,aB.aW,aB.bR,aB.bI]
 rw[aB.aS x,aB.aS y]
 refine iN 12 bNM b22 cK Tryz.func165 λh=>?_
 simp -dsimp -implicitDefEqProofs only[go_sem,↓reduceIte,Tryz.f165]
 exact λn hn=>⟨by decide,by decide,Shift.of (Sub.agg (.cons (.refl _) (.cons (.refl _) (.cons (.refl _) (.cons (.refl _) (.cons (Sub.loose _ _ _) .nil)))))) bDU⟩
def aDI (l:List aB):bE:=.row 5 ((l.map aB.c).map (List.map .v))
theorem bCG (l:List aB) (x:aB):aDI (l++[x])=.row 5 (((l.map aB.c).map (List.map Cell.v))++[x.c.map .v]):=by simp[aDI]
theorem a5B {P:Program} {L:aH->Prop} {et:TypeId} {sz n:Nat} {o:Option Nat} (hn:n<=9223372036854775807) (h:o=none->n=0) (t:Tag L):bBG P (some (.slice et)) (gW sz n o) L t=L (.int .i64 n):=by
 cases o with
 |none=>rw[h rfl];rfl
 |some m=>exact propext ⟨λa=>a hn,λa _=>a⟩
abbrev BSt:=Nat×List aB×Option Nat×Nat×Int
def b23 (k:Nat) (G:aE) (ns np nf:Nat) (a:Nat):BSt->Prop:=λ(i,outs,oo,a8,_) =>
 i<=k/\outs.length=i/\fT G outs oo/\(∀ m,oo=some m->¬m=ns/\¬m=np/\¬m=nf)/\(∀ x∈outs,x.s<=60)/\(a<=a8/\a8<=a+1000*i)
def aNC (nm:List UInt8) (fs:List aU) (n:Int) (outs:List aB):aC:=⟨fs++[⟨nm,n,outs⟩]⟩
theorem aGF {α:Type} (c:α->List aH) (l:List α):OV.cells (l.map λx=>(c x).map OV.v)=(l.map c).map (List.map .v):=by
 simp only[OV.cells,aD7]
 refine aG7 λx _=>?_
 show((c x).map OV.v).map _=(c x).map _
 rw[aD7];rfl
theorem aUV:∀ l:List aH,OV.cJ (l.map OV.v)=[]
 | []=>rfl
 |x::l=>by rw[nZ,OV.fC,OV.sZ,aUV l];rfl
theorem aIM {α:Type} (c:α->List aH):∀ l:List α,OV.bF (l.map λx=>(c x).map OV.v)=[]
 | []=>rfl
 |x::l=>by rw[nZ,OV.bF,aUV,aIM c l];rfl
theorem aMI {α:Type} (c:α->List aH) (l:List α):(l.map λx=>(c x).map OV.v).map (List.map OV.pU)=l.map c:=by
 rw[aD7]
 refine aG7 λx _=>?_
 show((c x).map OV.v).map OV.pU=c x
 rw[aD7]
 exact(aG7 λy _=>rfl).trans (List.map_id _)
theorem aIN {h H:aE} {m len:Nat} {l:List aB} (a b c d:Int) (hm:H m=some (rJ l)) (hl:len=l.length) (hH:h.le (jL H [m])):Shift (.agg [I a,I b,I c,I d,.os m 5 0 len]) H (.agg (aB.mk a b c d l).c) h:=by
 have h1:=Shift.own (h:=h) (h':=H) [.v (I a),.v (I b),.v (I c),.v (I d),.sl m 5 (l.map λx=>x.c.map OV.v)]
 have e1:OV.cJ [.v (I a),.v (I b),.v (I c),.v (I d),.sl m 5 (l.map λx=>x.c.map OV.v)]=[(m,rJ l)]:=by
  simp only[OV.fC,OV.gZ,OV.sZ,OV.hJ,aIM,aGF,lW,dT];rfl
 rw[e1]at h1
 have h2:=h1 (λp hp=>by rw[jF.1 hp];exact hm) hH
 rw[aB.aS]
 subst hl
 have e2:[OV.v (I a),.v (I b),.v (I c),.v (I d),.sl m 5 (l.map λx=>x.c.map OV.v)].map OV.pU=[I a,I b,I c,I d,fN 5 aB.c l]:=by
  simp only[nZ,sX,OV.pU,OV.fS,aMI]
 have e3:[OV.v (I a),.v (I b),.v (I c),.v (I d),.sl m 5 (l.map λx=>x.c.map OV.v)].map OV.val=[I a,I b,I c,I d,.os m 5 0 l.length]:=by
  simp only[nZ,sX,OV.val,nG]
 rw[e2,e3]at h2
 exact h2
theorem aS3 {q nb m b:Nat} {h:aE} {X Y Z:bE} (e:(if q=nb then some X else if q=m then some Y else if q=b then some Z else h q)=none):¬q=nb/\¬q=m/\¬q=b/\h q=none:=by grind
theorem bNN {h:aE} {b nb:Nat} {X Y Z:bE} (hb:h b=none) (hn:h nb=none):h.le (aR (aR (aR h b X) nb Y) b Z):=λq=>by
 simp only[aG]
 grind
theorem bIJ {h:aE} {b m nb:Nat} {Z R X Y:bE} (h1:h b=none) (h2:h nb=none) (h3:h m=none):h.le (jL (aR (aR (aR (aR h b Z) m R) nb X) b Y) [m]):=λq=>by
 by_cases e:q=m
 ·rw[e];exact .inl h3
 ·rw[iL (by simp[e])]
  simp only[aG]
  grind
theorem aND {p:aC} {e:aB} {vars funcs:Int} (h:oG p e vars funcs):e.aP=1∨e.aP=2∨(e.aP=3∨e.aP=4)∨e.aP=5∨e.aP=6∨e.aP=7∨e.aP=8∨e.aP=9∨(e.aP=10∨e.aP=11):=by
 have:=rE h
 omega
theorem bIK {h:aE} {b nb m:Nat} {X Y Z R:bE} (hn:¬m=nb):(aR (aR (aR h b Z) m R) nb X).le (aR (aR (aR (aR h b Z) nb Y) m R) nb X):=λq=>by
 simp only[aG]
 grind
theorem bIL {h:aE} {b m nb c:Nat} {Z R X0 R' X:bE} (h1:¬m=b) (h2:¬m=nb) (h3:h m=none) (h4:¬c=nb) (h5:¬c=m):(aR (aR (aR h b Z) c R') nb X).le (aR (aR (aR (aR (aR (aR h b Z) m R) nb X0) m .gone) c R') nb X):=λq=>by
 simp only[aG]
 grind
abbrev ZB:bE:=.row 5 [[.v (I 0),.v (I 0),.v (I 0),.v (I 0),.v .bD]]
theorem aRX {A D:List aB} {k:Nat} (h:k<D.length):(A++D.take (k+1))=(A++D.take k)++[D[k]]:=by
 rw[jU h,aD6]
set_option maxHeartbeats 1000000 in
theorem bIM {p:aC} (hp:p.ok) {funcs:Int} (hf:funcs<=p.aD.length) (e:aB) (hk:e.aP=10∨e.aP=11) (ih:∀ x∈e.aL,aBS p funcs x):aBS p funcs e:=by
 intro v s c hls hok hv hc
 obtain⟨G,Fc⟩:=nD hp hok hf hk
 have hsl:=lN e
 have oks:=cO hok aA
 have hq:=λh=>aRD (h:=h) e.aL (λx _=>uK (p:=p) (funcs:=funcs) x) v c (ints s) (oM s) oks (λx hx=>by have:=kB hx;omega) hc.1 aA
 have hd:=λk (h:k<e.aL.length)=>yQ (k:=k) h (ih _ (gD h) v s c hls (oks _ (gD h)) (by have:=kB (gD h);omega) (by have:=kB (gD h);omega))
 have hnode:=((aB.cN _ _ _ _).1 hok).1
 have hout:oN p e.aW=(G.aN.length:Int):=by rw[oN,Fc.eq]
 have hpl:=hp.1
 rw[pE,slN,if_neg aA,if_neg aA,if_neg aA,if_neg aA,if_neg aA,if_neg aA,if_neg aA,hout]
 have w1:IntKind.i64.wrap (e.aW+p.aD.length)=p.aD.length+e.aW:=by have:=Fc.lo;have:=Fc.hi;rw[IntWalk.i64_in _ aA];omega
 have w2:IntKind.i64.wrap (e.bR+G.aN.length)=e.bR+G.aN.length:=by have:=Fc.pk;have:=Fc.pk2;have:=Fc.outs;rw[IntWalk.i64_in _ aA]
 have eG:=Fc.get
 have hAl:(e.aL.map λx=>qI x v c).length=e.aL.length:=nG _
 have hDl:(e.aL.map λx=>rU (oN p) p.aD.length x v s c).length=e.aL.length:=nG _
 have hDk:∀ k (h:k<e.aL.length),(e.aL.map λx=>rU (oN p) p.aD.length x v s c)[k]'aVG=rU (oN p) p.aD.length (e.fZ k) v s c:=λk h=>by rw[r8,aB.jN h]
 generalize (e.aL.map λx=>qI x v c)=A at *
 generalize (e.aL.map λx=>rU (oN p) p.aD.length x v s c)=D at *
 simp only[aC.aS]at hq hd ⊢
 rw[aB.aS e]at hd ⊢
 have k1:¬e.aP=1:=by omega
 have k2:¬e.aP=2:=by omega
 have k3:¬e.aP=3:=by omega
 have k4:¬e.aP=4:=by omega
 have k5:¬e.aP=5:=by omega
 have k6:¬e.aP=6:=by omega
 have k7:¬e.aP=7:=by omega
 have k8:¬e.aP=8:=by omega
 have k9:¬e.aP=9:=by omega
 refine iN 185 uL aFA aFB Tryz.func113 λh=>?_
 simp -dsimp -implicitDefEqProofs only[go_sem,↓reduceIte,Tryz.f113,k1,k2,k3,k4,k5,k6,k7,k8,k9,w1,w2,eG,aU.aS,aO]
 refine λb hb nb hnb _=>⟨Fc.lo,Fc.hi,λ_=>?_⟩
 obtain⟨kY,dO,dP,mY⟩:=bB (show ¬nb=b from hnb.1)
 refine aJ.gS (hq _) ?_
 rintro r_ h' ⟨o,hos,rfl,rfl⟩
 cases o with
 |none =>
  rw[aZ]at hos
  rw[b5,aQ]
  simp -dsimp -implicitDefEqProofs only[go_sem,↓reduceIte,Tryz.f113,dO,dP,aG,hos]
  have eA:A=[]:=aYT (by rw[hAl,hos];rfl)
  have eD:D=[]:=aYT (by rw[hDl,hos];rfl)
  refine cZ uL aFA aFB (λ_:Unit=>[(6,.op b 5 0 0),(11,.op nb 5 0 0),(171,I 0),(172,I 0)]) (λ_=>aR (aR h b ZB) nb (.row 5 [[.v (I e.aP),.v (I (p.aD.length+e.aW)),.v (I (e.bR+G.aN.length)),.v (I e.bI),.v .bD]])) (λ_=>True) (λ_=>0) () ⟨by simp[c4,b7],by rw[aO];exact aE.le_refl _,trivial⟩ ?_
  intro _ _
  simp -dsimp -implicitDefEqProofs only[go_sem,↓reduceIte,Tryz.f113,bX,dB,dO,dP,aG]
  rw[eA,eD,aB.aS (.mk _ _ _ _ _)]
  exact Shift.of (Sub.agg (.cons (.refl _) (.cons (.refl _) (.cons (.refl _) (.cons (.refl _) (.cons (Sub.nil 5 false) .nil)))))) (bNN hb hnb.2)
 |some m =>
  rw[aV]at hos
  have F:¬m=b/\¬m=nb/\h m=none:=by clear ih hok hnode hv hc hq hd hDk;simp only[aG]at hos;grind
  obtain⟨F1,F2,F3⟩:=F
  obtain⟨rT,fJ,fI,sG⟩:=bB (show ¬m=b from F1)
  obtain⟨mB,cY,cX,kM⟩:=bB (show ¬m=nb from F2)
  rw[aY,aK]
  simp -dsimp -implicitDefEqProofs only[go_sem,↓reduceIte,Tryz.f113,dO,cX,dP,fI,cY,fJ,aG]
  intro _
  refine cZ uL aFA aFB (λx:Nat×Nat=>[(6,.op b 5 0 0),(8,.fn (.func 154) [] [.ip 1 [[fN 3 aU.c p.aD]] 0 0,.ip 5 [[I e.aP,I e.aW,I e.bR,I e.bI,fN 5 aB.c e.aL]] 0 0,.ip 3 [[I c,ints v,ints s]] 0 0]),(11,.op nb 5 0 0),(171,I e.aL.length),(172,I x.1)]) (λx=>aR (aR (aR h b ZB) x.2 (rJ (A++D.take x.1))) nb (.row 5 [[.v (I e.aP),.v (I (p.aD.length+e.aW)),.v (I (e.bR+G.aN.length)),.v (I e.bI),.v (.os x.2 5 0 (e.aL.length+x.1))]])) (λx=>x.1<=e.aL.length/\¬x.2=b/\¬x.2=nb/\h x.2=none) (λx=>e.aL.length-x.1) (0,m) ⟨by simp[c4,b7],?_,fE _,F1,F2,F3⟩ ?_
  ·simp only[aSF,dT,aNG]
   exact bIK F2
  rintro⟨k,m⟩ ⟨hkk,F1,F2,F3⟩
  simp only at hkk F1 F2 F3 ⊢
  obtain⟨rT,fJ,fI,sG⟩:=bB (show ¬m=b from F1)
  obtain⟨mB,cY,cX,kM⟩:=bB (show ¬m=nb from F2)
  rcases bZ k e.aL.length with hlt|hge
  ·have hx:=hd k hlt
   have hlL:(A++D.take k).length=e.aL.length+k:=by rw[mV,jT];omega
   have hg:=aRX (A:=A) (D:=D) (k:=k) aA
   rw[hDk k hlt]at hg
   generalize rU (oN p) p.aD.length (e.fZ k) v s c=y at *
   simp only[aB.aS y]at hx
   simp -dsimp -implicitDefEqProofs only[go_sem,↓reduceIte,Tryz.f113,dO,cX,dP,fI,cY,fJ,aG,hlt]
   first|refine aJ.mk (hx) ?_|refine aF.mk (hx) ?_|refine aJ.bA (hx) ?_|refine aF.mk (aX.cU (hx)) ?_
   simp -dsimp -implicitDefEqProofs only[go_sem,↓reduceIte,Tryz.f113,dO,cX,dP,fI,cY,fJ,aG]
   rw[rJ]
   simp -dsimp -implicitDefEqProofs only[go_sem,↓reduceIte,Tryz.f113,dO,cX,dP,fI,cY,fJ,aG]
   refine⟨by decide,by decide,by decide,by omega,by omega,by omega,λb2 qb=>?_⟩
   obtain⟨G1,G2,G3,G4⟩:=aS3 qb
   obtain⟨a8S,aWK,aWL,bL8⟩:=bB (show ¬b2=nb from G1)
   obtain⟨bUB,a4G,a4H,bUC⟩:=bB (show ¬b2=m from G2)
   obtain⟨bGK,a4I,a4J,bGL⟩:=bB (show ¬b2=b from G3)
   simp -dsimp -implicitDefEqProofs only[go_sem,↓reduceIte,Tryz.f113,dO,cX,aWL,dP,fI,a4J,cY,fJ,a4H,aWK,a4I,a4G,aG]
   rw[oO _ y hlL,←hg]
   refine⟨(k+1,b2),IntWalk.i64_in _ aA,bIL F1 F2 F3 G1 G2,⟨hlt,G3,G1,G4⟩,by simp only;omega⟩
  ·obtain rfl:k=e.aL.length:=by omega
   simp -dsimp -implicitDefEqProofs only[go_sem,↓reduceIte,Tryz.f113,bX,dB,dO,cX,dP,fI,cY,fJ,aG]
   rw[pQ aA]
   exact aIN _ _ _ _ a6H bDY (bIJ hb hnb.2 F3)
theorem bIN {p:aC} (hp:p.ok) {funcs:Int} (hf:funcs<=p.aD.length) (e:aB):aBS p funcs e:=by
 have ih:∀ x∈e.aL,aBS p funcs x:=λx hx=>bIN hp hf x
 intro v s c hls hok hv hc
 have hnode:=((aB.cN _ _ _ _).1 hok).1
 have hk:=aND hnode
 rcases hk with hk|hk|hk|hk|hk|hk|hk|hk|hk
 ·exact bMF e hk ih v s c hls hok hv hc
 ·exact bMG e hk ih v s c hls hok hv hc
 ·exact bMI e hk ih v s c hls hok hv hc
 ·exact bMJ e hk ih v s c hls hok hv hc
 ·exact bMK e hk ih v s c hls hok hv hc
 ·exact bMH e hk ih v s c hls hok hv hc
 ·exact bML e hk ih v s c hls hok hv hc
 ·exact bMM e hk ih v s c hls hok hv hc
 ·exact bIM hp hf e hk ih v s c hls hok hv hc
termination_by SizeOf.sizeOf e
decreasing_by exact aB.wQ hx
theorem a5C {E:Env} {h:aE} {w:World} {b sz:Nat} {es es':List (List Cell)} (hb:h b=some (.row sz es)) (q:Nat) (i:qK E h w q):qK E (aR h b (.row sz es')) w q:=⟨i.1,λn o ho hl=>by
 by_cases e:n=b
 ·subst e;exact i.2 n _ hb trivial
 ·rw[aI _ _ _ _ e]at ho;exact i.2 n o ho hl⟩
theorem aJ.a5D {P:Program} {f:FuncId} {args:List aH} {h:aE} {K:aH->aE->Prop} {t:Tag K} {m b sz sz2:Nat} {es es2:List (List Cell)} (hm:h m=some (.row sz es)) (hb:h b=some (.row sz2 es2)) (hne:¬b=m) (hok:∀ i j x,kA es2 i j=some (.v x)->gA m sz es.length x=true) (hba:jG m sz es.length args=true)
  (a:jC P f (lX m (fO es) args) (aR (aR h m .gone) b (.row sz2 (es2.map (List.map (Cell.sH m (fO es)))))) K):aJ P f args h K t :=
 ⟨a.1,λE w vs R r=>(a.2 E w vs (aE.aKD hm hb hne hok E w R).1 ((r.vB R hm hba).sB (a5C (by rw[aI _ _ _ _ hne];exact hb)))).mono λe w' q=>by
  cases e with
  |returned v =>
   obtain⟨r,h',E',k,ev,R2,r2⟩:=q
   exact⟨r,h',E',k,(aE.wk.ev (aE.aKD hm hb hne hok) R).trans ev,R2,r2⟩
  | _=>exact q.elim⟩
theorem aJ.bCH {P:Program} {f:FuncId} {h:aE} {K:aH->aE->Prop} {t:Tag K} {m1 m2 nt len:Nat} {a b:aH} {c:Int} {v s:List Int} (na:∀ m es k,a.eM m es=a/\gA m 1 k a=true) (nb:∀ m es k,b.eM m es=b/\gA m 1 k b=true) (hv:v.length=len) (hs:s.length=len) (h1:h m1=some (lI v)) (h2:h m2=some (lI s)) (h3:h nt=some (.row 3 [[.v (I c),.v (.os m1 1 0 len),.v (.os m2 1 0 len)]])) (d1:¬m1=nt) (d2:¬m2=nt) (d3:¬m2=m1)
  (x:jC P f [a,b,.agg [I c,ints v,ints s]] (aR (aR (aR h m1 .gone) m2 .gone) nt (.row 3 [[.v (I c),.v (ints v),.v (ints s)]])) K):aJ P f [a,b,.agg [I c,.os m1 1 0 len,.os m2 1 0 len]] h K t:=by
 have l1:(v.map λn=>[I n]).length=len:=by rw[nG,hv]
 have l2:(s.map λn=>[I n]).length=len:=by rw[nG,hs]
 have t1:List.take len (v.map λn=>[I n])=v.map λn=>[I n]:=pQ aA
 have t2:List.take len (s.map λn=>[I n])=s.map λn=>[I n]:=pQ aA
 have at_:∀ (x y z:Cell) i j w,kA [[x,y,z]] i j=some w->w=x∨w=y∨w=z:=λx y z i j w hw=>by
  obtain⟨e,e1,e2⟩:=lG hw
  have:=nO e1
  rw[jF.1 this]at e2
  simpa using nO e2
 refine aJ.a5D (m:=m1) (b:=nt) h1 h3 (l5 d1) (λi j y hy=>?_) (by simp[jG,gA,(na m1 [] _).2,(nb m1 [] _).2,l1,hv,d3]) ?_
 ·rcases at_ _ _ _ i j _ hy with e|e|e <;> cases e <;> simp[gA,l1,d3,hv]
 rw[kJ]
 have e1:lX m1 (v.map λn=>[I n]) [a,b,.agg [I c,.os m1 1 0 len,.os m2 1 0 len]]=[a,b,.agg [I c,ints v,.os m2 1 0 len]]:=by
  simp only[lX,aH.eM,(na m1 (v.map λn=>[I n]) 0).1,(nb m1 (v.map λn=>[I n]) 0).1,if_true,if_neg d3,aG8,t1]
 have c1:[[Cell.v (I c),.v (.os m1 1 0 len),.v (.os m2 1 0 len)]].map (List.map (Cell.sH m1 (v.map λn=>[I n])))=[[Cell.v (I c),.v (ints v),.v (.os m2 1 0 len)]]:=by
  simp only[nZ,sX,Cell.sH,aH.eM,if_true,if_neg d3,aG8,t1]
 rw[e1,c1]
 refine aJ.a5D (t:=()) (m:=m2) (b:=nt) (es:=(s.map λn=>[I n]).map (List.map .v)) (by rw[aI _ _ _ _ d2,aI _ _ _ _ d3];exact h2) (aM ..) (l5 d2) (λi j y hy=>?_) (by simp[jG,gA,(na m2 [] _).2,(nb m2 [] _).2,l2,hs]) ?_
 ·rcases at_ _ _ _ i j _ hy with e|e|e <;> cases e <;> simp[gA,l2,hs]
 rw[kJ]
 have e2:lX m2 (s.map λn=>[I n]) [a,b,.agg [I c,ints v,.os m2 1 0 len]]=[a,b,.agg [I c,ints v,ints s]]:=by
  simp only[lX,aH.eM,(na m2 (s.map λn=>[I n]) 0).1,(nb m2 (s.map λn=>[I n]) 0).1,if_true,aG8,t2]
 have c2:[[Cell.v (I c),.v (ints v),.v (.os m2 1 0 len)]].map (List.map (Cell.sH m2 (s.map λn=>[I n])))=[[Cell.v (I c),.v (ints v),.v (ints s)]]:=by
  simp only[nZ,sX,Cell.sH,aH.eM,if_true,aG8,t2]
 rw[e2,c2]
 have hh:aR (aR (aR (aR h m1 .gone) nt (.row 3 [[.v (I c),.v (ints v),.v (.os m2 1 0 len)]])) m2 .gone) nt (.row 3 [[.v (I c),.v (ints v),.v (ints s)]])=aR (aR (aR h m1 .gone) m2 .gone) nt (.row 3 [[.v (I c),.v (ints v),.v (ints s)]]):=by
  funext q
  simp only[aG]
  grind
 rw[hh]
 exact x
def rR (P:Int) (n:Nat):List Int:=(List.range n).map λi:Nat=>P+(i:Int)
theorem aOL (P:Int) (n:Nat):rR P (n+1)=rR P n++[P+(n:Int)]:=by rw[rR,a6B,kS];rfl
theorem aIO (P:Int) (n:Nat):(rR P n).length=n:=by simp[rR]
theorem b24 (n:Nat):rR 0 n=vR n:=aG7 λi _=>by omega
theorem b25 (n:Nat):rR (n:Int) n=sR n:=aG7 λi _=>by omega
theorem wF {q a:Nat} {h:aE} {X:bE} (e:(if q=a then some X else h q)=none):¬q=a/\h q=none:=by grind
theorem aFM {q a b:Nat} {h:aE} {X Y:bE} (e:(if q=a then some X else if q=b then some Y else h q)=none):¬q=a/\¬q=b/\h q=none:=by grind
theorem bVR {h:aE} {m1 m2 nt:Nat} {R1 R2 X Y Z:bE} (h1:¬m1=nt) (h2:¬m2=nt) (h3:¬m2=m1):(aR (aR (aR h m1 R1) m2 R2) nt X).le (aR (aR (aR (aR (aR h nt Z) m1 R1) m2 R2) nt Y) nt X):=λq=>by
 simp only[aG]
 grind
theorem b92 {q a b c d:Nat} {h:aE} {X Y Z U:bE} (e:(if q=a then some X else if q=b then some .gone else if q=c then some Y else if q=d then some Z else if q=b then some U else h q)=none):¬q=a/\¬q=b/\¬q=c/\¬q=d/\h q=none:=by grind
theorem bVS {h:aE} {m1 m2 nt c1 c2:Nat} {R1 R2 R3 R4 X Y Z:bE} (h1:h m1=none) (h2:h m2=none) (d1:¬m1=nt) (d2:¬m2=nt) (d3:¬c1=nt) (d4:¬c1=m1) (d5:¬c2=m1) (d6:¬c2=m2) (d7:¬c1=m2):(aR (aR (aR h c1 R3) c2 R4) nt Z).le (aR (aR (aR (aR (aR (aR (aR (aR (aR h m1 R1) m2 R2) nt X) m1 .gone) c1 R3) m2 .gone) c2 R4) nt Y) nt Z):=λq=>by
 simp only[aG]
 grind
def scH (HB:aE) (nt n i:Nat):Option (Nat×Nat)->aE
 |none=>aR HB nt (.row 3 [[.v (I (2*n)),.v .bD,.v .bD]])
 |some (m1,m2)=>aR (aR (aR HB m1 (lI (rR 0 i))) m2 (lI (rR n i))) nt (.row 3 [[.v (I (2*n)),.v (.os m1 1 0 i),.v (.os m2 1 0 i)]])
def scS (HB:aE) (nt i:Nat):Option (Nat×Nat)->Prop
 |none=>i=0
 |some (m1,m2)=>¬m1=nt/\¬m2=nt/\¬m2=m1/\HB m1=none/\HB m2=none
theorem aIP {h H:aE} {m len:Nat} {l:List aB} (nm:List UInt8) (P:Int) (hm:H m=some (rJ l)) (hl:len=l.length) (hH:h.le (jL H [m])):Shift (.agg [.str nm,I P,.os m 5 0 len]) H (.agg (aU.mk nm P l).c) h:=by
 have h1:=Shift.own (h:=h) (h':=H) [.v (.str nm),.v (I P),.sl m 5 (l.map λx=>x.c.map OV.v)]
 have e1:OV.cJ [.v (.str nm),.v (I P),.sl m 5 (l.map λx=>x.c.map OV.v)]=[(m,rJ l)]:=by
  simp only[OV.fC,OV.gZ,OV.sZ,OV.hJ,aIM,aGF,lW,dT];rfl
 rw[e1]at h1
 have h2:=h1 (λp hp=>by rw[jF.1 hp];exact hm) hH
 rw[aU.aS]
 subst hl
 have e2:[OV.v (.str nm),.v (I P),.sl m 5 (l.map λx=>x.c.map OV.v)].map OV.pU=[.str nm,I P,fN 5 aB.c l]:=by
  simp only[nZ,sX,OV.pU,OV.fS,aMI]
 have e3:[OV.v (.str nm),.v (I P),.sl m 5 (l.map λx=>x.c.map OV.v)].map OV.val=[.str nm,I P,.os m 5 0 l.length]:=by
  simp only[nZ,sX,OV.val,nG]
 rw[e2,e3]at h2
 exact h2
theorem bVT {q a b c:Nat} {h:aE} {X Y Z U:bE} (e:(if q=a then some X else if q=a then some Y else if q=b then some Z else if q=c then some U else h q)=none):¬q=a/\¬q=b/\¬q=c/\h q=none:=by grind
theorem a9P {h:aE} {m c nx ne:Nat} {R R' X X0 Y Z:bE} (h1:h m=none) (h2:h ne=none) (d1:¬m=nx) (d2:¬c=nx) (d3:¬c=m) (d4:¬ne=nx):(aR (aR h c R') nx X).le (aR (aR (aR (aR (aR (aR (aR h m R) nx X0) ne Y) ne Z) m .gone) c R') nx X):=λq=>by
 simp only[aG]
 grind
theorem aFN {h H:aE} {b m nx:Nat} {R X Y:bE} (hl:h.le H) (h1:h b=none) (h2:h nx=none) (h3:h m=none):h.le (jL (aR (aR (aR H m R) nx X) b Y) [m]):=λq=>by
 by_cases e:q=m
 ·rw[e];exact .inl h3
 ·rw[iL (by simp[e])]
  have:=hl q
  simp only[aG]
  grind
@[go_sem] def aXR:List Nat:=[0,1,2,4,5,6,7,8,10,34,35,36,61,62,63,64]
@[go_sem] def bNO:List Nat:=[2,41,49,73]
@[go_sem] def bNP:Marks:=λid=>match id with|2=>([9,12,13],(.op 0 (.op 1 (.op 2 (.op 3 (.op 4 (.op 5 (.op 6 (.op 7 (.op 8 (.op 9 (.op 10 (.op 11 (.op 12 (.op 13 .nil)))))))))))))),[(9,12)])|7=>([1,4,6,8,12,14,16],(.op 0 (.op 2 (.op 3 (.op 5 (.op 7 (.op 9 (.op 1 (.op 6 (.op 8 (.op 10 (.op 11 (.op 4 (.op 13 (.op 12 (.op 14 (.op 15 (.op 16 .nil))))))))))))))))),[(6,4),(8,4)])|13=>([1,3,4,7,9],(.op 0 (.op 2 (.op 1 (.op 3 (.op 4 (.op 5 (.op 6 (.op 7 (.op 8 (.op 9 .nil)))))))))),[])|_=>([],.nil,[])
set_option maxHeartbeats 1000000 in
theorem bIO {p:aC} (hp:p.ok) (f:Nat) (hf:f<p.aD.length):fM Tryz.prog 49 [.agg p.c,I f] (.agg (vG (λg=>100::Go.Lib.itoa ((p.aD.length+g:Nat):Int)) p f p.aD[f]).c):=by
 have eG:p.aD[f]?=some p.aD[f]:=cM hf
 generalize hGe:p.aD[f]=G at *
 obtain⟨g1,g2,g3,g4,g5,g6⟩:=hp.2 f G eG
 have hpl:=hp.1
 have hdec:=bFC ((p.aD.length+f:Nat):Int) aA
 obtain⟨n,hn⟩:∃ n:Nat,G.aT=n:=⟨G.aT.toNat,by omega⟩
 have hgs:∀ x∈G.aN,x.s<=400/\x.ok p f (vR n).length:=λx hx=>by
  have h1:=vN aB.s hx
  rw[l8]at g5
  have h2:=(g6 x hx).2.2.2.2
  rw[aEC,←hn]
  exact⟨by omega,h2⟩
 have hol:=g4
 have hslp:=λk (h:k<G.aN.length)=>bIN hp (funcs:=f) aA G.aN[k] (vR n) (sR n) (2*n) (by rw[aEC,aWO]) (hgs _ (eI h)).2 bDR bDW
 have hall:=λH=>aRD (h:=H) (p:=p) (funcs:=f) G.aN (λx _=>uK x) (vR n) (2*n) (ints (sR n)) (oM _) (λx hx=>(hgs x hx).2) (λx hx=>by have:=(hgs x hx).1;rw[aEC];omega) aA aA
 have hdf:vG (λg=>100::Go.Lib.itoa ((p.aD.length+g:Nat):Int)) p f G=⟨100::Go.Lib.itoa ((p.aD.length+f:Nat):Int),2*(n:Int),(G.aN.map λx=>qI x (vR n) (2*n))++G.aN.map λx=>rU (oN p) p.aD.length x (vR n) (sR n) (2*n)⟩:=by rw[vG,hn,nU]
 rw[hdf]
 have hAl:(G.aN.map λx=>qI x (vR n) (2*n)).length=G.aN.length:=nG _
 have hDl:(G.aN.map λx=>rU (oN p) p.aD.length x (vR n) (sR n) (2*n)).length=G.aN.length:=nG _
 have hDk:∀ k (h:k<G.aN.length),(G.aN.map λx=>rU (oN p) p.aD.length x (vR n) (sR n) (2*n))[k]'aVG=rU (oN p) p.aD.length G.aN[k] (vR n) (sR n) (2*n):=λk h=>by rw[r8]
 generalize (G.aN.map λx=>qI x (vR n) (2*n))=A at *
 generalize (G.aN.map λx=>rU (oN p) p.aD.length x (vR n) (sR n) (2*n))=D at *
 have w1:IntKind.i64.wrap (2*(n:Int))=2*(n:Int):=IntWalk.i64_in _ aA
 have w2:IntKind.i64.wrap ((p.aD.length:Int)+(f:Int))=((p.aD.length+f:Nat):Int):=by rw[IntWalk.i64_in _ aA];omega
 simp only[aC.aS]
 have hil:=qN (n:=((p.aD.length+f:Nat):Int)) aA aA
 have hst:[100]++Go.Lib.itoa ((p.aD.length+f:Nat):Int)=100::Go.Lib.itoa ((p.aD.length+f:Nat):Int):=rfl
 generalize Go.Lib.itoa ((p.aD.length+f:Nat):Int)=dn at *
 refine iN 78 aXR bNO bNP Tryz.func49 λh=>?_
 simp -dsimp -implicitDefEqProofs only[go_sem,↓reduceIte,Tryz.f49,eG,aU.aS,hn,w1,w2,aO]
 refine λb hb=>⟨hf,λno hno=>?_⟩
 obtain⟨b93,lP,lQ,b94⟩:=bB (show ¬no=b from hno.1)
 first|refine aJ.mk (hdec) ?_|refine aF.mk (hdec) ?_|refine aJ.bA (hdec) ?_|refine aF.mk (aX.cU (hdec)) ?_
 simp -dsimp -implicitDefEqProofs only[go_sem,↓reduceIte,Tryz.f49,aO,w1]
 refine⟨by omega,λnx hnx=>?_⟩
 obtain⟨b5T,jP,jQ,b5U⟩:=bB (show ¬nx=no from hnx.1)
 obtain⟨a5E,kK,kL,bVU⟩:=bB (show ¬nx=b from hnx.2.1)
 refine⟨by simp only[aG,jP,kK,jQ,lP,kL,lQ,↓reduceIte],?_⟩
 simp -dsimp -implicitDefEqProofs only[go_sem,↓reduceIte,Tryz.f49,jP,kK,jQ,lP,kL,lQ,aG,aO,w1]
 intro nt hnt
 obtain⟨G1,G2,G3,G4⟩:=aS3 hnt
 obtain⟨b5V,iR,iQ,bNQ⟩:=bB (show ¬nt=nx from G1)
 obtain⟨b5W,jS,jR,bNR⟩:=bB (show ¬nt=no from G2)
 obtain⟨a5F,l7,l6,a5G⟩:=bB (show ¬nt=b from G3)
 simp -dsimp -implicitDefEqProofs only[go_sem,↓reduceIte,Tryz.f49,jP,kK,iQ,jQ,lP,jR,kL,lQ,l6,iR,jS,l7,aG,aO,w1]
 obtain⟨HB,hHB⟩:∃ H:aE,H=aR (aR (aR h b (.row 3 [[.v (.str []),.v (I 0),.v .bD]])) no (.row 3 [[.v (.str G.e8),.v (I n),.v (fN 5 aB.c G.aN)]])) nx (.row 3 [[.v (.str (100::dn)),.v (I (2*n)),.v .bD]]):=⟨_,rfl⟩
 rw[←hHB]
 have hB1:HB no=some (.row 3 [[.v (.str G.e8),.v (I n),.v (fN 5 aB.c G.aN)]]):=by rw[hHB];simp only[aG,jP,kK,iQ,jQ,lP,jR,kL,lQ,l6,iR,jS,l7,↓reduceIte]
 have hB2:HB nx=some (.row 3 [[.v (.str (100::dn)),.v (I (2*n)),.v .bD]]):=by rw[hHB];simp only[aG,jP,kK,iQ,jQ,lP,jR,kL,lQ,l6,iR,jS,l7,↓reduceIte]
 have hB5:HB b=some (.row 3 [[.v (.str []),.v (I 0),.v .bD]]):=by rw[hHB];simp only[aG,jP,kK,iQ,jQ,lP,jR,kL,lQ,l6,iR,jS,l7,↓reduceIte]
 have hB6:h.le HB:=λq=>by rw[hHB];simp only[aG];grind
 have hB3:HB nt=none:=by rw[hHB];simp only[aG,jP,kK,iQ,jQ,lP,jR,kL,lQ,l6,iR,jS,l7,↓reduceIte];exact G4
 have hB4:∀ q,HB q=none->¬q=nx/\¬q=no/\¬q=b/\h q=none:=λq hq=>by
  rw[hHB]at hq
  simp only[aG]at hq
  exact aS3 hq
 refine cZ aXR bNO bNP (λx:Nat×Option (Nat×Nat)=>[(2,.ip 1 [[fN 3 aU.c p.aD]] 0 0),(4,.op b 3 0 0),(5,.op no 3 0 0),(6,.op nx 3 0 0),(7,.op nt 3 0 0),(34,I n),(35,I x.1)]) (λx=>scH HB nt n x.1 x.2) (λx=>x.1<=n/\scS HB nt x.1 x.2) (λx=>n-x.1) (0,none) ⟨by simp[c4,b7],aE.le_refl _,fE _,rfl⟩ ?_
 rintro⟨i,o⟩ ⟨hi,hos⟩
 simp only at hi hos ⊢
 rcases bZ i n with hlt|hge
 ·have w3:IntKind.i64.wrap ((n:Int)+(i:Int))=(n:Int)+(i:Int):=IntWalk.i64_in _ aA
  cases o with
  |none =>
   obtain rfl:i=0:=hos
   rw[scH]
   simp -dsimp -implicitDefEqProofs only[go_sem,↓reduceIte,Tryz.f49,jP,kK,iQ,jQ,lP,jR,kL,lQ,l6,iR,jS,l7,aG,hB1,hlt,w3]
   refine⟨by decide,by decide,by decide,by decide,by decide,λm1 hm1=>?_⟩
   obtain⟨F1,F2⟩:=wF hm1
   obtain⟨F3,F4,F5,F6⟩:=hB4 m1 F2
   obtain⟨a9Q,sO,sM,a9R⟩:=bB (show ¬m1=nt from F1)
   obtain⟨a9S,tU,tQ,a9T⟩:=bB (show ¬m1=nx from F3)
   obtain⟨a9U,sN,sK,a9V⟩:=bB (show ¬m1=no from F4)
   obtain⟨aIB,eK,eJ,aIC⟩:=bB (show ¬m1=b from F5)
   refine⟨by simp only[jR,sK,jS,sM,sN,sO,↓reduceIte,and_self],by decide,λm2 hm2=>?_⟩
   obtain⟨K1,K2,K3⟩:=aFM hm2
   obtain⟨K4,K5,K6,K7⟩:=hB4 m2 K3
   obtain⟨aC3,c8,c7,aC4⟩:=bB (show ¬m2=m1 from K1)
   obtain⟨a9W,tX,tT,a9X⟩:=bB (show ¬m2=nt from K2)
   obtain⟨a9Y,tV,tR,a9Z⟩:=bB (show ¬m2=nx from K4)
   obtain⟨a90,tW,tS,a92⟩:=bB (show ¬m2=no from K5)
   obtain⟨aC1,dK,dJ,aC2⟩:=bB (show ¬m2=b from K6)
   simp -dsimp -implicitDefEqProofs only[go_sem,↓reduceIte,Tryz.f49,jP,kK,iQ,tQ,tR,jQ,lP,jR,sK,tS,kL,lQ,l6,eJ,dJ,iR,jS,l7,sM,tT,tU,sN,eK,sO,c7,tV,tW,dK,tX,c8,aG]
   exact⟨(1,some (m1,m2)),IntWalk.i64_in _ aA,bVR F1 K2 K1,⟨hlt,F1,K2,K1,F2,K3⟩,by simp only;omega⟩
  |some mm =>
   obtain⟨m1,m2⟩:=mm
   obtain⟨F1,F2,F3,F4,F5⟩:=hos
   rw[scH]
   obtain⟨H3,H4,H5,H6⟩:=hB4 m1 F4
   obtain⟨K4,K5,K6,K7⟩:=hB4 m2 F5
   obtain⟨a9Q,sO,sM,a9R⟩:=bB (show ¬m1=nt from F1)
   obtain⟨a9U,sN,sK,a9V⟩:=bB (show ¬m1=no from H4)
   obtain⟨a9W,tX,tT,a9X⟩:=bB (show ¬m2=nt from F2)
   obtain⟨a90,tW,tS,a92⟩:=bB (show ¬m2=no from K5)
   obtain⟨aC3,c8,c7,aC4⟩:=bB (show ¬m2=m1 from F3)
   have l1:=aIO 0 i
   have l2:=aIO n i
   obtain⟨a9S,tU,tQ,a9T⟩:=bB (show ¬m1=nx from H3)
   obtain⟨aIB,eK,eJ,aIC⟩:=bB (show ¬m1=b from H5)
   obtain⟨a9Y,tV,tR,a9Z⟩:=bB (show ¬m2=nx from K4)
   obtain⟨aC1,dK,dJ,aC2⟩:=bB (show ¬m2=b from K6)
   simp -dsimp -implicitDefEqProofs only[go_sem,↓reduceIte,Tryz.f49,jP,kK,iQ,tQ,tR,jQ,lP,jR,sK,tS,kL,lQ,l6,eJ,dJ,iR,jS,l7,sM,tT,tU,sN,eK,sO,c7,tV,tW,dK,tX,c8,aG,hB1,hlt,w3,lI,nG,l1,l2]
   refine⟨by decide,by decide,by decide,by decide,by decide,iH _,by omega,by omega,λc1 hc1=>?_⟩
   obtain⟨J1,J2,J3,J4⟩:=aS3 hc1
   obtain⟨J5,J6,J7,J8⟩:=hB4 c1 J4
   obtain⟨b5X,aXS,aXT,b5Y⟩:=bB (show ¬c1=nt from J1)
   obtain⟨a94,vL,vM,a95⟩:=bB (show ¬c1=m2 from J2)
   obtain⟨b5Z,a96,a97,b50⟩:=bB (show ¬c1=m1 from J3)
   obtain⟨b51,a98,a99,b52⟩:=bB (show ¬c1=nx from J5)
   obtain⟨b53,aXU,aXV,b54⟩:=bB (show ¬c1=no from J6)
   obtain⟨bIP,rW,rX,bIQ⟩:=bB (show ¬c1=b from J7)
   refine⟨by simp only[jR,aXV,jS,aXT,aXU,aXS,↓reduceIte,and_self],by decide,?_⟩
   simp -dsimp -implicitDefEqProofs only[go_sem,↓reduceIte,Tryz.f49,jP,kK,iQ,tQ,tR,a99,jQ,lP,jR,sK,tS,aXV,kL,lQ,l6,eJ,dJ,rX,iR,jS,l7,sM,tT,aXT,tU,sN,eK,sO,c7,a97,tV,tW,dK,tX,c8,vM,a98,aXU,rW,aXS,a96,vL,aG,nG,l1,l2]
   refine⟨iH _,by omega,by omega,λc2 hc2=>?_⟩
   obtain⟨L1,L2,L3,L4,L5⟩:=b92 hc2
   obtain⟨L6,L7,L8,L9⟩:=hB4 c2 L5
   obtain⟨aOM,qZ,rA,aON⟩:=bB (show ¬c2=c1 from L1)
   obtain⟨b55,bNS,bNT,b56⟩:=bB (show ¬c2=m1 from L2)
   obtain⟨b57,bNU,bNV,b58⟩:=bB (show ¬c2=nt from L3)
   obtain⟨bAA,aB3,aB4,bAB⟩:=bB (show ¬c2=m2 from L4)
   obtain⟨b59,bNW,bNX,b6A⟩:=bB (show ¬c2=nx from L6)
   obtain⟨b6B,bNY,bNZ,b6C⟩:=bB (show ¬c2=no from L7)
   obtain⟨aXW,u6,u7,aXX⟩:=bB (show ¬c2=b from L8)
   simp -dsimp -implicitDefEqProofs only[go_sem,↓reduceIte,Tryz.f49,jP,kK,iQ,tQ,tR,a99,bNX,jQ,lP,jR,sK,tS,aXV,bNZ,kL,lQ,l6,eJ,dJ,rX,u7,iR,jS,l7,sM,tT,aXT,bNV,tU,sN,eK,sO,c7,a97,bNT,tV,tW,dK,tX,c8,vM,aB4,a98,aXU,rW,aXS,a96,vL,rA,bNW,bNY,u6,bNU,bNS,aB3,qZ,aG]
   have r1:bE.row 1 (List.take i (List.map (List.map Cell.v) (List.map (λn=>[I n]) (rR 0 i)))++[[Cell.v (I i)]])=lI (rR 0 (i+1)):=by
    rw[aOL,aA1,pQ (by rw[nG,nG,l1];exact iH _),Int.zero_add]
   have r2:bE.row 1 (List.take i (List.map (List.map Cell.v) (List.map (λn=>[I n]) (rR n i)))++[[Cell.v (I (n+i))]])=lI (rR n (i+1)):=by
    rw[aOL,aA1,pQ (by rw[nG,nG,l2];exact iH _)]
   rw[r1,r2]
   exact⟨(i+1,some (c1,c2)),IntWalk.i64_in _ aA,bVS F4 F5 F1 F2 J1 J3 L2 L4 J2,⟨hlt,J1,L3,L1,J4,L5⟩,by simp only;omega⟩
 ·obtain rfl:i=n:=by omega
  cases o with
  |none =>
   obtain rfl:i=0:=hos
   rw[scH]
   simp -dsimp -implicitDefEqProofs only[go_sem,↓reduceIte,Tryz.f49,jP,kK,iQ,jQ,lP,jR,kL,lQ,l6,iR,jS,l7,aG,hB1,hB2,bX,dB]
   obtain⟨HS,hHS⟩:∃ H:aE,H=aR HB nt (.row 3 [[.v (I (2*(0:Nat))),.v .bD,.v .bD]]):=⟨_,rfl⟩
   rw[←hHS]
   have S1:HS no=some (.row 3 [[.v (.str G.e8),.v (I (0:Nat)),.v (fN 5 aB.c G.aN)]]):=by rw[hHS,aI _ _ _ _ bNR];exact hB1
   have S2:HS nx=some (.row 3 [[.v (.str (100::dn)),.v (I (2*(0:Nat))),.v .bD]]):=by rw[hHS,aI _ _ _ _ bNQ];exact hB2
   have S3:HS nt=some (.row 3 [[.v (I (2*(0:Nat))),.v .bD,.v .bD]]):=by rw[hHS];exact aM ..
   have S5:HS b=some (.row 3 [[.v (.str []),.v (I 0),.v .bD]]):=by rw[hHS,aI _ _ _ _ a5G];exact hB5
   have S4:h.le HS:=λq=>by rw[hHS];exact(Decidable.em (q=nt)).elim (λe=>by rw[e];exact .inl G4) (λe=>by rw[aI _ _ _ _ e];exact hB6 q)
   clear hHS
   have hS0:∀ q,HS q=none->¬q=no/\¬q=nx/\¬q=b/\¬q=nt/\h q=none:=λq hq=>⟨λe=>(by rw[e,S1]at hq;cases hq),λe=>(by rw[e,S2]at hq;cases hq),λe=>(by rw[e,S5]at hq;cases hq),λe=>(by rw[e,S3]at hq;cases hq),(S4 q).elim id λe=>(by first|(rw[←e];exact hq)|(rw[e];exact hq))⟩
   refine jC.mono (jC.sub (.cons (.refl _) (.cons (.refl _) (.cons (Sub.agg (.cons (.refl _) (.cons (Sub.nil 1 false) (.cons (Sub.nil 1 false) .nil)))) .nil))) (hall HS)) ?_
   rintro r_ h' ⟨o,hos,rfl,rfl⟩
   cases o with
   |none =>
    rw[aZ]at hos
    exact absurd (congrArg List.length hos) (by simp only[al3];omega)
   |some m =>
    rw[aV]at hos
    obtain⟨P0,P1,P2,P3,P4⟩:=hS0 m hos
    obtain⟨a5H,aAI,aAJ,a5I⟩:=bB (show ¬m=no from P0)
    obtain⟨a5J,rZ,rY,a5K⟩:=bB (show ¬m=nx from P1)
    obtain⟨rT,fJ,fI,sG⟩:=bB (show ¬m=b from P2)
    obtain⟨aRY,p0,pZ,aRZ⟩:=bB (show ¬m=nt from P3)
    rw[aY,aK]
    simp -dsimp -implicitDefEqProofs only[go_sem,↓reduceIte,Tryz.f49,kK,iQ,rY,jP,kL,l6,fI,lQ,iR,l7,pZ,jS,rZ,fJ,p0,aAI,jQ,lP,jR,aAJ,aG,S1,S2,S3]
    intro _
    refine cZ aXR bNO bNP (λx:Nat×Nat=>[(2,.ip 1 [[fN 3 aU.c p.aD]] 0 0),(4,.op b 3 0 0),(6,.op nx 3 0 0),(7,.op nt 3 0 0),(61,fN 5 aB.c G.aN),(62,I G.aN.length),(63,I x.1)]) (λx=>aR (aR HS x.2 (rJ (A++D.take x.1))) nx (.row 3 [[.v (.str (100::dn)),.v (I (2*(0:Nat))),.v (.os x.2 5 0 (G.aN.length+x.1))]])) (λx=>x.1<=G.aN.length/\HS x.2=none) (λx=>G.aN.length-x.1) (0,m) ⟨by simp[c4,b7],?_,fE _,hos⟩ ?_
    ·simp only[aSF,dT,aNG]
     exact aE.le_refl _
    rintro⟨k,m⟩ ⟨hkk,hos⟩
    simp only at hkk hos ⊢
    obtain⟨P0,P1,P2,P3,P4⟩:=hS0 m hos
    obtain⟨a5H,aAI,aAJ,a5I⟩:=bB (show ¬m=no from P0)
    obtain⟨a5J,rZ,rY,a5K⟩:=bB (show ¬m=nx from P1)
    obtain⟨rT,fJ,fI,sG⟩:=bB (show ¬m=b from P2)
    obtain⟨aRY,p0,pZ,aRZ⟩:=bB (show ¬m=nt from P3)
    rcases bZ k G.aN.length with hlt|hge
    ·have ea:G.aN[k]?=some G.aN[k]:=cM hlt
     have hx:=hslp k hlt
     have hlL:(A++D.take k).length=G.aN.length+k:=by rw[mV,jT];omega
     have hg:=aRX (A:=A) (D:=D) (k:=k) aA
     rw[hDk k hlt]at hg
     generalize rU (oN p) p.aD.length G.aN[k] (vR _) (sR _) _=y at *
     simp only[aB.aS,aC.aS]at hx
     simp -dsimp -implicitDefEqProofs only[go_sem,↓reduceIte,Tryz.f49,kK,iQ,rY,jP,kL,l6,fI,lQ,iR,l7,pZ,jS,rZ,fJ,p0,aAI,jQ,lP,jR,aAJ,aG,hlt,ea,S3,aB.aS]
     intro ne hne
     obtain⟨Q1,Q2,Q3⟩:=aFM hne
     obtain⟨Q4,Q5,Q6,Q7,Q8⟩:=hS0 ne Q3
     obtain⟨bN0,aDJ,aDK,bN1⟩:=bB (show ¬ne=nx from Q1)
     obtain⟨bIR,y6,y7,bIS⟩:=bB (show ¬ne=m from Q2)
     obtain⟨bN2,aKY,aKZ,bN3⟩:=bB (show ¬ne=nt from Q7)
     simp -dsimp -implicitDefEqProofs only[go_sem,↓reduceIte,Tryz.f49,iQ,rY,aDK,iR,pZ,aKZ,rZ,p0,y7,aDJ,aKY,y6,aG,S3]
     refine aF.mk (fM.sub (.cons (.refl _) (.cons (.refl _) (.cons (Sub.agg (.cons (.refl _) (.cons (Sub.nil 1 false) (.cons (Sub.nil 1 false) .nil)))) .nil))) hx) ?_
     rw[rJ]
     simp -dsimp -implicitDefEqProofs only[go_sem,↓reduceIte,Tryz.f49,iQ,rY,aDK,iR,pZ,aKZ,rZ,p0,y7,aDJ,aKY,y6,aG,S3]
     refine⟨by decide,by decide,by decide,by omega,by omega,by omega,λc hc=>?_⟩
     obtain⟨R1,R2,R3,R4⟩:=bVT hc
     obtain⟨aXY,aDL,aDM,aXZ⟩:=bB (show ¬c=ne from R1)
     obtain⟨bIT,aR0,aR1,bIU⟩:=bB (show ¬c=nx from R2)
     obtain⟨aUD,aA0,aAZ,aUE⟩:=bB (show ¬c=m from R3)
     simp -dsimp -implicitDefEqProofs only[go_sem,↓reduceIte,Tryz.f49,rY,aDK,aR1,rZ,y7,aAZ,aDJ,y6,aDM,aR0,aA0,aDL,aG]
     rw[oO _ y hlL,←hg]
     exact⟨(k+1,c),IntWalk.i64_in _ aA,a9P hos Q3 P1 R2 R3 Q1,⟨hlt,R4⟩,by simp only;omega⟩
    ·obtain rfl:k=G.aN.length:=by omega
     simp -dsimp -implicitDefEqProofs only[go_sem,↓reduceIte,Tryz.f49,kK,iQ,rY,jP,kL,l6,fI,lQ,iR,l7,pZ,jS,rZ,fJ,p0,aAI,jQ,lP,jR,aAJ,aG,S3,S5,bX,dB]
     rw[pQ aA]
     exact aIP _ _ bPA bDY (aFN S4 hb hnx.2.2 P4)
  |some mm =>
   obtain⟨m1,m2⟩:=mm
   obtain⟨F1,F2,F3,F4,F5⟩:=hos
   rw[scH]
   obtain⟨H3,H4,H5,H6⟩:=hB4 m1 F4
   obtain⟨K4,K5,K6,K7⟩:=hB4 m2 F5
   obtain⟨a9Q,sO,sM,a9R⟩:=bB (show ¬m1=nt from F1)
   obtain⟨a9U,sN,sK,a9V⟩:=bB (show ¬m1=no from H4)
   obtain⟨a9W,tX,tT,a9X⟩:=bB (show ¬m2=nt from F2)
   obtain⟨a90,tW,tS,a92⟩:=bB (show ¬m2=no from K5)
   obtain⟨aC3,c8,c7,aC4⟩:=bB (show ¬m2=m1 from F3)
   obtain⟨a9S,tU,tQ,a9T⟩:=bB (show ¬m1=nx from H3)
   obtain⟨aIB,eK,eJ,aIC⟩:=bB (show ¬m1=b from H5)
   obtain⟨a9Y,tV,tR,a9Z⟩:=bB (show ¬m2=nx from K4)
   obtain⟨aC1,dK,dJ,aC2⟩:=bB (show ¬m2=b from K6)
   simp -dsimp -implicitDefEqProofs only[go_sem,↓reduceIte,Tryz.f49,jP,kK,iQ,tQ,tR,jQ,lP,jR,sK,tS,kL,lQ,l6,eJ,dJ,iR,jS,l7,sM,tT,tU,sN,eK,sO,c7,tV,tW,dK,tX,c8,aG,hB1,hB2,bX,dB]
   refine aJ.bCH (λ_ _ _=>⟨rfl,rfl⟩) (λ_ _ _=>⟨rfl,rfl⟩) (aIO 0 i) (aIO i i) bYW bYW (aM ..) F1 F2 F3 ?_
   rw[b24,b25]
   obtain⟨HS,hHS⟩:∃ H:aE,H=aR (aR (aR (aR (aR (aR HB m1 (lI (vR i))) m2 (lI (sR i))) nt (.row 3 [[.v (I (2*i)),.v (.os m1 1 0 i),.v (.os m2 1 0 i)]])) m1 .gone) m2 .gone) nt (.row 3 [[.v (I (2*i)),.v (ints (vR i)),.v (ints (sR i))]]):=⟨_,rfl⟩
   rw[←hHS]
   have S1:HS no=some (.row 3 [[.v (.str G.e8),.v (I i),.v (fN 5 aB.c G.aN)]]):=by rw[hHS];simp only[aG,jP,kK,iQ,tQ,tR,jQ,lP,jR,sK,tS,kL,lQ,l6,eJ,dJ,iR,jS,l7,sM,tT,tU,sN,eK,sO,c7,tV,tW,dK,tX,c8,↓reduceIte];exact hB1
   have S2:HS nx=some (.row 3 [[.v (.str (100::dn)),.v (I (2*i)),.v .bD]]):=by rw[hHS];simp only[aG,jP,kK,iQ,tQ,tR,jQ,lP,jR,sK,tS,kL,lQ,l6,eJ,dJ,iR,jS,l7,sM,tT,tU,sN,eK,sO,c7,tV,tW,dK,tX,c8,↓reduceIte];exact hB2
   have S3:HS nt=some (.row 3 [[.v (I (2*i)),.v (ints (vR i)),.v (ints (sR i))]]):=by rw[hHS];exact aM ..
   have S5:HS b=some (.row 3 [[.v (.str []),.v (I 0),.v .bD]]):=by rw[hHS];simp only[aG,jP,kK,iQ,tQ,tR,jQ,lP,jR,sK,tS,kL,lQ,l6,eJ,dJ,iR,jS,l7,sM,tT,tU,sN,eK,sO,c7,tV,tW,dK,tX,c8,↓reduceIte];exact hB5
   have S4:h.le HS:=λq=>by
    rw[hHS]
    have:=hB6 q
    clear hall hgs
    simp only[aG]
    grind
   clear hHS
   have hS0:∀ q,HS q=none->¬q=no/\¬q=nx/\¬q=b/\¬q=nt/\h q=none:=λq hq=>⟨λe=>(by rw[e,S1]at hq;cases hq),λe=>(by rw[e,S2]at hq;cases hq),λe=>(by rw[e,S5]at hq;cases hq),λe=>(by rw[e,S3]at hq;cases hq),(S4 q).elim id λe=>(by first|(rw[←e];exact hq)|(rw[e];exact hq))⟩
   refine jC.mono (jC.sub (.cons (.refl _) (.cons (.refl _) (.cons (.refl _) .nil))) (hall HS)) ?_
   rintro r_ h' ⟨o,hos,rfl,rfl⟩
   cases o with
   |none =>
    rw[aZ]at hos
    exact absurd (congrArg List.length hos) (by simp only[al3];omega)
   |some m =>
    rw[aV]at hos
    obtain⟨P0,P1,P2,P3,P4⟩:=hS0 m hos
    obtain⟨a5H,aAI,aAJ,a5I⟩:=bB (show ¬m=no from P0)
    obtain⟨a5J,rZ,rY,a5K⟩:=bB (show ¬m=nx from P1)
    obtain⟨rT,fJ,fI,sG⟩:=bB (show ¬m=b from P2)
    obtain⟨aRY,p0,pZ,aRZ⟩:=bB (show ¬m=nt from P3)
    rw[aY,aK]
    simp -dsimp -implicitDefEqProofs only[go_sem,↓reduceIte,Tryz.f49,kK,iQ,rY,jP,kL,l6,fI,lQ,iR,l7,pZ,jS,rZ,fJ,p0,aAI,jQ,lP,jR,aAJ,aG,S1,S2,S3]
    intro _
    refine cZ aXR bNO bNP (λx:Nat×Nat=>[(2,.ip 1 [[fN 3 aU.c p.aD]] 0 0),(4,.op b 3 0 0),(6,.op nx 3 0 0),(7,.op nt 3 0 0),(61,fN 5 aB.c G.aN),(62,I G.aN.length),(63,I x.1)]) (λx=>aR (aR HS x.2 (rJ (A++D.take x.1))) nx (.row 3 [[.v (.str (100::dn)),.v (I (2*i)),.v (.os x.2 5 0 (G.aN.length+x.1))]])) (λx=>x.1<=G.aN.length/\HS x.2=none) (λx=>G.aN.length-x.1) (0,m) ⟨by simp[c4,b7],?_,fE _,hos⟩ ?_
    ·simp only[aSF,dT,aNG]
     exact aE.le_refl _
    rintro⟨k,m⟩ ⟨hkk,hos⟩
    simp only at hkk hos ⊢
    obtain⟨P0,P1,P2,P3,P4⟩:=hS0 m hos
    obtain⟨a5H,aAI,aAJ,a5I⟩:=bB (show ¬m=no from P0)
    obtain⟨a5J,rZ,rY,a5K⟩:=bB (show ¬m=nx from P1)
    obtain⟨rT,fJ,fI,sG⟩:=bB (show ¬m=b from P2)
    obtain⟨aRY,p0,pZ,aRZ⟩:=bB (show ¬m=nt from P3)
    rcases bZ k G.aN.length with hlt|hge
    ·have ea:G.aN[k]?=some G.aN[k]:=cM hlt
     have hx:=hslp k hlt
     have hlL:(A++D.take k).length=G.aN.length+k:=by rw[mV,jT];omega
     have hg:=aRX (A:=A) (D:=D) (k:=k) aA
     rw[hDk k hlt]at hg
     generalize rU (oN p) p.aD.length G.aN[k] (vR _) (sR _) _=y at *
     simp only[aB.aS,aC.aS]at hx
     simp -dsimp -implicitDefEqProofs only[go_sem,↓reduceIte,Tryz.f49,kK,iQ,rY,jP,kL,l6,fI,lQ,iR,l7,pZ,jS,rZ,fJ,p0,aAI,jQ,lP,jR,aAJ,aG,hlt,ea,S3,aB.aS]
     intro ne hne
     obtain⟨Q1,Q2,Q3⟩:=aFM hne
     obtain⟨Q4,Q5,Q6,Q7,Q8⟩:=hS0 ne Q3
     obtain⟨bN0,aDJ,aDK,bN1⟩:=bB (show ¬ne=nx from Q1)
     obtain⟨bIR,y6,y7,bIS⟩:=bB (show ¬ne=m from Q2)
     obtain⟨bN2,aKY,aKZ,bN3⟩:=bB (show ¬ne=nt from Q7)
     simp -dsimp -implicitDefEqProofs only[go_sem,↓reduceIte,Tryz.f49,iQ,rY,aDK,iR,pZ,aKZ,rZ,p0,y7,aDJ,aKY,y6,aG,S3]
     refine aF.mk (fM.sub (.cons (.refl _) (.cons (.refl _) (.cons (.refl _) .nil))) hx) ?_
     rw[rJ]
     simp -dsimp -implicitDefEqProofs only[go_sem,↓reduceIte,Tryz.f49,iQ,rY,aDK,iR,pZ,aKZ,rZ,p0,y7,aDJ,aKY,y6,aG,S3]
     refine⟨by decide,by decide,by decide,by omega,by omega,by omega,λc hc=>?_⟩
     obtain⟨R1,R2,R3,R4⟩:=bVT hc
     obtain⟨aXY,aDL,aDM,aXZ⟩:=bB (show ¬c=ne from R1)
     obtain⟨bIT,aR0,aR1,bIU⟩:=bB (show ¬c=nx from R2)
     obtain⟨aUD,aA0,aAZ,aUE⟩:=bB (show ¬c=m from R3)
     simp -dsimp -implicitDefEqProofs only[go_sem,↓reduceIte,Tryz.f49,rY,aDK,aR1,rZ,y7,aAZ,aDJ,y6,aDM,aR0,aA0,aDL,aG]
     rw[oO _ y hlL,←hg]
     exact⟨(k+1,c),IntWalk.i64_in _ aA,a9P hos Q3 P1 R2 R3 Q1,⟨hlt,R4⟩,by simp only;omega⟩
    ·obtain rfl:k=G.aN.length:=by omega
     simp -dsimp -implicitDefEqProofs only[go_sem,↓reduceIte,Tryz.f49,kK,iQ,rY,jP,kL,l6,fI,lQ,iR,l7,pZ,jS,rZ,fJ,p0,aAI,jQ,lP,jR,aAJ,aG,S3,S5,bX,dB]
     rw[pQ aA]
     exact aIP _ _ bPA bDY (aFN S4 hb hnx.2.2 P4)
def wG (l:List aU):bE:=.row 3 ((l.map aU.c).map (List.map .v))
theorem aUW (l:List aU) (x:aU) {k:Nat} (h:l.length=k):bE.row 3 (List.take k ((l.map aU.c).map (List.map Cell.v))++[[.v (.str x.e8),.v (I x.aT),.v (fN 5 aB.c x.aN)]])=wG (l++[x]):=by
 rw[pQ (by simp[h])]
 simp[wG,aU.aS]
theorem bAC {α:Type} {es:List (List α)} {i j:Nat} {x:α} (h:kA es i j=some x):∃ e∈es,x∈e:=by
 obtain⟨e,h1,h2⟩:=lG h
 exact⟨e,nO h1,nO h2⟩
theorem bAD {h g:aE} {m b:Nat} (fs:List aU) (x:aU) (hm:h m=some (rJ x.aN)) (hb:h b=some (.row 3 ((fs.map aU.c).map (List.map .v)++[[.v (.str x.e8),.v (I x.aT),.v (.os m 5 0 x.aN.length)]]))) (hne:¬b=m) (hg:g.le (aR (aR h m .gone) b (wG (fs++[x])))):g.wk h:=by
 have hw:=aE.aKD hm hb hne (λi j y hy=>by
  obtain⟨e,he,hxe⟩:=bAC hy
  rcases pJ.1 he with he|he
  ·obtain⟨e1,h1,rfl⟩:=qU.1 he
   obtain⟨r,_,rfl⟩:=qU.1 h1
   rw[aU.aS]at hxe
   simp only[nZ,sX,pY,Cell.v.injEq,aTB,or_false]at hxe
   rcases hxe with rfl|rfl|rfl <;> rfl
  ·rw[jF.1 he]at hxe
   simp only[pY,Cell.v.injEq,aTB,or_false]at hxe
   rcases hxe with rfl|rfl|rfl
   ·rfl
   ·rfl
   ·simp[gA])
 refine aE.wk.trans (aE.kE ?_) hw
 have e:((fs.map aU.c).map (List.map Cell.v)++[[Cell.v (.str x.e8),Cell.v (I x.aT),Cell.v (.os m 5 0 x.aN.length)]]).map (List.map (Cell.sH m (fO ((x.aN.map aB.c).map (List.map .v)))))=((fs++[x]).map aU.c).map (List.map .v):=by
  rw[kJ,kS,kS,kS]
  congr 1
  ·simp only[aD7]
   refine aG7 λr _=>?_
   simp only[Function.comp,aU.aS];rfl
  ·simp only[nZ,sX,Cell.sH,aH.eM,if_true,aG8,aU.aS]
   rw[pQ aOY]
 rw[e]
 exact hg
theorem aJ.bN4 {P:Program} {f:FuncId} {h:aE} {K:aH->aE->Prop} {t:Tag K} {m b len:Nat} {fs:List aU} (hl:fs.length=len) (hm:h m=some (wG fs)) (hb:h b=some (.row 1 [[.v (.os m 3 0 len)]])) (hne:¬b=m) (x:jC P f [.agg [fN 3 aU.c fs]] (aR (aR h m .gone) b (.row 1 [[.v (fN 3 aU.c fs)]])) K):aJ P f [.agg [.os m 3 0 len]] h K t:=by
 subst hl
 have tk:List.take fs.length (fs.map aU.c)=fs.map aU.c:=pQ aOY
 refine aJ.a5D hm hb hne (λi j y hy=>?_) a63 ?_
 ·obtain⟨e,he,hxe⟩:=bAC hy
  rw[jF.1 he]at hxe
  have:=jF.1 hxe
  cases this
  simp[gA]
 rw[kJ]
 have e1:lX m (fs.map aU.c) [.agg [.os m 3 0 fs.length]]=[.agg [fN 3 aU.c fs]]:=by
  simp only[lX,aH.eM,if_true,aG8,tk]
 have c1:[[Cell.v (.os m 3 0 fs.length)]].map (List.map (Cell.sH m (fs.map aU.c)))=[[Cell.v (fN 3 aU.c fs)]]:=by
  simp only[nZ,sX,Cell.sH,aH.eM,if_true,aG8,tk]
 rw[e1,c1]
 exact x
theorem b95 {q a b c d:Nat} {h:aE} {X Y Z U V:bE} (e:(if q=a then some X else if q=a then some Y else if q=b then some Z else if q=c then some U else if q=d then some V else h q)=none):¬q=a/\¬q=b/\¬q=c/\¬q=d/\h q=none:=by grind
theorem bVW {h:aE} {n7 n8 ne c:Nat} {F X X' Y Z R:bE} (h1:h ne=none) (d1:¬n8=n7) (d2:¬ne=n8) (d3:¬ne=n7) (d4:¬c=n7) (d5:¬c=n8):(aR (aR (aR h c R) n7 F) n8 X').le (aR (aR (aR (aR (aR (aR h n7 F) n8 X) ne Z) ne Y) c R) n8 X'):=λq=>by
 simp only[aG]
 grind
theorem bVX {h:aE} {m n7 n8 ne c:Nat} {F X X' Y Z R R0:bE} (h0:h m=none) (h1:h ne=none) (d1:¬n8=n7) (d2:¬ne=n8) (d3:¬ne=n7) (d6:¬ne=m) (d7:¬m=n7) (d8:¬m=n8) (d4:¬c=n7) (d5:¬c=n8) (d9:¬c=m):(aR (aR (aR h c R) n7 F) n8 X').le (aR (aR (aR (aR (aR (aR (aR (aR h m R0) n7 F) n8 X) ne Z) ne Y) m .gone) c R) n8 X'):=λq=>by
 simp only[aG]
 grind
theorem bN5 {h:aE} {m n5 n7 n8 c:Nat} {A B C D X X0 R:bE} (h1:h m=none) (h2:h n7=none) (h3:h n8=none) (d:¬c=n5) (d2:¬m=n5):(aR (aR h c R) n5 X).le (aR (aR (aR (aR (aR (aR (aR (aR h n5 X0) m A) n7 B) n8 C) c D) n5 X) m .gone) c R):=λq=>by
 simp only[aG]
 grind
theorem bN6 {h:aE} {m mo n5 n7 n8 c:Nat} {A B C D X X0 R R0:bE} (h0:h mo=none) (h1:h m=none) (h2:h n7=none) (h3:h n8=none) (d1:¬mo=n5) (d:¬c=n5) (d4:¬c=mo) (d3:¬mo=m) (d2:¬m=n5):(aR (aR h c R) n5 X).le (aR (aR (aR (aR (aR (aR (aR (aR (aR (aR h mo R0) n5 X0) m A) n7 B) n8 C) mo .gone) c D) n5 X) m .gone) c R):=λq=>by
 simp only[aG]
 grind
theorem bN7 {h:aE} {mo n5 ne c:Nat} {D X X0 R R0:bE} (h0:h mo=none) (h1:h ne=none) (d1:¬mo=n5) (d2:¬ne=n5) (d:¬c=n5) (d4:¬c=mo):(aR (aR h c R) n5 X).le (aR (aR (aR (aR (aR (aR h mo R0) n5 X0) ne D) mo .gone) c R) n5 X):=λq=>by
 simp only[aG]
 grind
theorem aGG {h H:aE} {n5 b:Nat} {X Y:bE} (hl:h.le H) (h1:h n5=none) (h2:h b=none):h.le (aR (aR H n5 X) b Y):=λq=>by
 have:=hl q
 simp only[aG]
 grind
theorem bN8 {h H:aE} {n5 b mo ne:Nat} {X Y Z R:bE} (hl:h.le H) (h1:h n5=none) (h2:h b=none) (h3:h mo=none) (h4:h ne=none):h.le (aR (aR (aR (aR H mo R) n5 X) ne Z) b Y):=λq=>by
 have:=hl q
 simp only[aG]
 grind
theorem bAE {h H:aE} {n5 b mo:Nat} {X X1 Y R:bE} (hl:h.le H) (h1:h n5=none) (h2:h b=none) (h3:h mo=none):h.le (aR (aR (aR (aR (aR H mo R) n5 X) mo .gone) n5 X1) b Y):=λq=>by
 have:=hl q
 simp only[aG]
 grind
def mJ (p:aC) (g:Nat):List UInt8:=100::Go.Lib.itoa ((p.aD.length+g:Nat):Int)
def a5L (p:aC) (g:Nat):Bool:=p.aD.any λf=>decide (f.e8=mJ p g)
noncomputable def oT (p:aC):aC×Int :=
 if p.ok then(if (List.range p.aD.length).any (a5L p)then(⟨[]⟩,4)else if (xR (mJ p) p).ok then(xR (mJ p) p,0)else(⟨[]⟩,3))else(⟨[]⟩,1)
theorem aNQ (g f:aU) (n:Nat) {h0:aE} (hn:h0 n=some (.row 3 [f.c.map .v])):aX Tryz.prog 51 [.agg g.c,.op n 3 0 0] (.bool (decide (g.e8=f.e8))) h0:=by
 simp only[aU.aS]
 have hg (h:aE) (hle:h0.le h):=aE.aVV hle hn
 refine aTS 9 bQC bK6 cK Tryz.func51 λh hle=>?_
 simp -dsimp -implicitDefEqProofs only[go_sem,↓reduceIte,Tryz.f51]
 have hn':=hg h hle
 simp only[aU.aS]at hn'
 simp -dsimp -implicitDefEqProofs only[go_sem,↓reduceIte,Tryz.f51,hn']
@[go_sem] def aR2:List Nat:=[0,1,2,3,4,5,7,8,10,11,12,15,21,22,23,24,33,34,35,36,56,57,58,66,77]
@[go_sem] def bIV:List Nat:=[1,43,50,71]
@[go_sem] def bIW:Marks:=λid=>match id with|11=>([1,2,5,7],(.op 0 (.op 1 (.op 2 (.op 3 (.op 4 (.op 5 (.op 6 (.op 7 .nil)))))))),[])|_=>([],.nil,[])
set_option maxHeartbeats 1000000 in
theorem aNR (p:aC) (hps:p.s<=4194304):fM Tryz.prog 14 [.agg p.c] (.jO [.agg (oT p).1.c,I (oT p).2]):=by
 have hvp:=aCR p hps
 by_cases hp:p.ok
 ·rw[decide_eq_true hp]at hvp
  have hcl:=λ(x:aB) (hx:x.s<=1048576)=>uT.gX (aT0 x hx) (λe he=>aB.aM5 he)
  have hpl:=hp.1
  have hdr:∀ f (hf:f<p.aD.length),fM Tryz.prog 49 [.agg p.c,I f] (.agg (vG (mJ p) p f p.aD[f]).c):=λf hf=>bIO hp f hf
  have hDl:(p.aD.mapIdx (vG (mJ p) p)).length=p.aD.length:=aYZ
  have hDk:∀ k (h:k<p.aD.length),(p.aD.mapIdx (vG (mJ p) p))[k]'aVG=vG (mJ p) p k p.aD[k]:=λk h=>bDM ..
  have hdP:xR (mJ p) p=⟨p.aD++p.aD.mapIdx (vG (mJ p) p)⟩:=rfl
  generalize hDe:p.aD.mapIdx (vG (mJ p) p)=D at *
  simp only[aC.aS p]at hvp hdr ⊢
  refine iN 80 aR2 bIV bIW Tryz.func14 λh=>?_
  simp -dsimp -implicitDefEqProofs only[go_sem,↓reduceIte,Tryz.f14]
  refine λb hb=>?_
  first|refine aJ.mk (hvp) ?_|refine aF.mk (hvp) ?_|refine aJ.bA (hvp) ?_|refine aF.mk (aX.cU (hvp)) ?_
  simp -dsimp -implicitDefEqProofs only[go_sem,↓reduceIte,Tryz.f14]
  refine λn4 h4 n5 h5=>?_
  obtain⟨b96,a5M,a5N,b97⟩:=bB (show ¬n4=b from h4.1)
  obtain⟨bN9,aGH,aGI,bOA⟩:=bB (show ¬n5=n4 from h5.1)
  obtain⟨bIX,zA,zB,bIY⟩:=bB (show ¬n5=b from h5.2.1)
  simp -dsimp -implicitDefEqProofs only[go_sem,↓reduceIte,Tryz.f14,aGI,a5M,aGH,zA,a5N,zB,aG,aO]
  intro _
  obtain⟨HB,hHB⟩:∃ H:aE,H=aR (aR h b (.row 1 [[.v .bD]])) n4 (.row 1 [[.v (fN 3 aU.c p.aD)]]):=⟨_,rfl⟩
  have B1:HB n4=some (.row 1 [[.v (fN 3 aU.c p.aD)]]):=by rw[hHB];exact aM ..
  have B2:HB b=some (.row 1 [[.v .bD]]):=by rw[hHB];simp only[aG,aGI,a5M,aGH,zA,a5N,zB,↓reduceIte]
  have B3:HB n5=none:=by rw[hHB];simp only[aG,aGI,a5M,aGH,zA,a5N,zB,↓reduceIte];exact h5.2.2
  have B4:h.le HB:=λq=>by rw[hHB];simp only[aG];grind
  have B5:∀ q,HB q=none->¬q=n4/\¬q=b/\h q=none:=λq hq=>by rw[hHB]at hq;simp only[aG]at hq;exact aFM hq
  refine aL6 aR2 bIV bIW (λx:Nat×Option Nat=>[(1,.ip 1 [[fN 3 aU.c p.aD]] 0 0),(2,.op b 1 0 0),(4,.op n4 1 0 0),(5,.op n5 1 0 0),(21,fN 3 aU.c p.aD),(22,I p.aD.length),(23,I x.1)]) (λx=>aR (bY HB (wG (p.aD.take x.1)) x.2) n5 (.row 1 [[.v (gW 3 x.1 x.2)]])) (λx=>x.1<=p.aD.length/\fT HB (p.aD.take x.1) x.2/\∀ m,x.2=some m->¬m=n5) (λx=>p.aD.length-x.1) (0,none) ⟨by simp[c4,b7],?_,fE _,rfl,λm e=>by cases e⟩ ?_
  ·refine aE.kE λq=>?_
   simp only[aQ,b5,hHB,aG]
   clear hcl hdr hvp
   grind
  rintro⟨k,o⟩ ⟨hk,hos,hon⟩
  simp only at hk hos hon ⊢
  clear hHB
  rcases bZ k p.aD.length with hlt|hge
  ·have ea:p.aD[k]?=some p.aD[k]:=cM hlt
   have hy:p.aD.take (k+1)=p.aD.take k++[p.aD[k]]:=jU hlt
   have hkf:=hp.2 k _ ea
   generalize p.aD[k]=G at *
   obtain⟨g1,g2,g3,g4,g5,g6⟩:=hkf
   obtain⟨HC,hHC⟩:∃ H:aE,H=aR (bY HB (wG (p.aD.take k)) o) n5 (.row 1 [[.v (gW 3 k o)]]):=⟨_,rfl⟩
   rw[←hHC]
   have C1:HC n5=some (.row 1 [[.v (gW 3 k o)]]):=by rw[hHC];exact aM ..
   simp -dsimp -implicitDefEqProofs only[go_sem,↓reduceIte,Tryz.f14,hlt,ea,aU.aS]
   refine λn7 h7 n8 h8=>?_
   obtain⟨bAF,nX,nW,b6D⟩:=bB (show ¬n8=n7 from h8.1)
   have e75:¬n7=n5:=λe=>by rw[e,C1]at h7;cases h7
   have z8:HC n8=none:=h8.2.2
   have e85:¬n8=n5:=λe=>by rw[e,C1]at z8;cases z8
   obtain⟨b6E,xB,w9,b6F⟩:=bB (show ¬n7=n5 from e75)
   obtain⟨b6G,xC,xA,b6H⟩:=bB (show ¬n8=n5 from e85)
   simp -dsimp -implicitDefEqProofs only[go_sem,↓reduceIte,Tryz.f14,w9,xA,xB,nW,xC,nX,aG,aO]
   intro _
   refine cZ aR2 bIV bIW (λx:Nat×Option Nat=>[(1,.ip 1 [[fN 3 aU.c p.aD]] 0 0),(2,.op b 1 0 0),(4,.op n4 1 0 0),(5,.op n5 1 0 0),(8,.op n8 3 0 0),(21,fN 3 aU.c p.aD),(22,I p.aD.length),(23,I k),(33,fN 5 aB.c G.aN),(34,I G.aN.length),(35,I x.1)]) (λx=>aR (aR (bY HC (rJ (G.aN.take x.1)) x.2) n7 (.row 3 [[.v (.str G.e8),.v (I G.aT),.v (fN 5 aB.c G.aN)]])) n8 (.row 3 [[.v (.str G.e8),.v (I G.aT),.v (gW 5 x.1 x.2)]])) (λx=>x.1<=G.aN.length/\fT HC (G.aN.take x.1) x.2/\∀ m,x.2=some m->¬m=n7/\¬m=n8) (λx=>G.aN.length-x.1) (0,none) ⟨by simp[c4,b7,gW],?_,fE _,rfl,λm e=>by cases e⟩ ?_
   ·intro q
    simp only[aQ,b5,aG]
    clear hcl hdr hvp
    grind
   rintro⟨j,o2⟩ ⟨hj,oX,aS4⟩
   simp only at hj oX aS4 ⊢
   rcases bZ j G.aN.length with mA|aQI
   ·have ea2:G.aN[j]?=some G.aN[j]:=cM mA
    have hy2:G.aN.take (j+1)=G.aN.take j++[G.aN[j]]:=jU mA
    have hx:=hcl G.aN[j] (by have:=(g6 _ (eI mA)).2.2.1;omega)
    have aBQ:(G.aN.take j).length=j:=by rw[jT];omega
    generalize G.aN[j]=y at *
    rw[aB.aS]at hx
    cases o2 with
    |none =>
     rw[aZ]at oX
     have hj0:=aBO oX mA
     subst hj0
     rw[aQ,b5]
     simp -dsimp -implicitDefEqProofs only[go_sem,↓reduceIte,Tryz.f14,w9,xA,xB,nW,xC,nX,aG,ea2,mA,aB.aS]
     intro ne hne
     obtain⟨Q1,Q2,Q3⟩:=aFM hne
     obtain⟨bOB,aDN,aDO,bOC⟩:=bB (show ¬ne=n8 from Q1)
     obtain⟨bOD,aDP,aDQ,bOE⟩:=bB (show ¬ne=n7 from Q2)
     simp -dsimp -implicitDefEqProofs only[go_sem,↓reduceIte,Tryz.f14,nW,aDQ,nX,aDO,aDP,aDN,aG]
     first|refine aJ.mk (hx) ?_|refine aF.mk (hx) ?_|refine aJ.bA (hx) ?_|refine aF.mk (aX.cU (hx)) ?_
     simp -dsimp -implicitDefEqProofs only[go_sem,↓reduceIte,Tryz.f14,nW,aDQ,nX,aDO,aDP,aDN,aG]
     refine⟨by decide,by decide,by decide,λc hc=>?_⟩
     obtain⟨R1,R2,R3,R4⟩:=bVT hc
     obtain⟨aXY,aDL,aDM,aXZ⟩:=bB (show ¬c=ne from R1)
     obtain⟨a5O,aAH,aAF,a5P⟩:=bB (show ¬c=n8 from R2)
     obtain⟨a5Q,aAG,aAE,a5R⟩:=bB (show ¬c=n7 from R3)
     simp -dsimp -implicitDefEqProofs only[go_sem,↓reduceIte,Tryz.f14,nW,aDQ,aAE,nX,aDO,aAF,aDP,aDN,aDM,aAG,aAH,aDL,aG]
     rw[aBN y]
     refine⟨(0+1,some c),IntWalk.i64_in _ aA,?_,⟨mA,R4,λm' e=>by cases e;exact⟨R3,R2⟩⟩,by simp only;omega⟩
     rw[hy2]
     exact bVW Q3 bAF Q1 Q2 R3 R2
    |some m =>
     rw[aV]at oX
     obtain⟨F1,F2⟩:=aS4 m rfl
     obtain⟨bVZ,wK,wJ,bV0⟩:=bB (show ¬m=n7 from F1)
     obtain⟨yZ,iA,hU,y5⟩:=bB (show ¬m=n8 from F2)
     rw[aK,aY,rJ]
     simp -dsimp -implicitDefEqProofs only[go_sem,↓reduceIte,Tryz.f14,nW,wJ,nX,hU,wK,iA,aG,ea2,mA,aB.aS]
     intro ne hne
     obtain⟨Q1,Q2,Q3,Q4⟩:=aS3 hne
     obtain⟨bOB,aDN,aDO,bOC⟩:=bB (show ¬ne=n8 from Q1)
     obtain⟨bOD,aDP,aDQ,bOE⟩:=bB (show ¬ne=n7 from Q2)
     obtain⟨bIR,y6,y7,bIS⟩:=bB (show ¬ne=m from Q3)
     simp -dsimp -implicitDefEqProofs only[go_sem,↓reduceIte,Tryz.f14,nW,aDQ,wJ,nX,aDO,hU,aDP,aDN,y6,wK,iA,y7,aG]
     first|refine aJ.mk (hx) ?_|refine aF.mk (hx) ?_|refine aJ.bA (hx) ?_|refine aF.mk (aX.cU (hx)) ?_
     simp -dsimp -implicitDefEqProofs only[go_sem,↓reduceIte,Tryz.f14,nW,aDQ,wJ,nX,aDO,hU,aDP,aDN,y6,wK,iA,y7,aG]
     refine⟨by decide,by decide,by decide,by omega,by omega,by omega,λc hc=>?_⟩
     obtain⟨R1,R2,R3,R5,R4⟩:=b95 hc
     obtain⟨aXY,aDL,aDM,aXZ⟩:=bB (show ¬c=ne from R1)
     obtain⟨a5O,aAH,aAF,a5P⟩:=bB (show ¬c=n8 from R2)
     obtain⟨a5Q,aAG,aAE,a5R⟩:=bB (show ¬c=n7 from R3)
     obtain⟨aUD,aA0,aAZ,aUE⟩:=bB (show ¬c=m from R5)
     simp -dsimp -implicitDefEqProofs only[go_sem,↓reduceIte,Tryz.f14,nW,aDQ,aAE,wJ,nX,aDO,aAF,hU,aDP,aDN,aDM,y6,aAG,aAH,aDL,aA0,wK,iA,y7,aAZ,aG]
     rw[oO _ y aBQ,←hy2]
     refine⟨(j+1,some c),IntWalk.i64_in _ aA,?_,⟨mA,R4,λm' e=>by cases e;exact⟨R3,R2⟩⟩,by simp only;omega⟩
     exact bVX oX Q4 bAF Q1 Q2 Q3 F1 F2 R3 R2 R5
   ·obtain rfl:j=G.aN.length:=by omega
    rw[mR]at oX ⊢
    cases o2 with
    |none =>
     rw[aZ]at oX
     rw[oX]at g3
     simp at g3
    |some m =>
     rw[aV]at oX
     obtain⟨F1,F2⟩:=aS4 m rfl
     have F3:¬m=n5:=λe=>by rw[e,C1]at oX;cases oX
     obtain⟨bVZ,wK,wJ,bV0⟩:=bB (show ¬m=n7 from F1)
     obtain⟨yZ,iA,hU,y5⟩:=bB (show ¬m=n8 from F2)
     obtain⟨b98,aHA,aG9,b99⟩:=bB (show ¬m=n5 from F3)
     rw[aK,aY]
     have hlk:(p.aD.take k).length=k:=by rw[jT];omega
     cases o with
     |none =>
      rw[aZ]at hos
      obtain rfl:=aBO hos hlt
      rw[b5]at C1
      simp -dsimp -implicitDefEqProofs only[go_sem,↓reduceIte,Tryz.f14,w9,xA,aG9,xB,nW,wJ,xC,nX,hU,aHA,wK,iA,aG,C1,bX,dB]
      refine⟨by decide,by decide,by decide,λc hc=>?_⟩
      obtain⟨R1,R2,R3,R4⟩:=aS3 hc
      have R5:¬c=n5:=λe=>by rw[e,C1]at R4;cases R4
      obtain⟨bIZ,aEB,aEA,bI0⟩:=bB (show ¬c=n5 from R5)
      obtain⟨a5O,aAH,aAF,a5P⟩:=bB (show ¬c=n8 from R1)
      obtain⟨a5Q,aAG,aAE,a5R⟩:=bB (show ¬c=n7 from R2)
      obtain⟨aUD,aA0,aAZ,aUE⟩:=bB (show ¬c=m from R3)
      simp -dsimp -implicitDefEqProofs only[go_sem,↓reduceIte,Tryz.f14,w9,xA,aG9,aEA,xB,nW,wJ,aAE,xC,nX,hU,aAF,aHA,wK,iA,aAZ,aEB,aAG,aAH,aA0,aG,C1]
      rw[hHC,aQ]at oX h7 z8 R4 ⊢
      simp only[aG]at oX h7 z8 R4
      obtain⟨U1,U2⟩:=wF oX
      obtain⟨U3,U4⟩:=wF h7
      obtain⟨U5,U6⟩:=wF z8
      obtain⟨U7,U8⟩:=wF R4
      refine⟨(0+1,some c),IntWalk.i64_in _ aA,?_,⟨hlt,U8,λm' e=>by cases e;exact R5⟩,by simp only;omega⟩
      refine bAD [] G (m:=m) (b:=c) (by simp only[aG,w9,xA,aG9,aEA,xB,nW,wJ,aAE,xC,nX,hU,aAF,aHA,wK,iA,aAZ,aEB,aAG,aAH,aA0,↓reduceIte]) (by simp only[aG,w9,xA,aG9,aEA,xB,nW,wJ,aAE,xC,nX,hU,aAF,aHA,wK,iA,aAZ,aEB,aAG,aAH,aA0,↓reduceIte];rfl) R3 ?_
      rw[hy]
      exact bN5 U2 U4 U6 R5 F3
     |some mo =>
      rw[aV]at hos
      have V5:=hon mo rfl
      have C2:HC mo=some (wG (p.aD.take k)):=by rw[hHC,aK];simp only[aG,V5,↓reduceIte]
      rw[aY]at C1
      have V1:¬mo=n7:=λe=>by rw[e,h7]at C2;cases C2
      have V2:¬mo=n8:=λe=>by rw[e,z8]at C2;cases C2
      have V3:¬mo=m:=λe=>by rw[e,oX]at C2;cases C2
      obtain⟨b6I,aVB,aU9,b6J⟩:=bB (show ¬mo=n7 from V1)
      obtain⟨b6K,aVC,aVA,b6L⟩:=bB (show ¬mo=n8 from V2)
      obtain⟨cAA,a2N,a2M,cAB⟩:=bB (show ¬mo=m from V3)
      obtain⟨bAG,qX,qW,aX0⟩:=bB (show ¬mo=n5 from V5)
      rw[wG]at C2
      simp -dsimp -implicitDefEqProofs only[go_sem,↓reduceIte,Tryz.f14,w9,xA,aG9,qW,xB,nW,wJ,aU9,xC,nX,hU,aVA,aHA,wK,iA,a2M,qX,aVB,aVC,a2N,aG,C1,C2,bX,dB]
      refine⟨by decide,by decide,by decide,by omega,by omega,by omega,λc hc=>?_⟩
      obtain⟨R1,R2,R3,R4⟩:=aS3 hc
      have R5:¬c=n5:=λe=>by rw[e,C1]at R4;cases R4
      have R6:¬c=mo:=λe=>by rw[e,C2]at R4;cases R4
      obtain⟨bIZ,aEB,aEA,bI0⟩:=bB (show ¬c=n5 from R5)
      obtain⟨a5O,aAH,aAF,a5P⟩:=bB (show ¬c=n8 from R1)
      obtain⟨a5Q,aAG,aAE,a5R⟩:=bB (show ¬c=n7 from R2)
      obtain⟨aUD,aA0,aAZ,aUE⟩:=bB (show ¬c=m from R3)
      obtain⟨bI1,aLL,aLM,bI2⟩:=bB (show ¬c=mo from R6)
      simp -dsimp -implicitDefEqProofs only[go_sem,↓reduceIte,Tryz.f14,w9,xA,aG9,aEA,qW,xB,nW,wJ,aAE,aU9,xC,nX,hU,aAF,aVA,aHA,wK,iA,aAZ,a2M,aEB,aAG,aAH,aA0,aLL,qX,aVB,aVC,a2N,aLM,aG,C1,C2]
      rw[hHC,aK]at oX h7 z8 R4 ⊢
      simp only[aG]at oX h7 z8 R4
      obtain⟨U1,U1',U2⟩:=aFM oX
      obtain⟨U3,U3',U4⟩:=aFM h7
      obtain⟨U5,U5',U6⟩:=aFM z8
      obtain⟨U7,U7',U8⟩:=aFM R4
      rw[←aYU,←aYU,List.take_take,Nat.min_self]
      refine⟨(k+1,some c),IntWalk.i64_in _ aA,?_,⟨hlt,U8,λm' e=>by cases e;exact R5⟩,by simp only;omega⟩
      refine bAD (p.aD.take k) G (m:=m) (b:=c) bYY bYY R3 ?_
      rw[hy]
      exact bN6 hos U2 U4 U6 V5 R5 R6 V3 F3
  ·obtain rfl:k=p.aD.length:=by omega
   rw[mR]at hos ⊢
   simp -dsimp -implicitDefEqProofs only[go_sem,↓reduceIte,Tryz.f14,bX,dB]
   intro _
   refine cZ aR2 bIV bIW (λx:Nat×Option Nat=>[(1,.ip 1 [[fN 3 aU.c p.aD]] 0 0),(2,.op b 1 0 0),(4,.op n4 1 0 0),(5,.op n5 1 0 0),(56,I p.aD.length),(57,I x.1)]) (λx=>aR (bY HB (wG (p.aD++D.take x.1)) x.2) n5 (.row 1 [[.v (gW 3 (p.aD.length+x.1) x.2)]])) (λx=>x.1<=p.aD.length/\(∀ k,k<x.1->a5L p k=false)/\fT HB (p.aD++D.take x.1) x.2/\∀ m,x.2=some m->¬m=n5) (λx=>p.aD.length-x.1) (0,o) ⟨by simp[c4,b7],?_,fE _,λk h=>absurd h (aMP _),?_,hon⟩ ?_
   ·simp only[aSF,dT,aNG]
    exact aE.le_refl _
   ·simp only[aSF,dT]
    exact hos
   clear hos hon
   rintro⟨k,o⟩ ⟨hkk,hnc,hos,hon⟩
   simp only at hkk hnc hos hon ⊢
   rcases bZ k p.aD.length with hlt|hge
   ·have hx:=hdr k hlt
    have hDn:a5L p k=p.aD.any λf=>decide (f.e8=(vG (mJ p) p k p.aD[k]).e8):=rfl
    have hg:p.aD++D.take (k+1)=p.aD++D.take k++[vG (mJ p) p k p.aD[k]]:=by
     rw[jU aA,hDk k hlt,aD6]
    generalize vG (mJ p) p k p.aD[k]=X at *
    cases o with
    |none =>
     rw[aZ]at hos
     exact absurd (congrArg List.length hos) (by simp only[mV,al3];omega)
    |some mo =>
     rw[aV]at hos
     have V5:=hon mo rfl
     rw[aK,aY]
     simp only[aU.aS X]at hx
     obtain⟨bAG,qX,qW,aX0⟩:=bB (show ¬mo=n5 from V5)
     have V4:¬mo=n4:=λe=>by rw[e,B1]at hos;cases hos
     have V6:¬n4=n5:=λe=>by rw[←e,B1]at B3;cases B3
     obtain⟨b6M,bAH,bAI,b6N⟩:=bB (show ¬mo=n4 from V4)
     obtain⟨bOA,aGI,aGH,bN9⟩:=bB (show ¬n4=n5 from V6)
     simp -dsimp -implicitDefEqProofs only[go_sem,↓reduceIte,Tryz.f14,bAH,qX,bAI,aGI,qW,aGH,aG,B1,hlt]
     first|refine aJ.mk (hx) ?_|refine aF.mk (hx) ?_|refine aJ.bA (hx) ?_|refine aF.mk (aX.cU (hx)) ?_
     simp -dsimp -implicitDefEqProofs only[go_sem,↓reduceIte,Tryz.f14,bAH,qX,bAI,aGI,qW,aGH,aG,B1,hlt]
     intro ne hne
     obtain⟨Q1,Q2,Q3⟩:=aFM hne
     obtain⟨b6O,aX1,aX2,b6P⟩:=bB (show ¬ne=n5 from Q1)
     obtain⟨b6Q,aX3,aX4,b6R⟩:=bB (show ¬ne=mo from Q2)
     rw[aO]
     refine aJ.bA (aQH p.aD (λg=>decide (g.e8=X.e8)) 51 [.op ne 3 0 0] λg _=>aNQ g X ne (by simp[aG,aU.aS])) ?_
     rw[←hDn]
     cases b27:a5L p k with
     |true =>
      have e:oT p=(⟨[]⟩,4):=by rw[oT,if_pos hp,if_pos (aOU.2 ⟨k,aLK.2 hlt,b27⟩)]
      have Y1:¬mo=b:=(B5 mo hos).2.1
      have Y2:¬ne=b:=(B5 ne Q3).2.1
      have Y3:¬n5=b:=(B5 n5 B3).2.1
      obtain⟨bI3,aIQ,aIR,bI4⟩:=bB (show ¬mo=b from Y1)
      obtain⟨cAC,bV1,bV2,cAD⟩:=bB (show ¬ne=b from Y2)
      obtain⟨bIX,zA,zB,bIY⟩:=bB (show ¬n5=b from Y3)
      simp -dsimp -implicitDefEqProofs only[go_sem,↓reduceIte,Tryz.f14,qX,aX4,aIQ,qW,aX2,zA,aX3,aX1,bV1,aIR,zB,bV2,aG,B2]
      rw[e]
      exact Shift.of (Sub.jO (.cons (Sub.agg (.cons (Sub.nil 3 false) .nil)) (.cons (.refl _) .nil))) (bN8 B4 (B5 n5 B3).2.2 hb (B5 mo hos).2.2 (B5 ne Q3).2.2)
     |false =>
      rw[wG]
      simp -dsimp -implicitDefEqProofs only[go_sem,↓reduceIte,Tryz.f14,qX,aX4,qW,aX2,aX3,aX1,aG]
      have hlL:(p.aD++D.take k).length=p.aD.length+k:=by rw[mV,jT];omega
      refine⟨by decide,by decide,by decide,by omega,by omega,by omega,λc hc=>?_⟩
      obtain⟨R1,R2,R3,R4⟩:=aS3 hc
      obtain⟨aXY,aDL,aDM,aXZ⟩:=bB (show ¬c=ne from R1)
      obtain⟨bIZ,aEB,aEA,bI0⟩:=bB (show ¬c=n5 from R2)
      obtain⟨bI1,aLL,aLM,bI2⟩:=bB (show ¬c=mo from R3)
      simp -dsimp -implicitDefEqProofs only[go_sem,↓reduceIte,Tryz.f14,qX,aX4,aLM,qW,aX2,aEA,aX3,aX1,aDM,aLL,aEB,aDL,aG]
      rw[aUW _ X hlL,←hg]
      refine⟨(k+1,some c),IntWalk.i64_in _ aA,?_,⟨hlt,λj hj=>?_,R4,λm' e=>by cases e;exact R2⟩,by simp only;omega⟩
      ·exact bN7 hos Q3 V5 Q1 R2 R3
      ·rcases bZ j k with h1|h1
       ·exact hnc j h1
       ·obtain rfl:j=k:=by omega
        exact b27
   ·obtain rfl:k=p.aD.length:=by omega
    rw[pQ aA]at hos ⊢
    have hnd:¬(List.range p.aD.length).any (a5L p)=true:=λq=>by
     obtain⟨j,hj,hq⟩:=aOU.1 q
     rw[hnc j (aLK.1 hj)]at hq;cases hq
    have a1U:=aCR (xR (mJ p) p) (bH9 hp λg hg=>by
     have:=qN (n:=((p.aD.length+g:Nat):Int)) aA aA
     rw[mJ,al2];omega)
    have e:oT p=if (xR (mJ p) p).ok then(xR (mJ p) p,0)else(⟨[]⟩,3):=by rw[oT,if_pos hp,if_neg hnd]
    rw[e]
    rw[hdP]at a1U ⊢
    simp only[aC.aS (⟨p.aD++D⟩)]at a1U
    have Y3:¬n5=b:=(B5 n5 B3).2.1
    obtain⟨bIX,zA,zB,bIY⟩:=bB (show ¬n5=b from Y3)
    cases o with
    |none =>
     rw[aZ]at hos
     rw[b5,aQ]
     simp -dsimp -implicitDefEqProofs only[go_sem,↓reduceIte,Tryz.f14,bX,dB,zA,zB,aG]
     refine aJ.mk (fM.sub (.cons (Sub.agg (.cons (hos▸Sub.nil 3 false) .nil)) .nil) a1U) ?_
     simp -dsimp -implicitDefEqProofs only[go_sem,↓reduceIte,Tryz.f14,zA,zB,aG,B2]
     refine⟨λq=>?_,λq=>?_⟩
     ·rw[if_neg q]
      exact Shift.of (Sub.jO (.cons (Sub.agg (.cons (Sub.nil 3 false) .nil)) (.cons (.refl _) .nil))) (aGG B4 (B5 n5 B3).2.2 hb)
     ·rw[if_pos q,hos]
      exact Shift.of (Sub.jO (.cons (Sub.agg (.cons (Sub.nil 3 false) .nil)) (.cons (.refl _) .nil))) (aGG B4 (B5 n5 B3).2.2 hb)
    |some mo =>
     rw[aV]at hos
     have V5:=hon mo rfl
     have Y1:¬mo=b:=(B5 mo hos).2.1
     obtain⟨bAG,qX,qW,aX0⟩:=bB (show ¬mo=n5 from V5)
     obtain⟨bI3,aIQ,aIR,bI4⟩:=bB (show ¬mo=b from Y1)
     rw[aK,aY]
     simp -dsimp -implicitDefEqProofs only[go_sem,↓reduceIte,Tryz.f14,bX,dB,qX,aIQ,qW,zA,aIR,zB,aG]
     refine aJ.bN4 (fs:=p.aD++D) (by rw[mV,hDl]) (by simp only[aG,qX,aIQ,qW,zA,aIR,zB,↓reduceIte]) (aM ..) aX0 ?_
     refine fM.call a1U ?_
     simp -dsimp -implicitDefEqProofs only[go_sem,↓reduceIte,Tryz.f14,qX,aIQ,qW,zA,aIR,zB,aG,B2]
     refine⟨λq=>?_,λq=>?_⟩
     ·rw[if_neg q]
      exact Shift.of (Sub.jO (.cons (Sub.agg (.cons (Sub.nil 3 false) .nil)) (.cons (.refl _) .nil))) (bAE B4 (B5 n5 B3).2.2 hb (B5 mo hos).2.2)
     ·rw[if_pos q]
      exact bG (bAE B4 (B5 n5 B3).2.2 hb (B5 mo hos).2.2)
 ·rw[decide_eq_false hp]at hvp
  have e:oT p=(⟨[]⟩,1):=by rw[oT,if_neg hp]
  rw[e]
  simp only[aC.aS]at hvp ⊢
  refine iN 80 aR2 bIV bIW Tryz.func14 λh=>?_
  simp -dsimp -implicitDefEqProofs only[go_sem,↓reduceIte,Tryz.f14]
  refine λb hb=>?_
  first|refine aJ.mk (hvp) ?_|refine aF.mk (hvp) ?_|refine aJ.bA (hvp) ?_|refine aF.mk (aX.cU (hvp)) ?_
  simp -dsimp -implicitDefEqProofs only[go_sem,↓reduceIte,Tryz.f14]
  exact Shift.of (Sub.jO (.cons (Sub.agg (.cons (Sub.nil 3 false) .nil)) (.cons (.refl _) .nil))) sA
theorem aX5 (l:List Int) (hl:l.length<=1048576) {h:aE}:jC Tryz.prog 138 [ints l] h λr h'=>∃ o,fT h l o/\r=iO 1 l.length o/\h'=bY h (lI l) o:=by
 refine jC.mono (a3F l hl h) ?_
 rintro r h' ⟨l_,⟨y,oy,rfl,rfl⟩,wn⟩
 rcases oy.aL7 with⟨rfl,rfl⟩|⟨m,rfl⟩
 ·rw[OV.uE]at wn
  exact⟨none,rfl,by simp[OV.val,iO],by rw[aQ];exact funext λq=>wn.upto q aHC⟩
 ·rw[OV.hJ,l3,kG]at wn
  obtain⟨zm,rfl⟩:=wn.aC9
  exact⟨some m,zm,by rw[OV.oE];rfl,rfl⟩
theorem aK0 {h H:aE} {c1 c2 l1 l2:Nat} {v s:List Int} {d:Int} (h1:H c1=some (lI v)) (h2:H c2=some (lI s)) (e1:l1=v.length) (e2:l2=s.length) (hH:h.le (jL H [c1,c2])):Shift (.agg [.os c1 1 0 l1,.os c2 1 0 l2,I d]) H (.agg [ints v,ints s,I d]) h:=by
 subst e1 e2
 have a:=Shift.own (h:=h) (h':=H) [.sl c1 1 (v.map λn=>[.v (I n)]),.sl c2 1 (s.map λn=>[.v (I n)]),.v (I d)]
 have r:OV.cJ [.sl c1 1 (v.map λn=>[.v (I n)]),.sl c2 1 (s.map λn=>[.v (I n)]),.v (I d)]=[(c1,lI v),(c2,lI s)]:=by
  simp only[OV.fC,OV.gZ,OV.sZ,OV.hJ,l3,kG,lW,dT,aU8];rfl
 rw[r]at a
 have b:=a (λp hp=>by
  rcases pY.1 hp with rfl|hp
  ·exact h1
  ·rw[jF.1 hp];exact h2) hH
 have e3:[OV.sl c1 1 (v.map λn=>[.v (I n)]),.sl c2 1 (s.map λn=>[.v (I n)]),.v (I d)].map OV.pU=[ints v,ints s,I d]:=by
  simp only[nZ,sX,OV.pU,OV.fS,aD7];rfl
 have e4:[OV.sl c1 1 (v.map λn=>[.v (I n)]),.sl c2 1 (s.map λn=>[.v (I n)]),.v (I d)].map OV.val=[.os c1 1 0 v.length,.os c2 1 0 s.length,I d]:=by
  simp only[nZ,sX,OV.val,nG]
 rw[e3,e4]at b
 exact b
@[go_sem] def bOF:List Nat:=[0,1,2,3,4,8]
@[go_sem] def b28:List Nat:=[4,13,19]
@[go_sem] def b29:Marks:=λid=>match id with|1=>([2,5,8,11,14],(.op 0 (.op 1 (.op 3 (.op 4 (.op 6 (.op 7 (.op 9 (.op 10 (.op 12 (.op 2 (.op 5 (.op 8 (.op 11 (.op 13 (.op 14 .nil))))))))))))))),[])|_=>([],.nil,[])
theorem aUX (v s:List Int) (c x y d:Int) (hv:v.length<=1000000) (hs:s.length=v.length):fM Tryz.prog 117 [.agg [ints v,ints s,I c],I x,I y,I d] (.agg [ints (v++[x]),ints (s++[y]),I d]):=by
 refine iN 23 bOF b28 b29 Tryz.func117 λh=>?_
 simp -dsimp -implicitDefEqProofs only[go_sem,↓reduceIte,Tryz.f117]
 refine λb hb=>⟨by decide,by decide,by decide,by decide,?_⟩
 refine aJ.gS (aX5 v aA) ?_
 rintro r_ h' ⟨o,hos,rfl,rfl⟩
 cases o with
 |none =>
  rw[aZ]at hos
  have hv0:v.length=0:=by rw[hos];rfl
  rw[hv0,bM,aQ]
  simp -dsimp -implicitDefEqProofs only[go_sem,↓reduceIte,Tryz.f117]
  refine⟨by decide,λc1 hc1=>?_⟩
  obtain⟨bIP,rW,rX,bIQ⟩:=bB (show ¬c1=b from hc1.1)
  obtain⟨H1,hH1⟩:∃ H:aE,H=aR (aR h b (.row 3 [[.v .bD,.v .bD,.v (I 0)]])) c1 (.row 1 [[.v (I x)]]):=⟨_,rfl⟩
  rw[←hH1]
  have E1:H1 c1=some (lI (v++[x])):=by rw[hH1,aM,hos];rfl
  have E2:H1 b=some (.row 3 [[.v .bD,.v .bD,.v (I 0)]]):=by rw[hH1];simp only[aG,rW,rX,↓reduceIte]
  have E3:∀ q,¬q=b->¬q=c1->h q=none∨H1 q=h q:=λq q1 q2=>by rw[hH1];simp only[aG];grind
  have hl1:(1:Nat)=(v++[x]).length:=by rw[hos];rfl
  refine aJ.gS (aX5 s aA) ?_
  rintro r_ h' ⟨o,oX,rfl,rfl⟩
  clear hH1
  cases o with
  |none =>
   rw[aZ]at oX
   have hs0:s.length=0:=by rw[oX];rfl
   rw[hs0,bM,aQ]
   simp -dsimp -implicitDefEqProofs only[go_sem,↓reduceIte,Tryz.f117,E2]
   refine⟨by decide,λc2 hc2=>?_⟩
   have D1:¬c2=c1:=λe=>by rw[e,E1]at hc2;cases hc2
   have D2:¬c2=b:=λe=>by rw[e,E2]at hc2;cases hc2
   obtain⟨aOM,qZ,rA,aON⟩:=bB (show ¬c2=c1 from D1)
   obtain⟨aXW,u6,u7,aXX⟩:=bB (show ¬c2=b from D2)
   simp -dsimp -implicitDefEqProofs only[go_sem,↓reduceIte,Tryz.f117,qZ,u6,rA,rW,u7,rX,aG,E2]
   refine aK0 bPE bPC hl1 (by rw[oX];rfl) λq=>?_
   have f2:h c2=none:=(E3 c2 D2 D1).elim id λe=>by rw[←e];exact hc2
   by_cases e1:q=c1
   ·rw[e1];exact .inl (hc1.2)
   by_cases e2:q=c2
   ·rw[e2];exact .inl f2
   by_cases e3:q=b
   ·rw[e3];exact .inl hb
   rw[iL (by simp[e1,e2])]
   simp only[aG,e2,e3,↓reduceIte]
   exact(E3 q e3 e1).imp_right Eq.symm
  |some m2 =>
   rw[aV]at oX
   have D3:¬m2=c1:=λe=>by rw[e,E1]at oX;cases oX
   have D4:¬m2=b:=λe=>by rw[e,E2]at oX;cases oX
   obtain⟨a95,vM,vL,a94⟩:=bB (show ¬m2=c1 from D3)
   obtain⟨aC1,dK,dJ,aC2⟩:=bB (show ¬m2=b from D4)
   rw[bC,aK,lI]
   simp -dsimp -implicitDefEqProofs only[go_sem,↓reduceIte,Tryz.f117,vM,dK,vL,rW,dJ,rX,aG,E2]
   refine⟨by decide,iH _,by omega,by omega,λc2 hc2=>?_⟩
   obtain⟨D0,D5⟩:=wF hc2
   have D1:¬c2=c1:=λe=>by rw[e,E1]at D5;cases D5
   have D2:¬c2=b:=λe=>by rw[e,E2]at D5;cases D5
   obtain⟨aOM,qZ,rA,aON⟩:=bB (show ¬c2=c1 from D1)
   obtain⟨aXW,u6,u7,aXX⟩:=bB (show ¬c2=b from D2)
   obtain⟨bAA,aB3,aB4,bAB⟩:=bB (show ¬c2=m2 from D0)
   simp -dsimp -implicitDefEqProofs only[go_sem,↓reduceIte,Tryz.f117,qZ,u6,aB3,rA,rW,vL,u7,rX,dJ,aB4,vM,dK,aG,E2]
   refine aK0 bPB bYZ hl1 bD2 λq=>?_
   have f2:h c2=none:=(E3 c2 D2 D1).elim id λe=>by rw[←e];exact D5
   have f3:h m2=none:=(E3 m2 D4 D3).elim id λe=>by rw[←e];exact oX
   by_cases e1:q=c1
   ·rw[e1];exact .inl (hc1.2)
   by_cases e2:q=c2
   ·rw[e2];exact .inl f2
   by_cases e3:q=b
   ·rw[e3];exact .inl hb
   by_cases e4:q=m2
   ·rw[e4];exact .inl f3
   rw[iL (by simp[e1,e2])]
   simp only[aG,e2,e3,e4,↓reduceIte]
   exact(E3 q e3 e1).imp_right Eq.symm
 |some m =>
  rw[aV]at hos
  obtain⟨W1,W2⟩:=wF hos
  obtain⟨rT,fJ,fI,sG⟩:=bB (show ¬m=b from W1)
  rw[bC,aK,lI]
  simp -dsimp -implicitDefEqProofs only[go_sem,↓reduceIte,Tryz.f117,fJ,fI]
  refine⟨by decide,iH _,by omega,by omega,λc1 hc1=>?_⟩
  obtain⟨cAE,bV3,bV4,cAF⟩:=bB (show ¬c1=m from hc1.1)
  obtain⟨bIP,rW,rX,bIQ⟩:=bB (show ¬c1=b from hc1.2.1)
  obtain⟨H1,hH1⟩:∃ H:aE,H=aR (aR (aR (aR h b (.row 3 [[.v .bD,.v .bD,.v (I 0)]])) m (.row 1 ((v.map λn=>[I n]).map (List.map .v)))) m .gone) c1 (.row 1 (List.take v.length ((v.map λn=>[I n]).map (List.map Cell.v))++[[.v (I x)]])):=⟨_,rfl⟩
  rw[←hH1]
  have E1:H1 c1=some (lI (v++[x])):=by rw[hH1,aM,aA1,pQ (by rw[nG,nG];exact iH _)]
  have E2:H1 b=some (.row 3 [[.v .bD,.v .bD,.v (I 0)]]):=by rw[hH1];simp only[aG,rW,bV3,rX,fI,bV4,fJ,↓reduceIte]
  have E3:∀ q,¬q=b->¬q=c1->h q=none∨H1 q=h q:=λq q1 q2=>by rw[hH1];simp only[aG];grind
  have hl1:v.length+1=(v++[x]).length:=by rw[mV];rfl
  refine aJ.gS (aX5 s aA) ?_
  rintro r_ h' ⟨o,oX,rfl,rfl⟩
  clear hH1
  cases o with
  |none =>
   rw[aZ]at oX
   have hs0:s.length=0:=by rw[oX];rfl
   rw[hs0,bM,aQ]
   simp -dsimp -implicitDefEqProofs only[go_sem,↓reduceIte,Tryz.f117,E2]
   refine⟨by decide,λc2 hc2=>?_⟩
   have D1:¬c2=c1:=λe=>by rw[e,E1]at hc2;cases hc2
   have D2:¬c2=b:=λe=>by rw[e,E2]at hc2;cases hc2
   obtain⟨aOM,qZ,rA,aON⟩:=bB (show ¬c2=c1 from D1)
   obtain⟨aXW,u6,u7,aXX⟩:=bB (show ¬c2=b from D2)
   simp -dsimp -implicitDefEqProofs only[go_sem,↓reduceIte,Tryz.f117,qZ,u6,rA,rW,u7,rX,aG,E2]
   refine aK0 bPE bPC hl1 (by rw[oX];rfl) λq=>?_
   have f2:h c2=none:=(E3 c2 D2 D1).elim id λe=>by rw[←e];exact hc2
   by_cases e1:q=c1
   ·rw[e1];exact .inl (hc1.2.2)
   by_cases e2:q=c2
   ·rw[e2];exact .inl f2
   by_cases e3:q=b
   ·rw[e3];exact .inl hb
   rw[iL (by simp[e1,e2])]
   simp only[aG,e2,e3,↓reduceIte]
   exact(E3 q e3 e1).imp_right Eq.symm
  |some m2 =>
   rw[aV]at oX
   have D3:¬m2=c1:=λe=>by rw[e,E1]at oX;cases oX
   have D4:¬m2=b:=λe=>by rw[e,E2]at oX;cases oX
   obtain⟨a95,vM,vL,a94⟩:=bB (show ¬m2=c1 from D3)
   obtain⟨aC1,dK,dJ,aC2⟩:=bB (show ¬m2=b from D4)
   rw[bC,aK,lI]
   simp -dsimp -implicitDefEqProofs only[go_sem,↓reduceIte,Tryz.f117,vM,dK,vL,rW,dJ,rX,aG,E2]
   refine⟨by decide,iH _,by omega,by omega,λc2 hc2=>?_⟩
   obtain⟨D0,D5⟩:=wF hc2
   have D1:¬c2=c1:=λe=>by rw[e,E1]at D5;cases D5
   have D2:¬c2=b:=λe=>by rw[e,E2]at D5;cases D5
   obtain⟨aOM,qZ,rA,aON⟩:=bB (show ¬c2=c1 from D1)
   obtain⟨aXW,u6,u7,aXX⟩:=bB (show ¬c2=b from D2)
   obtain⟨bAA,aB3,aB4,bAB⟩:=bB (show ¬c2=m2 from D0)
   simp -dsimp -implicitDefEqProofs only[go_sem,↓reduceIte,Tryz.f117,qZ,u6,aB3,rA,rW,vL,u7,rX,dJ,aB4,vM,dK,aG,E2]
   refine aK0 bPB bYZ hl1 bD2 λq=>?_
   have f2:h c2=none:=(E3 c2 D2 D1).elim id λe=>by rw[←e];exact D5
   have f3:h m2=none:=(E3 m2 D4 D3).elim id λe=>by rw[←e];exact oX
   by_cases e1:q=c1
   ·rw[e1];exact .inl (hc1.2.2)
   by_cases e2:q=c2
   ·rw[e2];exact .inl f2
   by_cases e3:q=b
   ·rw[e3];exact .inl hb
   by_cases e4:q=m2
   ·rw[e4];exact .inl f3
   rw[iL (by simp[e1,e2])]
   simp only[aG,e2,e3,e4,↓reduceIte]
   exact(E3 q e3 e1).imp_right Eq.symm
abbrev nmS (c:Int) (v s:List Int):aH:=.agg [ints v,ints s,I c]
def bV5 (p:aC) (funcs:Int) (x:aB):Prop:=∀ (v s:List Int) (c:Int),s.length=v.length->x.ok p funcs v.length->v.length+x.s<=1000000->(0<=c/\c+2*x.s<=1000000)->fM Tryz.prog 118 [nmS c v s,.ip 5 [x.c] 0 0] (.agg (qI x v c).c)
theorem bV6 (e:aB) (h2:¬e.aP=2) (h:e.aP=9->e.aL.length=2) (v:List Int) (c:Int):∃ L,qI e v c=.mk e.aP e.aW e.bR e.bI L/\L.length=e.aL.length/\∀ k,k<e.aL.length->L[k]?=some (if e.aP=9/\k=1 then qI (e.fZ 1) (v++[c]) (c+1)else qI (e.fZ k) v c):=by
 rw[a4K,if_neg h2]
 refine⟨_,rfl,?_,λk hk=>?_⟩
 ·by_cases h9:e.aP=9
  ·rw[if_pos h9,aWP e (h h9),h h9];rfl
  ·rw[if_neg h9,nG]
 ·by_cases h9:e.aP=9
  ·have hl:=h h9
   rw[if_pos h9,aWP e hl]
   match k,(show k<2 by omega)with
   |0,_=>rw[if_neg aA];rfl
   |1,_=>rw[if_pos ⟨h9,rfl⟩];rfl
  ·rw[if_neg h9,if_neg (λq=>h9 q.1),nE,aB.fV hk];rfl
theorem bV7 {h:aE} {nb n d:Nat} {X X' Z R:bE} (h1:h n=none) (d1:¬n=nb) (d2:¬d=nb):(aR (aR h d R) nb X').le (aR (aR (aR (aR h nb X) n Z) d R) nb X'):=λq=>by
 simp only[aG]
 grind
theorem bI6 {h:aE} {m nb n d:Nat} {X X' Z R R0:bE} (h0:h m=none) (h1:h n=none) (d1:¬n=nb) (d2:¬d=nb) (d3:¬d=m) (d4:¬m=nb) (d5:¬n=m):(aR (aR h d R) nb X').le (aR (aR (aR (aR (aR (aR h m R0) nb X) n Z) m .gone) d R) nb X'):=λq=>by
 simp only[aG]
 grind
@[go_sem] def aX6:List Nat:=[0,1,2,4,5,6,7,12,45,57]
@[go_sem] def bI7:List Nat:=[2,75]
@[go_sem] def bI8:Marks:=λid=>match id with|2=>([8,9],(.op 0 (.op 1 (.op 2 (.op 3 (.op 4 (.op 5 (.op 6 (.op 7 (.op 8 (.op 9 .nil)))))))))),[])|3=>([17,18],(.op 0 (.op 1 (.op 2 (.op 3 (.op 4 (.op 5 (.op 6 (.op 7 (.op 8 (.op 9 (.op 10 (.op 11 (.op 12 (.op 13 (.op 14 (.op 15 (.op 16 (.op 17 (.op 18 .nil))))))))))))))))))),[])|10=>([1,2,9,11,13],(.op 0 (.op 3 (.op 4 (.op 5 (.op 6 (.op 7 (.op 8 (.op 1 (.op 2 (.op 9 (.op 10 (.op 11 (.op 12 (.op 13 .nil)))))))))))))),[(1,9)])|_=>([],.nil,[])
set_option maxHeartbeats 1000000 in
theorem a5S {p:aC} {funcs:Int} (e:aB) (hkids:∀ x∈e.aL,bV5 p funcs x):bV5 p funcs e:=by
 intro v s c hls hok hv hc
 have hnode:=((aB.cN _ _ _ _).1 hok).1
 have hsl:=lN e
 by_cases h2:e.aP=2
 ·have hnum:=((dA aA).1 hnode).2.2.2.2.1 h2
  rw[a4K,if_pos h2,aB.aS e]
  have ev:v[e.aW.toNat]?=some (v.getD e.aW.toNat 0):=cI aA
  have hx:=bII (v.getD e.aW.toNat 0)
  rw[aB.aS]at hx ⊢
  refine iN 79 aX6 bI7 bI8 Tryz.func118 λh=>?_
  simp -dsimp -implicitDefEqProofs only[go_sem,↓reduceIte,Tryz.f118,h2,ev]
  refine λb hb=>⟨hnum.1,by omega,?_⟩
  first|refine aJ.mk (hx) ?_|refine aF.mk (hx) ?_|refine aJ.bA (hx) ?_|refine aF.mk (aX.cU (hx)) ?_
  simp -dsimp -implicitDefEqProofs only[go_sem,↓reduceIte,Tryz.f118]
  exact bG sA
 ·have h9l:e.aP=9->e.aL.length=2:=λh9=>by
   have hlen:=cQ hok aA
   rw[h9,show dD 9=2 from rfl]at hlen
   omega
  obtain⟨L,hL,hLl,hLk⟩:=bV6 e h2 h9l v c
  rw[hL,aB.aS e]
  refine iN 79 aX6 bI7 bI8 Tryz.func118 λh=>?_
  simp -dsimp -implicitDefEqProofs only[go_sem,↓reduceIte,Tryz.f118,h2,aO]
  refine λb hb nb hnb=>?_
  obtain⟨kY,dO,dP,mY⟩:=bB (show ¬nb=b from hnb.1)
  obtain⟨HA,hHA⟩:∃ H:aE,H=aR h b (.row 5 [[.v (I 0),.v (I 0),.v (I 0),.v (I 0),.v .bD]]):=⟨_,rfl⟩
  rw[←hHA]
  have A1:HA b=some (.row 5 [[.v (I 0),.v (I 0),.v (I 0),.v (I 0),.v .bD]]):=by rw[hHA];exact aM ..
  have A2:HA nb=none:=by rw[hHA,aI _ _ _ _ kY];exact hnb.2
  have A3:∀ q,HA q=none->¬q=b/\h q=none:=λq hq=>by rw[hHA]at hq;simp only[aG]at hq;exact wF hq
  have A4:h.le HA:=by rw[hHA];exact aE.bP hb (aE.le_refl _)
  clear hHA
  refine cZ aX6 bI7 bI8 (λx:Nat×Option Nat=>[(1,.ip 5 [[I e.aP,I e.aW,I e.bR,I e.bI,fN 5 aB.c e.aL]] 0 0),(2,.ip 3 [[ints v,ints s,I c]] 0 0),(4,.op b 5 0 0),(5,.op nb 5 0 0),(6,I x.1)]) (λx=>aR (bY HA (rJ (L.take x.1)) x.2) nb (.row 5 [[.v (I e.aP),.v (I e.aW),.v (I e.bR),.v (I e.bI),.v (gW 5 x.1 x.2)]])) (λx=>x.1<=e.aL.length/\fT HA (L.take x.1) x.2/\∀ m,x.2=some m->¬m=nb) (λx=>e.aL.length-x.1) (0,none) ⟨by simp[c4,b7],aE.le_refl _,fE _,rfl,λm e=>by cases e⟩ ?_
  rintro⟨k,o⟩ ⟨hk,hos,hon⟩
  simp only at hk hos hon ⊢
  rcases bZ k e.aL.length with hlt|hge
  ·have hy:L.take (k+1)=L.take k++[L[k]'aA]:=jU aA
   have hLg:=hLk k hlt
   rw[cM aA]at hLg
   have hLe:=gV hLg
   have aBQ:(L.take k).length=k:=by rw[jT];omega
   have mk':=gD hlt
   have sk:=kB mk'
   have gk:e.aL[k]?=some (e.fZ k):=aB.fV hlt
   cases o with
   |none =>
    rw[aZ]at hos
    obtain rfl:=aBO hos aA
    rw[aQ,b5]
    simp -dsimp -implicitDefEqProofs only[go_sem,↓reduceIte,Tryz.f118,dO,dP,aG,hlt]
    refine λ_ n hn=>?_
    obtain⟨N1,N2⟩:=wF hn
    obtain⟨wR,fK,fL,p6⟩:=bB (show ¬n=nb from N1)
    have hq:fM Tryz.prog 118 [nmS c v s,.ip 5 [(e.fZ 0).c] 0 0] (.agg (L[0]'aA).c):=by
     rw[hLe,if_neg aA]
     exact hkids _ mk' v s c hls (by have:=aB.dX hok (i:=0) hlt;rwa [gQ aA]at this) aA aA
    generalize L[0]'aA=y at *
    rw[aB.jN hlt]at hq
    simp only[aB.aS y]at hq
    refine⟨λ_=>⟨λq=>absurd q aA,λ_=>?_⟩,λ_=>?_⟩
    all_goals
     simp -dsimp -implicitDefEqProofs only[go_sem,↓reduceIte,Tryz.f118,fL,fK,aG,aO]
     first|refine aF.mk ((hq).sub gG) ?_|refine aJ.mk ((hq).sub gG) ?_
     simp -dsimp -implicitDefEqProofs only[go_sem,↓reduceIte,Tryz.f118,fL,fK,aG]
     refine⟨by decide,by decide,by decide,λd hd=>?_⟩
     obtain⟨R1,R2,R3⟩:=aFM hd
     obtain⟨bRK,a1V,a1W,bRL⟩:=bB (show ¬d=n from R1)
     obtain⟨aFO,qS,qT,aFP⟩:=bB (show ¬d=nb from R2)
     simp -dsimp -implicitDefEqProofs only[go_sem,↓reduceIte,Tryz.f118,fL,qT,fK,a1W,qS,a1V,aG]
     rw[aBN y]
     refine⟨(0+1,some d),IntWalk.i64_in _ aA,?_,⟨hlt,R3,λm' e=>by cases e;exact R2⟩,by simp only;omega⟩
     rw[hy]
     exact bV7 N2 N1 R2
   |some m =>
    rw[aV]at hos
    have F1:=hon m rfl
    obtain⟨mB,cY,cX,kM⟩:=bB (show ¬m=nb from F1)
    rw[aK,aY]
    simp -dsimp -implicitDefEqProofs only[go_sem,↓reduceIte,Tryz.f118,cX,cY,aG,hlt]
    refine λ_ n hn=>?_
    obtain⟨N1,N2,N3⟩:=aFM hn
    obtain⟨wR,fK,fL,p6⟩:=bB (show ¬n=nb from N1)
    obtain⟨aG1,gU,gT,wY⟩:=bB (show ¬n=m from N2)
    have w1:IntKind.i64.wrap (c+1)=c+1:=IntWalk.i64_in _ aA
    refine⟨λh9=>⟨λq=>?_,λq=>?_⟩,λh9=>?_⟩
    ·obtain rfl:k=1:=by omega
     have hq:fM Tryz.prog 118 [nmS (c+1) (v++[c]) (s++[0]),.ip 5 [(e.fZ 1).c] 0 0] (.agg (L[1]'aA).c):=by
      rw[hLe,if_pos ⟨h9,rfl⟩]
      have o1:=aB.dX hok (i:=1) hlt
      rw[h9,show jV 9 1 (v.length:Int)=v.length+1 from rfl]at o1
      exact hkids _ mk' _ _ _ bDT aDS aY3 aA
     generalize L[1]'aA=y at *
     rw[aB.jN hlt]at hq
     simp only[aB.aS y]at hq
     rw[w1]
     first|refine aJ.mk (aUX v s c c 0 (c+1) aA hls) ?_|refine aF.mk (aUX v s c c 0 (c+1) aA hls) ?_|refine aJ.bA (aUX v s c c 0 (c+1) aA hls) ?_|refine aF.mk (aX.cU (aUX v s c c 0 (c+1) aA hls)) ?_
     simp -dsimp -implicitDefEqProofs only[go_sem,↓reduceIte,Tryz.f118,fL,cX,fK,gU,cY,gT,aG,aO]
     refine⟨hlt,?_⟩
     first|refine aF.mk ((hq).sub gG) ?_|refine aJ.mk ((hq).sub gG) ?_
     simp -dsimp -implicitDefEqProofs only[go_sem,↓reduceIte,Tryz.f118,fL,cX,fK,gU,cY,gT,aG]
     rw[rJ]
     simp -dsimp -implicitDefEqProofs only[go_sem,↓reduceIte,Tryz.f118,fL,cX,fK,gU,cY,gT,aG]
     first
     |refine⟨by decide,by decide,by decide,by omega,by omega,by omega,?_⟩
     |refine⟨by decide,by decide,by decide,by omega,?_⟩
     intro d hd
     obtain⟨R1,R2,R3,R4⟩:=aS3 hd
     obtain⟨bRK,a1V,a1W,bRL⟩:=bB (show ¬d=n from R1)
     obtain⟨aFO,qS,qT,aFP⟩:=bB (show ¬d=nb from R2)
     obtain⟨a1X,aFQ,aFR,a1Y⟩:=bB (show ¬d=m from R3)
     simp -dsimp -implicitDefEqProofs only[go_sem,↓reduceIte,Tryz.f118,fL,cX,qT,fK,gU,a1W,cY,gT,aFR,qS,a1V,aFQ,aG]
     rw[oO _ y aBQ,←hy]
     exact⟨(1+1,some d),IntWalk.i64_in _ aA,bI6 hos N3 N1 R2 R3 F1 N2,⟨hlt,R4,λm' e=>by cases e;exact R2⟩,by simp only;omega⟩
    all_goals
     have hq:fM Tryz.prog 118 [nmS c v s,.ip 5 [(e.fZ k).c] 0 0] (.agg (L[k]'aA).c):=by
      rw[hLe,if_neg aA]
      exact hkids _ mk' v s c hls (by have:=aB.dX hok (i:=k) hlt;rwa [gQ aA]at this) aA aA
     generalize L[k]'aA=y at *
     rw[aB.jN hlt]at hq
     simp only[aB.aS y]at hq
     simp -dsimp -implicitDefEqProofs only[go_sem,↓reduceIte,Tryz.f118,fL,cX,fK,gU,cY,gT,aG,aO]
     first|refine aF.mk ((hq).sub gG) ?_|refine aJ.mk ((hq).sub gG) ?_
     simp -dsimp -implicitDefEqProofs only[go_sem,↓reduceIte,Tryz.f118,fL,cX,fK,gU,cY,gT,aG]
     rw[rJ]
     simp -dsimp -implicitDefEqProofs only[go_sem,↓reduceIte,Tryz.f118,fL,cX,fK,gU,cY,gT,aG]
     first
     |refine⟨by decide,by decide,by decide,by omega,by omega,by omega,?_⟩
     |refine⟨by decide,by decide,by decide,by omega,?_⟩
     intro d hd
     obtain⟨R1,R2,R3,R4⟩:=aS3 hd
     obtain⟨bRK,a1V,a1W,bRL⟩:=bB (show ¬d=n from R1)
     obtain⟨aFO,qS,qT,aFP⟩:=bB (show ¬d=nb from R2)
     obtain⟨a1X,aFQ,aFR,a1Y⟩:=bB (show ¬d=m from R3)
     simp -dsimp -implicitDefEqProofs only[go_sem,↓reduceIte,Tryz.f118,fL,cX,qT,fK,gU,a1W,cY,gT,aFR,qS,a1V,aFQ,aG]
     rw[oO _ y aBQ,←hy]
     exact⟨(k+1,some d),IntWalk.i64_in _ aA,bI6 hos N3 N1 R2 R3 F1 N2,⟨hlt,R4,λm' e=>by cases e;exact R2⟩,by simp only;omega⟩
  ·obtain rfl:k=e.aL.length:=by omega
   rw[pQ aA]at hos ⊢
   cases o with
   |none =>
    rw[aZ]at hos
    rw[aQ,b5]
    simp -dsimp -implicitDefEqProofs only[go_sem,↓reduceIte,Tryz.f118,bX,dB,dO,dP,aG,A1]
    intro _
    rw[hos,aB.aS (.mk _ _ _ _ _)]
    exact Shift.of (Sub.agg (.cons (.refl _) (.cons (.refl _) (.cons (.refl _) (.cons (.refl _) (.cons (Sub.nil 5 false) .nil)))))) (aGG A4 (A3 nb A2).2 hb)
   |some m =>
    rw[aV]at hos
    have F1:=hon m rfl
    obtain⟨mB,cY,cX,kM⟩:=bB (show ¬m=nb from F1)
    have F2:¬m=b:=(A3 m hos).1
    obtain⟨rT,fJ,fI,sG⟩:=bB (show ¬m=b from F2)
    rw[aK,aY]
    simp -dsimp -implicitDefEqProofs only[go_sem,↓reduceIte,Tryz.f118,bX,dB,dO,cX,dP,fI,cY,fJ,aG,A1]
    intro _
    exact aIN _ _ _ _ a6H hLl.symm (aFN A4 hb (A3 nb A2).2 (A3 m hos).2)
theorem uO {p:aC} {funcs:Int} (e:aB):bV5 p funcs e :=
 a5S e λx hx=>uO x
termination_by SizeOf.sizeOf e
decreasing_by exact aB.wQ hx
@[go_sem] def b3A:List Nat:=[1,4]
theorem bOG (x:aB):fM Tryz.prog 164 [.agg x.c] (.agg (nJ 7 [x]).c):=by
 rw[nJ,aB.aS (.mk 7 0 0 0 [x])]
 simp only[aB.aL,fN,nZ,sX,aB.aP,aB.aW,aB.bR,aB.bI]
 rw[aB.aS x]
 refine iN 6 bQH b3A cK Tryz.func164 λh=>?_
 simp -dsimp -implicitDefEqProofs only[go_sem,↓reduceIte,Tryz.f164]
 exact λn hn=>⟨by decide,by decide,Shift.of (Sub.agg (.cons (.refl _) (.cons (.refl _) (.cons (.refl _) (.cons (.refl _) (.cons (Sub.loose _ _ _) .nil)))))) bDU⟩
def aB1 (p:aC) (funcs:Int) (x:aB):Prop:=∀ (v s:List Int) (c:Int),s.length=v.length->x.ok p funcs v.length->v.length+x.s<=1000000->(0<=c/\c+2*x.s<=1000000)->fM Tryz.prog 119 [nmS c v s,.ip 1 [p.c] 0 0,.ip 5 [x.c] 0 0] (.agg (rU (oN p) p.aD.length x v s c).c)
@[go_sem] def aX7:List Nat:=[0,1,2,3,6,7,8,9,10,11,33,34,44]
@[go_sem] def bI9:Marks:=λid=>match id with|1=>([],(.op 0 (.op 1 (.op 2 (.op 3 (.op 4 (.op 5 (.op 6 (.op 7 (.op 8 (.op 9 (.op 10 (.op 11 .nil)))))))))))),[])|2=>([8,9,10,11],(.op 0 (.op 1 (.op 2 (.op 3 (.op 4 (.op 5 (.op 6 (.op 7 (.alt 8 (.op 9 (.op 10 (.op 11 .nil))) 9 (.op 8 (.op 10 (.op 11 .nil)))))))))))),[])|6=>([4,5,7],(.op 0 (.op 1 (.op 2 (.op 3 (.op 4 (.op 5 (.op 6 (.op 7 .nil)))))))),[])|8=>([0,8,11],(.op 1 (.op 2 (.op 3 (.op 5 (.op 6 (.op 0 (.op 4 (.op 7 (.op 8 (.op 9 (.op 10 (.op 11 .nil)))))))))))),[])|9=>([7,8],(.op 0 (.op 1 (.op 2 (.op 3 (.op 4 (.op 5 (.op 6 (.op 7 (.op 8 .nil))))))))),[])|10=>([0,1,2,9],(.op 5 (.op 6 (.op 0 (.op 1 (.op 2 (.op 3 (.op 4 (.op 7 (.op 8 (.op 9 .nil)))))))))),[])|_=>([],.nil,[])
theorem aNE {p:aC} {funcs:Int} (e:aB) (hk:e.aP=3∨e.aP=4) (ih:∀ x∈e.aL,aB1 p funcs x) (v s:List Int) (c:Int) (hls:s.length=v.length) (hok:e.ok p funcs v.length) (hv:v.length+e.s<=1000000) (hc:0<=c/\c+2*e.s<=1000000):fM Tryz.prog 167 [nmS c v s,.ip 1 [p.c] 0 0,.ip 5 [e.c] 0 0] (.agg (rU (oN p) p.aD.length e v s c).c):=by
 have hlen:=cQ hok aA
 rw[show dD e.aP=2 by unfold dD;rw[if_neg aA,if_pos aA]]at hlen
 have hsl:=lN e
 have t0:Int.toNat 0=0:=rfl
 have t1:Int.toNat 1=1:=rfl
 have m0:=gD (e:=e) (i:=0) aA
 have s0:=kB m0
 have o0:=cO hok aA _ m0
 have v0:=uO (p:=p) (funcs:=funcs) (e.fZ 0) v s c hls o0 aA aA
 have d0:=ih _ m0 v s c hls o0 aA aA
 rw[aB.jN (i:=0) aA]at v0 d0
 have m1:=gD (e:=e) (i:=1) aA
 have s1:=kB m1
 have o1:=cO hok aA _ m1
 have v1:=uO (p:=p) (funcs:=funcs) (e.fZ 1) v s c hls o1 aA aA
 have d1:=ih _ m1 v s c hls o1 aA aA
 rw[aB.jN (i:=1) aA]at v1 d1
 rw[pE,qC aA,qC aA,aB.jN (i:=0) aA,aB.jN (i:=1) aA]
 generalize qI (e.aL[0]'aA) v c=a0 at *
 generalize qI (e.aL[1]'aA) v c=a1 at *
 generalize rU (oN p) p.aD.length (e.aL[0]'aA) v s c=b0 at *
 generalize rU (oN p) p.aD.length (e.aL[1]'aA) v s c=b1 at *
 rw[slN,if_neg aA,if_neg aA,if_pos aA]
 have hx:=aG6 e.aP b0 b1
 rw[show aB.mk e.aP 0 0 0 [b0,b1]=nJ e.aP [b0,b1]from rfl]at hx
 generalize nJ e.aP [b0,b1]=y at *
 simp only[aC.aS,aB.aS e,aB.aS y,aB.aS b0,aB.aS b1]at hx d0 d1 ⊢
 rcases hk with hk|hk
 all_goals
  simp only[hk]at hx d0 d1 ⊢
  refine iN 73 aX7 a0C bI9 Tryz.func167 λh=>?_
  simp -dsimp -implicitDefEqProofs only[go_sem,↓reduceIte,Tryz.f167,hk,t0,t1]
  refine λb hb=>⟨by omega,by omega,?_⟩
  first|refine aF.mk ((d0).sub gG) ?_|refine aJ.mk ((d0).sub gG) ?_
  simp -dsimp -implicitDefEqProofs only[go_sem,↓reduceIte,Tryz.f167]
  first|refine aF.mk ((d1).sub gG) ?_|refine aJ.mk ((d1).sub gG) ?_
  simp -dsimp -implicitDefEqProofs only[go_sem,↓reduceIte,Tryz.f167]
  refine⟨λn1 q1 n2 q2=>?_,λn2 q2 n1 q1=>?_⟩
  all_goals
   have F:(¬n1=b/\¬n2=b/\¬n2=n1)/\h n1=none/\h n2=none:=by clear ih hok hv hc d0 d1 v0 v1;grind
   obtain⟨⟨F1,F2,F3⟩,F4,F5⟩:=F
   obtain⟨a5T,kP,kQ,a5U⟩:=bB (show ¬n1=b from F1)
   obtain⟨a5V,kZ,lA,a5W⟩:=bB (show ¬n2=b from F2)
   obtain⟨aX8,iZ,jA,aX9⟩:=bB (show ¬n2=n1 from F3)
   simp -dsimp -implicitDefEqProofs only[go_sem,↓reduceIte,Tryz.f167,kQ,lA,kP,jA,kZ,iZ,aG]
   first|refine aJ.mk (hx) ?_|refine aF.mk (hx) ?_|refine aJ.bA (hx) ?_|refine aF.mk (aX.cU (hx)) ?_
   simp -dsimp -implicitDefEqProofs only[go_sem,↓reduceIte,Tryz.f167,kQ,lA,kP,jA,kZ,iZ,aG]
   refine bG λq=>?_
   clear ih hok hv hc d0 d1 v0 v1
   simp only[aG]
   grind
theorem a1Z {p:aC} {funcs:Int} (e:aB) (hk:e.aP=5) (ih:∀ x∈e.aL,aB1 p funcs x) (v s:List Int) (c:Int) (hls:s.length=v.length) (hok:e.ok p funcs v.length) (hv:v.length+e.s<=1000000) (hc:0<=c/\c+2*e.s<=1000000):fM Tryz.prog 167 [nmS c v s,.ip 1 [p.c] 0 0,.ip 5 [e.c] 0 0] (.agg (rU (oN p) p.aD.length e v s c).c):=by
 have hlen:=cQ hok aA
 rw[show dD e.aP=2 by unfold dD;rw[if_neg aA,if_pos aA]]at hlen
 have hsl:=lN e
 have t0:Int.toNat 0=0:=rfl
 have t1:Int.toNat 1=1:=rfl
 have m0:=gD (e:=e) (i:=0) aA
 have s0:=kB m0
 have o0:=cO hok aA _ m0
 have v0:=uO (p:=p) (funcs:=funcs) (e.fZ 0) v s c hls o0 aA aA
 have d0:=ih _ m0 v s c hls o0 aA aA
 rw[aB.jN (i:=0) aA]at v0 d0
 have m1:=gD (e:=e) (i:=1) aA
 have s1:=kB m1
 have o1:=cO hok aA _ m1
 have v1:=uO (p:=p) (funcs:=funcs) (e.fZ 1) v s c hls o1 aA aA
 have d1:=ih _ m1 v s c hls o1 aA aA
 rw[aB.jN (i:=1) aA]at v1 d1
 rw[pE,qC aA,qC aA,aB.jN (i:=0) aA,aB.jN (i:=1) aA]
 generalize qI (e.aL[0]'aA) v c=a0 at *
 generalize qI (e.aL[1]'aA) v c=a1 at *
 generalize rU (oN p) p.aD.length (e.aL[0]'aA) v s c=b0 at *
 generalize rU (oN p) p.aD.length (e.aL[1]'aA) v s c=b1 at *
 rw[slN,if_neg aA,if_neg aA,if_neg aA,if_pos hk]
 simp only[aIZ,aI0]
 have h1:=aG6 5 b0 a1
 have h2:=aG6 5 a0 b1
 have h3:=aG6 3 (nJ 5 [b0,a1]) (nJ 5 [a0,b1])
 rw[show aB.mk 5 0 0 0 [b0,a1]=nJ 5 [b0,a1]from rfl]at h1
 rw[show aB.mk 5 0 0 0 [a0,b1]=nJ 5 [a0,b1]from rfl]at h2
 rw[show aB.mk 3 0 0 0 [nJ 5 [b0,a1],nJ 5 [a0,b1]]=nJ 3 [nJ 5 [b0,a1],nJ 5 [a0,b1]]from rfl]at h3
 generalize nJ 3 [nJ 5 [b0,a1],nJ 5 [a0,b1]]=y at *
 generalize nJ 5 [b0,a1]=y1 at *
 generalize nJ 5 [a0,b1]=y2 at *
 simp only[aC.aS,aB.aS e,aB.aS y,aB.aS y1,aB.aS y2,aB.aS a0,aB.aS a1,aB.aS b0,aB.aS b1,hk]at h1 h2 h3 d0 d1 v0 v1 ⊢
 refine iN 73 aX7 a0C bI9 Tryz.func167 λh=>?_
 simp -dsimp -implicitDefEqProofs only[go_sem,↓reduceIte,Tryz.f167,hk,t0,t1]
 refine λb hb=>⟨by omega,by omega,?_⟩
 first|refine aF.mk ((d0).sub gG) ?_|refine aJ.mk ((d0).sub gG) ?_
 simp -dsimp -implicitDefEqProofs only[go_sem,↓reduceIte,Tryz.f167]
 first|refine aF.mk ((d1).sub gG) ?_|refine aJ.mk ((d1).sub gG) ?_
 simp -dsimp -implicitDefEqProofs only[go_sem,↓reduceIte,Tryz.f167]
 refine⟨λn1 q1 n2 q2=>?_,λn2 q2 n1 q1=>?_⟩
 all_goals
  have F:(¬n1=b/\¬n2=b/\¬n2=n1)/\h n1=none/\h n2=none:=by clear ih hok hv hc d0 d1 v0 v1;grind
  obtain⟨⟨F1,F2,F3⟩,F4,F5⟩:=F
  obtain⟨a5T,kP,kQ,a5U⟩:=bB (show ¬n1=b from F1)
  obtain⟨a5V,kZ,lA,a5W⟩:=bB (show ¬n2=b from F2)
  obtain⟨aX8,iZ,jA,aX9⟩:=bB (show ¬n2=n1 from F3)
  simp -dsimp -implicitDefEqProofs only[go_sem,↓reduceIte,Tryz.f167,kQ,lA,kP,jA,kZ,iZ,aG]
  first|refine aF.mk ((v1).sub gG) ?_|refine aJ.mk ((v1).sub gG) ?_
  simp -dsimp -implicitDefEqProofs only[go_sem,↓reduceIte,Tryz.f167,kQ,lA,kP,jA,kZ,iZ,aG]
  first|refine aJ.mk (h1) ?_|refine aF.mk (h1) ?_|refine aJ.bA (h1) ?_|refine aF.mk (aX.cU (h1)) ?_
  simp -dsimp -implicitDefEqProofs only[go_sem,↓reduceIte,Tryz.f167,kQ,lA,kP,jA,kZ,iZ,aG]
  first|refine aF.mk ((v0).sub gG) ?_|refine aJ.mk ((v0).sub gG) ?_
  simp -dsimp -implicitDefEqProofs only[go_sem,↓reduceIte,Tryz.f167,kQ,lA,kP,jA,kZ,iZ,aG]
  first|refine aJ.mk (h2) ?_|refine aF.mk (h2) ?_|refine aJ.bA (h2) ?_|refine aF.mk (aX.cU (h2)) ?_
  simp -dsimp -implicitDefEqProofs only[go_sem,↓reduceIte,Tryz.f167,kQ,lA,kP,jA,kZ,iZ,aG]
  first|refine aJ.mk (h3) ?_|refine aF.mk (h3) ?_|refine aJ.bA (h3) ?_|refine aF.mk (aX.cU (h3)) ?_
  simp -dsimp -implicitDefEqProofs only[go_sem,↓reduceIte,Tryz.f167,kQ,lA,kP,jA,kZ,iZ,aG]
  refine bG λq=>?_
  clear ih hok hv hc d0 d1 v0 v1
  simp only[aG]
  grind
theorem a11 {p:aC} {funcs:Int} (e:aB) (hk:e.aP=6) (ih:∀ x∈e.aL,aB1 p funcs x) (v s:List Int) (c:Int) (hls:s.length=v.length) (hok:e.ok p funcs v.length) (hv:v.length+e.s<=1000000) (hc:0<=c/\c+2*e.s<=1000000):fM Tryz.prog 167 [nmS c v s,.ip 1 [p.c] 0 0,.ip 5 [e.c] 0 0] (.agg (rU (oN p) p.aD.length e v s c).c):=by
 have hlen:=cQ hok aA
 rw[show dD e.aP=2 by unfold dD;rw[if_neg aA,if_pos aA]]at hlen
 have hsl:=lN e
 have t0:Int.toNat 0=0:=rfl
 have t1:Int.toNat 1=1:=rfl
 have m0:=gD (e:=e) (i:=0) aA
 have s0:=kB m0
 have o0:=cO hok aA _ m0
 have v0:=uO (p:=p) (funcs:=funcs) (e.fZ 0) v s c hls o0 aA aA
 have d0:=ih _ m0 v s c hls o0 aA aA
 rw[aB.jN (i:=0) aA]at v0 d0
 have m1:=gD (e:=e) (i:=1) aA
 have s1:=kB m1
 have o1:=cO hok aA _ m1
 have v1:=uO (p:=p) (funcs:=funcs) (e.fZ 1) v s c hls o1 aA aA
 have d1:=ih _ m1 v s c hls o1 aA aA
 rw[aB.jN (i:=1) aA]at v1 d1
 rw[pE,qC aA,qC aA,aB.jN (i:=0) aA,aB.jN (i:=1) aA]
 generalize qI (e.aL[0]'aA) v c=a0 at *
 generalize qI (e.aL[1]'aA) v c=a1 at *
 generalize rU (oN p) p.aD.length (e.aL[0]'aA) v s c=b0 at *
 generalize rU (oN p) p.aD.length (e.aL[1]'aA) v s c=b1 at *
 rw[slN,if_neg aA,if_neg aA,if_neg aA,if_neg aA,if_pos hk]
 simp only[aIZ,aI0]
 have h1:=aG6 6 a0 a1
 have h2:=aG6 5 (nJ 6 [a0,a1]) b1
 have h3:=aG6 4 b0 (nJ 5 [nJ 6 [a0,a1],b1])
 have h4:=aG6 6 (nJ 4 [b0,nJ 5 [nJ 6 [a0,a1],b1]]) a1
 rw[show aB.mk 6 0 0 0 [a0,a1]=nJ 6 [a0,a1]from rfl]at h1
 rw[show aB.mk 5 0 0 0 [nJ 6 [a0,a1],b1]=nJ 5 [nJ 6 [a0,a1],b1]from rfl]at h2
 rw[show aB.mk 4 0 0 0 [b0,nJ 5 [nJ 6 [a0,a1],b1]]=nJ 4 [b0,nJ 5 [nJ 6 [a0,a1],b1]]from rfl]at h3
 rw[show aB.mk 6 0 0 0 [nJ 4 [b0,nJ 5 [nJ 6 [a0,a1],b1]],a1]=nJ 6 [nJ 4 [b0,nJ 5 [nJ 6 [a0,a1],b1]],a1]from rfl]at h4
 generalize nJ 6 [nJ 4 [b0,nJ 5 [nJ 6 [a0,a1],b1]],a1]=y at *
 generalize nJ 4 [b0,nJ 5 [nJ 6 [a0,a1],b1]]=y1 at *
 generalize nJ 5 [nJ 6 [a0,a1],b1]=y2 at *
 generalize nJ 6 [a0,a1]=y3 at *
 simp only[aC.aS,aB.aS e,aB.aS y,aB.aS y1,aB.aS y2,aB.aS y3,aB.aS a0,aB.aS a1,aB.aS b0,aB.aS b1,hk]at h1 h2 h3 h4 d0 d1 v0 v1 ⊢
 refine iN 73 aX7 a0C bI9 Tryz.func167 λh=>?_
 simp -dsimp -implicitDefEqProofs only[go_sem,↓reduceIte,Tryz.f167,hk,t0,t1]
 refine λb hb=>⟨by omega,by omega,?_⟩
 first|refine aF.mk ((d0).sub gG) ?_|refine aJ.mk ((d0).sub gG) ?_
 simp -dsimp -implicitDefEqProofs only[go_sem,↓reduceIte,Tryz.f167]
 first|refine aF.mk ((d1).sub gG) ?_|refine aJ.mk ((d1).sub gG) ?_
 simp -dsimp -implicitDefEqProofs only[go_sem,↓reduceIte,Tryz.f167]
 refine⟨λn1 q1 n2 q2=>?_,λn2 q2 n1 q1=>?_⟩
 all_goals
  have F:(¬n1=b/\¬n2=b/\¬n2=n1)/\h n1=none/\h n2=none:=by clear ih hok hv hc d0 d1 v0 v1;grind
  obtain⟨⟨F1,F2,F3⟩,F4,F5⟩:=F
  obtain⟨a5T,kP,kQ,a5U⟩:=bB (show ¬n1=b from F1)
  obtain⟨a5V,kZ,lA,a5W⟩:=bB (show ¬n2=b from F2)
  obtain⟨aX8,iZ,jA,aX9⟩:=bB (show ¬n2=n1 from F3)
  simp -dsimp -implicitDefEqProofs only[go_sem,↓reduceIte,Tryz.f167,kQ,lA,kP,jA,kZ,iZ,aG]
  first|refine aF.mk ((v0).sub gG) ?_|refine aJ.mk ((v0).sub gG) ?_
  simp -dsimp -implicitDefEqProofs only[go_sem,↓reduceIte,Tryz.f167,kQ,lA,kP,jA,kZ,iZ,aG]
  first|refine aF.mk ((v1).sub gG) ?_|refine aJ.mk ((v1).sub gG) ?_
  simp -dsimp -implicitDefEqProofs only[go_sem,↓reduceIte,Tryz.f167,kQ,lA,kP,jA,kZ,iZ,aG]
  first|refine aJ.mk (h1) ?_|refine aF.mk (h1) ?_|refine aJ.bA (h1) ?_|refine aF.mk (aX.cU (h1)) ?_
  simp -dsimp -implicitDefEqProofs only[go_sem,↓reduceIte,Tryz.f167,kQ,lA,kP,jA,kZ,iZ,aG]
  intro n3 q3
  have G:¬n3=b/\¬n3=n1/\¬n3=n2/\h n3=none:=by clear ih hok hv hc d0 d1 v0 v1 h1 h2 h3 h4;grind
  obtain⟨G1,G2,G3,G4⟩:=G
  obtain⟨bV8,zC,zD,bV9⟩:=bB (show ¬n3=b from G1)
  obtain⟨bOH,uP,uQ,bOI⟩:=bB (show ¬n3=n1 from G2)
  obtain⟨bOJ,uR,uS,bOK⟩:=bB (show ¬n3=n2 from G3)
  simp -dsimp -implicitDefEqProofs only[go_sem,↓reduceIte,Tryz.f167,kQ,lA,zD,kP,jA,uQ,kZ,iZ,uS,zC,uP,uR,aG]
  first|refine aJ.mk (h2) ?_|refine aF.mk (h2) ?_|refine aJ.bA (h2) ?_|refine aF.mk (aX.cU (h2)) ?_
  simp -dsimp -implicitDefEqProofs only[go_sem,↓reduceIte,Tryz.f167,kQ,lA,zD,kP,jA,uQ,kZ,iZ,uS,zC,uP,uR,aG]
  first|refine aJ.mk (h3) ?_|refine aF.mk (h3) ?_|refine aJ.bA (h3) ?_|refine aF.mk (aX.cU (h3)) ?_
  simp -dsimp -implicitDefEqProofs only[go_sem,↓reduceIte,Tryz.f167,kQ,lA,zD,kP,jA,uQ,kZ,iZ,uS,zC,uP,uR,aG]
  first|refine aF.mk ((v1).sub gG) ?_|refine aJ.mk ((v1).sub gG) ?_
  simp -dsimp -implicitDefEqProofs only[go_sem,↓reduceIte,Tryz.f167,kQ,lA,zD,kP,jA,uQ,kZ,iZ,uS,zC,uP,uR,aG]
  first|refine aJ.mk (h4) ?_|refine aF.mk (h4) ?_|refine aJ.bA (h4) ?_|refine aF.mk (aX.cU (h4)) ?_
  simp -dsimp -implicitDefEqProofs only[go_sem,↓reduceIte,Tryz.f167,kQ,lA,zD,kP,jA,uQ,kZ,iZ,uS,zC,uP,uR,aG]
  refine bG λq=>?_
  clear ih hok hv hc d0 d1 v0 v1
  simp only[aG]
  grind
@[go_sem] def aDR:List Nat:=[0,1,2,3,6,7,8,9,13,14,17,28,39,66,109]
@[go_sem] def aR3:List Nat:=[3,64]
@[go_sem] def aR4:Marks:=λid=>match id with|5=>([9],(.op 0 (.op 1 (.op 2 (.op 3 (.op 4 (.op 5 (.op 6 (.op 7 (.op 8 (.op 9 .nil)))))))))),[])|7=>([9],(.op 0 (.op 1 (.op 2 (.op 3 (.op 4 (.op 5 (.op 6 (.op 7 (.op 8 (.op 9 .nil)))))))))),[])|9=>([25],(.op 0 (.op 1 (.op 2 (.op 3 (.op 4 (.op 5 (.op 6 (.op 7 (.op 8 (.op 9 (.op 10 (.op 11 (.op 12 (.op 13 (.op 14 (.op 15 (.op 16 (.op 17 (.op 18 (.op 19 (.op 20 (.op 21 (.op 22 (.op 23 (.op 24 (.op 25 .nil)))))))))))))))))))))))))),[])|13=>([0,8,9],(.op 1 (.op 2 (.op 3 (.op 4 (.op 5 (.op 6 (.op 0 (.op 7 (.op 8 (.op 9 .nil)))))))))),[(0,8)])|15=>([7,8,18],(.op 0 (.op 1 (.op 2 (.op 3 (.op 4 (.op 5 (.op 6 (.op 9 (.op 10 (.op 11 (.op 12 (.op 13 (.op 14 (.op 7 (.op 8 (.op 15 (.op 16 (.op 17 (.op 18 .nil))))))))))))))))))),[])|_=>([],.nil,[])
theorem bCI {p:aC} {funcs:Int} (e:aB) (hk:e.aP=1) (ih:∀ x∈e.aL,aB1 p funcs x):aB1 p funcs e:=by
 intro v s c hls hok hv hc
 have hnode:=((aB.cN _ _ _ _).1 hok).1
 have hsl:=lN e
 have t0:Int.toNat 0=0:=rfl
 have t1:Int.toNat 1=1:=rfl
 have t2:Int.toNat 2=2:=rfl
 rw[pE,slN,if_pos hk]
 have hx:=bVQ 0
 generalize aB.mk 1 0 0 0 []=y at *
 simp only[aC.aS,aB.aS e,aB.aS y]at hx ⊢
 refine iN 120 aDR aR3 aR4 Tryz.func119 λh=>?_
 simp -dsimp -implicitDefEqProofs only[go_sem,↓reduceIte,Tryz.f119,hk]
 intro b hb
 first|refine aJ.mk (hx) ?_|refine aF.mk (hx) ?_|refine aJ.bA (hx) ?_|refine aF.mk (aX.cU (hx)) ?_
 simp -dsimp -implicitDefEqProofs only[go_sem,↓reduceIte,Tryz.f119]
 exact bG sA
theorem bCJ {p:aC} {funcs:Int} (e:aB) (hk:e.aP=2) (ih:∀ x∈e.aL,aB1 p funcs x):aB1 p funcs e:=by
 intro v s c hls hok hv hc
 have hnode:=((aB.cN _ _ _ _).1 hok).1
 have hsl:=lN e
 have t0:Int.toNat 0=0:=rfl
 have t1:Int.toNat 1=1:=rfl
 have t2:Int.toNat 2=2:=rfl
 rw[pE,slN,if_neg aA,if_pos hk]
 have hnum:=((dA aA).1 hnode).2.2.2.2.1 hk
 have ev:s[e.aW.toNat]?=some (s.getD e.aW.toNat 0):=cI aA
 have hx:=bII (s.getD e.aW.toNat 0)
 generalize aB.mk 2 (s.getD e.aW.toNat 0) 0 0 []=y at *
 simp only[aC.aS,aB.aS e,aB.aS y]at hx ⊢
 refine iN 120 aDR aR3 aR4 Tryz.func119 λh=>?_
 simp -dsimp -implicitDefEqProofs only[go_sem,↓reduceIte,Tryz.f119,hk,ev]
 refine λb hb=>⟨hnum.1,by omega,?_⟩
 first|refine aJ.mk (hx) ?_|refine aF.mk (hx) ?_|refine aJ.bA (hx) ?_|refine aF.mk (aX.cU (hx)) ?_
 simp -dsimp -implicitDefEqProofs only[go_sem,↓reduceIte,Tryz.f119]
 exact bG sA
theorem bCK {p:aC} {funcs:Int} (e:aB) (hk:e.aP=7) (ih:∀ x∈e.aL,aB1 p funcs x):aB1 p funcs e:=by
 intro v s c hls hok hv hc
 have hnode:=((aB.cN _ _ _ _).1 hok).1
 have hsl:=lN e
 have t0:Int.toNat 0=0:=rfl
 have t1:Int.toNat 1=1:=rfl
 have t2:Int.toNat 2=2:=rfl
 have hlen:=cQ hok aA
 rw[hk,show dD 7=1 from rfl]at hlen
 have m0:=gD (e:=e) (i:=0) aA
 have s0:=kB m0
 have o0:=cO hok aA _ m0
 have v0:=uO (p:=p) (funcs:=funcs) (e.fZ 0) v s c hls o0 aA aA
 have d0:=ih _ m0 v s c hls o0 aA aA
 rw[aB.jN (i:=0) aA]at v0 d0
 rw[pE,slN,if_neg aA,if_neg aA,if_pos aA,aWN aA,hk,aB.jN (i:=0) aA]
 generalize rU (oN p) p.aD.length (e.aL[0]'aA) v s c=b0 at *
 have hx:=bOG b0
 generalize nJ 7 [b0]=y at *
 simp only[aC.aS,aB.aS e,aB.aS y,aB.aS b0,hk]at hx d0 ⊢
 refine iN 120 aDR aR3 aR4 Tryz.func119 λh=>?_
 simp -dsimp -implicitDefEqProofs only[go_sem,↓reduceIte,Tryz.f119,hk,t0]
 refine λb hb=>⟨by omega,?_⟩
 first|refine aF.mk ((d0).sub gG) ?_|refine aJ.mk ((d0).sub gG) ?_
 simp -dsimp -implicitDefEqProofs only[go_sem,↓reduceIte,Tryz.f119]
 first|refine aJ.mk (hx) ?_|refine aF.mk (hx) ?_|refine aJ.bA (hx) ?_|refine aF.mk (aX.cU (hx)) ?_
 simp -dsimp -implicitDefEqProofs only[go_sem,↓reduceIte,Tryz.f119]
 exact bG sA
theorem bCL {p:aC} {funcs:Int} (e:aB) (hk:e.aP=8) (ih:∀ x∈e.aL,aB1 p funcs x):aB1 p funcs e:=by
 intro v s c hls hok hv hc
 have hnode:=((aB.cN _ _ _ _).1 hok).1
 have hsl:=lN e
 have t0:Int.toNat 0=0:=rfl
 have t1:Int.toNat 1=1:=rfl
 have t2:Int.toNat 2=2:=rfl
 have hlen:=cQ hok aA
 rw[hk,show dD 8=3 from rfl]at hlen
 have m0:=gD (e:=e) (i:=0) aA
 have s0:=kB m0
 have o0:=cO hok aA _ m0
 have v0:=uO (p:=p) (funcs:=funcs) (e.fZ 0) v s c hls o0 aA aA
 have d0:=ih _ m0 v s c hls o0 aA aA
 rw[aB.jN (i:=0) aA]at v0 d0
 have m1:=gD (e:=e) (i:=1) aA
 have s1:=kB m1
 have o1:=cO hok aA _ m1
 have v1:=uO (p:=p) (funcs:=funcs) (e.fZ 1) v s c hls o1 aA aA
 have d1:=ih _ m1 v s c hls o1 aA aA
 rw[aB.jN (i:=1) aA]at v1 d1
 have m2:=gD (e:=e) (i:=2) aA
 have s2:=kB m2
 have o2:=cO hok aA _ m2
 have v2:=uO (p:=p) (funcs:=funcs) (e.fZ 2) v s c hls o2 aA aA
 have d2:=ih _ m2 v s c hls o2 aA aA
 rw[aB.jN (i:=2) aA]at v2 d2
 rw[pE,slN,if_neg aA,if_neg aA,if_neg aA,if_neg aA,if_neg aA,if_pos hk,wU aA,wU aA,wU aA,aB.jN (i:=0) aA,aB.jN (i:=1) aA,aB.jN (i:=2) aA]
 generalize qI (e.aL[0]'aA) v c=a0 at *
 generalize rU (oN p) p.aD.length (e.aL[1]'aA) v s c=b1 at *
 generalize rU (oN p) p.aD.length (e.aL[2]'aA) v s c=b2 at *
 rw[nJ,aB.aS (.mk 8 0 0 0 [a0,b1,b2])]
 show fM _ _ _ (.agg [I 8,I 0,I 0,I 0,.sl 5 [a0.c,b1.c,b2.c] false])
 simp only[aC.aS,aB.aS e,aB.aS a0,aB.aS b1,aB.aS b2,hk]at d1 d2 v0 ⊢
 refine iN 120 aDR aR3 aR4 Tryz.func119 λh=>?_
 simp -dsimp -implicitDefEqProofs only[go_sem,↓reduceIte,Tryz.f119,hk,t0,t1,t2]
 refine λb hb=>⟨by omega,?_⟩
 first|refine aF.mk ((v0).sub gG) ?_|refine aJ.mk ((v0).sub gG) ?_
 simp -dsimp -implicitDefEqProofs only[go_sem,↓reduceIte,Tryz.f119]
 refine⟨by omega,?_⟩
 first|refine aF.mk ((d1).sub gG) ?_|refine aJ.mk ((d1).sub gG) ?_
 simp -dsimp -implicitDefEqProofs only[go_sem,↓reduceIte,Tryz.f119]
 refine⟨by omega,?_⟩
 first|refine aF.mk ((d2).sub gG) ?_|refine aJ.mk ((d2).sub gG) ?_
 simp -dsimp -implicitDefEqProofs only[go_sem,↓reduceIte,Tryz.f119]
 exact⟨by decide,by decide,Shift.of (Sub.agg (.cons (.refl _) (.cons (.refl _) (.cons (.refl _) (.cons (.refl _) (.cons (Sub.loose _ _ _) .nil)))))) sA⟩
theorem bCM {p:aC} {funcs:Int} (e:aB) (hk:e.aP=9) (ih:∀ x∈e.aL,aB1 p funcs x):aB1 p funcs e:=by
 intro v s c hls hok hv hc
 have hnode:=((aB.cN _ _ _ _).1 hok).1
 have hsl:=lN e
 have t0:Int.toNat 0=0:=rfl
 have t1:Int.toNat 1=1:=rfl
 have t2:Int.toNat 2=2:=rfl
 have hlen:=cQ hok aA
 rw[hk,show dD 9=2 from rfl]at hlen
 have m0:=gD (e:=e) (i:=0) aA
 have m1:=gD (e:=e) (i:=1) aA
 have s0:=kB m0
 have s1:=kB m1
 have o0:=aB.dX hok (i:=0) aA
 have o1:=aB.dX hok (i:=1) aA
 rw[gQ aA]at o0
 rw[hk,show jV 9 1 (v.length:Int)=v.length+1 from rfl]at o1
 have v0:=uO (p:=p) (funcs:=funcs) (e.fZ 0) v s c hls o0 aA aA
 have d0:=ih _ m0 v s (c+1) hls o0 aA aA
 have d1:=ih _ m1 (v++[c]) (s++[c+1]) (c+2) bDT aDS aY3 aA
 rw[pE,slN,if_neg aA,if_neg aA,if_neg aA,if_neg aA,if_neg aA,if_neg aA,if_pos hk,qC aA,a8X e aA]
 simp only[aIZ,aI0]
 rw[aB.jN (i:=0) aA]at v0 d0 ⊢
 rw[aB.jN (i:=1) aA]at d1 ⊢
 generalize qI (e.aL[0]'aA) v c=a0 at *
 generalize rU (oN p) p.aD.length (e.aL[0]'aA) v s (c+1)=b0 at *
 generalize rU (oN p) p.aD.length (e.aL[1]'aA) (v++[c]) (s++[c+1]) (c+2)=b1 at *
 have h1:=aG6 9 b0 b1
 have h2:=aG6 9 a0 (nJ 9 [b0,b1])
 rw[show aB.mk 9 0 0 0 [b0,b1]=nJ 9 [b0,b1]from rfl]at h1
 rw[show aB.mk 9 0 0 0 [a0,nJ 9 [b0,b1]]=nJ 9 [a0,nJ 9 [b0,b1]]from rfl]at h2
 generalize nJ 9 [a0,nJ 9 [b0,b1]]=y at *
 generalize nJ 9 [b0,b1]=y1 at *
 simp only[aC.aS,aB.aS e,aB.aS y,aB.aS y1,aB.aS a0,aB.aS b0,aB.aS b1,hk]at h1 h2 v0 d0 d1 ⊢
 have w1:IntKind.i64.wrap (c+1)=c+1:=IntWalk.i64_in _ aA
 have w2:IntKind.i64.wrap (c+2)=c+2:=IntWalk.i64_in _ aA
 have hw:=aUX v s c c (c+1) (c+2) aA hls
 refine iN 120 aDR aR3 aR4 Tryz.func119 λh=>?_
 simp -dsimp -implicitDefEqProofs only[go_sem,↓reduceIte,Tryz.f119,hk,w1,w2,t0,t1]
 refine λb hb n1 q1=>⟨by omega,?_⟩
 obtain⟨a5T,kP,kQ,a5U⟩:=bB (show ¬n1=b from q1.1)
 first|refine aF.mk ((d0).sub gG) ?_|refine aJ.mk ((d0).sub gG) ?_
 simp -dsimp -implicitDefEqProofs only[go_sem,↓reduceIte,Tryz.f119,kQ,kP,aG]
 intro n2 q2
 have F:¬n2=b/\¬n2=n1/\h n2=none:=by clear ih hok hv hc d0 d1 v0 h1 h2;grind
 obtain⟨F1,F2,F3⟩:=F
 obtain⟨a5V,kZ,lA,a5W⟩:=bB (show ¬n2=b from F1)
 obtain⟨aX8,iZ,jA,aX9⟩:=bB (show ¬n2=n1 from F2)
 simp -dsimp -implicitDefEqProofs only[go_sem,↓reduceIte,Tryz.f119,kQ,lA,kP,jA,kZ,iZ,aG]
 rw[w1,w2]
 first|refine aJ.mk (hw) ?_|refine aF.mk (hw) ?_|refine aJ.bA (hw) ?_|refine aF.mk (aX.cU (hw)) ?_
 simp -dsimp -implicitDefEqProofs only[go_sem,↓reduceIte,Tryz.f119,kQ,lA,kP,jA,kZ,iZ,aG,aO]
 intro n3 q3
 have G:¬n3=b/\¬n3=n1/\¬n3=n2/\h n3=none:=by clear ih hok hv hc d0 d1 v0 h1 h2;grind
 obtain⟨G1,G2,G3,G4⟩:=G
 obtain⟨bV8,zC,zD,bV9⟩:=bB (show ¬n3=b from G1)
 obtain⟨bOH,uP,uQ,bOI⟩:=bB (show ¬n3=n1 from G2)
 obtain⟨bOJ,uR,uS,bOK⟩:=bB (show ¬n3=n2 from G3)
 try simp -dsimp -implicitDefEqProofs only[go_sem,↓reduceIte,Tryz.f119,kQ,lA,zD,kP,jA,uQ,kZ,iZ,uS,zC,uP,uR,aG,t0,t1]
 refine⟨by omega,?_⟩
 first|refine aF.mk ((v0).sub gG) ?_|refine aJ.mk ((v0).sub gG) ?_
 simp -dsimp -implicitDefEqProofs only[go_sem,↓reduceIte,Tryz.f119,kQ,lA,zD,kP,jA,uQ,kZ,iZ,uS,zC,uP,uR,aG]
 refine⟨by omega,?_⟩
 first|refine aF.mk ((d1).sub gG) ?_|refine aJ.mk ((d1).sub gG) ?_
 simp -dsimp -implicitDefEqProofs only[go_sem,↓reduceIte,Tryz.f119,kQ,lA,zD,kP,jA,uQ,kZ,iZ,uS,zC,uP,uR,aG]
 first|refine aJ.mk (h1) ?_|refine aF.mk (h1) ?_|refine aJ.bA (h1) ?_|refine aF.mk (aX.cU (h1)) ?_
 simp -dsimp -implicitDefEqProofs only[go_sem,↓reduceIte,Tryz.f119,kQ,lA,zD,kP,jA,uQ,kZ,iZ,uS,zC,uP,uR,aG]
 first|refine aJ.mk (h2) ?_|refine aF.mk (h2) ?_|refine aJ.bA (h2) ?_|refine aF.mk (aX.cU (h2)) ?_
 simp -dsimp -implicitDefEqProofs only[go_sem,↓reduceIte,Tryz.f119,kQ,lA,zD,kP,jA,uQ,kZ,iZ,uS,zC,uP,uR,aG]
 refine bG λq=>?_
 clear ih hok hv hc d0 d1 v0
 simp only[aG]
 grind
end Go.Hl

/-
  Contracts of functions and laws of the layer over the walk.
-/
import Derived.Test.YtchbdakgjlnbgaaGreatDoorVvE
import Derived.Test.YtchbdakgjlnbgaaGreatDoorHlD
namespace Go.Hl
open Go.Proofs
set_option linter.unusedVariables false
set_option linter.unusedSimpArgs false
def pC {α β:Type} (R:α->β->Prop) (X:Out α) (Y:Out β):Prop:=match X,Y with
 | .ok (v,t),.ok (v',t')=>R v v'/\t=t'
 | .error c,.error c'=>c=c'
 | _,_=>False
theorem pC.bind {α β γ δ:Type} {R:α->β->Prop} {R':γ->δ->Prop} {P:α->Nat->Prop} {X:Out α} {Y:Out β} {F:α->Nat->Out γ} {G:β->Nat->Out δ} (hp:okQ P X) (h:pC R X Y) (hf:∀ v v' t,P v t->R v v'->pC R' (F v t) (G v' t)):pC R' (X.andThen F) (Y.andThen G):=by
 cases X with
 |ok p =>
  cases Y with
  |ok q =>
   obtain⟨v,t⟩:=p
   obtain⟨v',t'⟩:=q
   obtain⟨h1,rfl⟩:=h
   exact hf _ _ _ (hp v t rfl) h1
  |error c=>exact h.elim
 |error c =>
  cases Y with
  |ok q=>exact h.elim
  |error d=>exact h
theorem pC.pure {α β:Type} {R:α->β->Prop} {v:α} {v':β} {t:Nat} (h:R v v'):pC R (.ok (v,t)) (.ok (v',t)):=⟨h,rfl⟩
def sv (S:eE) (l:List Int):List (List Int):=l.map λk=>[S.val k]
def sR1 (r:Int×eE) (v:List Int):Prop:=v=[r.2.val r.1]
def sRL (r:List Int×eE) (vs:List (List Int)):Prop:=vs=sv r.2 r.1
theorem aSE {S S':eE} {l:List Int} (h:∀ x∈l,qQ S x) (e:S.ext S'):sv S' l=sv S l :=
 bFB λx hx=>by rw[e.val (h x hx).1 (h x hx).2]
theorem aB5 {ev:Nat->aB->eE->Out (Int×eE)} {ev':Nat->aB->Out (List Int)} {inp:Int}:∀ (l:List aB) (t:Nat) (S:eE),Good inp S t->t<=3000->(∀ e∈l,∀ u S',Good inp S' u->S.ext S'->rD S t S' u->okQ (a7E inp S' u) (ev u e S')/\pC sR1 (ev u e S') (ev' u e))->pC sRL (oG ev l t S) (vQ ev' l t)
 | [],t,S,hg,ht,_=>pC.pure rfl
 |e::l,t,S,hg,ht,h=>by
  obtain⟨h1,h2⟩:=h e al5 t S hg S.aFU (.refl ht)
  refine pC.bind h1 h2 λr v u hr hv=>?_
  obtain⟨r1,r2,r3,r4⟩:=hr
  have hl:=λx hx u' S' a b c=>h x (al6 _ hx) u' S' a (r2.trans b) (r4.trans c)
  refine pC.bind (sA l u r.2 r1 r4.2.2.2 λx hx u' S' a b c=>(hl x hx u' S' a b c).1) (aB5 l u r.2 r1 r4.2.2.2 hl) λq vs u' hq hvs=>pC.pure ?_
  rw[sR1]at hv
  rw[sRL]at hvs ⊢
  rw[hv,hvs,←hq.2.1.val r3.1 r3.2];rfl
theorem aVP {f:List Int->Nat->eE->Out (List Int×eE)} {g:List (List Int)->Nat->Out (List (List Int))} {inp:Int} {m:Nat} (h:∀ vs t S,Good inp S t->(vs.length=m/\∀ x∈vs,qQ S x)->t<=3000->okQ (aKU inp S t m) (f vs t S)/\pC sRL (f vs t S) (g (sv S vs) t)) :
  ∀ (n:Nat) (vs:List Int) (t:Nat) (S:eE),Good inp S t->(vs.length=m/\∀ x∈vs,qQ S x)->t<=3000->pC sRL (vG f n vs t S) (aFO g n (sv S vs) t)
 |0,vs,t,S,hg,hv,ht=>pC.pure rfl
 |n+1,vs,t,S,hg,hv,ht=>by
  obtain⟨h1,h2⟩:=h vs t S hg hv ht
  refine pC.bind h1 h2 λr w u hr hw=>?_
  rw[sRL]at hw
  rw[hw]
  exact aVP h n r.1 u r.2 hr.1 hr.2.2.1 hr.2.2.2.2.2.2
theorem aIV {S:eE} {l:List Int} {i:Nat} (hi:i<l.length):(sv S l).getD i []=[S.val (l.getD i 0)]:=by
 simp[sv,jC,b6 hi]
theorem bNA {k:Int} {vs:List Int} {S:eE} {t:Nat} (hk:k=3∨k=4∨k=5∨k=6∨k=7) (h1:1<=vs.length) (h2:¬k=7->2<=vs.length):pC sR1 (opR k vs S t) (opE k (sv S vs) t):=by
 have g0:=aIV (S:=S) (l:=vs) (i:=0) aA
 have pv:∀ c v,(S.put c v).val (S.iG.length:Int)=v:=λc v=>by
  rw[eE.val,eE.put,jC,wQ,aEC (fL _),aLH];rfl
 unfold opR opE opV
 rcases hk with rfl|rfl|rfl|rfl|rfl
 all_goals simp only[reduceCtorEq,if_true,if_false,Int.reduceEq]
 ·refine pC.pure ?_
  have g1:=aIV (S:=S) (l:=vs) (i:=1) (h2 dH)
  rw[sR1,pv,g0,g1]
  rfl
 ·refine pC.pure ?_
  have g1:=aIV (S:=S) (l:=vs) (i:=1) (h2 dH)
  rw[sR1,pv,g0,g1]
  show[(_+_*1000002%1000003)%1000003]=[(_-S.val (vs.getD 1 0))%1000003]
  congr 1
  omega
 ·refine pC.pure ?_
  have g1:=aIV (S:=S) (l:=vs) (i:=1) (h2 dH)
  rw[sR1,pv,g0,g1]
  show[(0+_*_)%1000003]=[_*S.val (vs.getD 1 0)%1000003]
  rw[Int.zero_add];rfl
 ·have g1:=aIV (S:=S) (l:=vs) (i:=1) (h2 dH)
  rw[g0,g1,show opB 6 vs=vs.getD 1 0 from rfl,show[S.val (vs.getD 1 0)].getD 0 0=S.val (vs.getD 1 0)from rfl]
  by_cases h:S.val (vs.getD 1 0)=0
  ·rw[if_pos h,if_pos h];exact rfl
  ·rw[if_neg h,if_neg h]
   refine pC.pure ?_
   rw[sR1,pv];rfl
 ·refine pC.pure ?_
  rw[sR1,pv,g0]
  show[_*1000002%1000003]=[(0-S.val (vs.getD 0 0))%1000003]
  congr 1
  omega
theorem a2F {p:aK} (hp:p.ok) {inp:Int}:∀ (n t:Nat) (e:aB) (env:List Int) (S:eE) (funcs:Int),e.ok p funcs env.length->funcs<=p.aJ.length->Good inp S t->t<=3000->(∀ x∈env,qQ S x)->pC sR1 (fM p n t e env S) (oU p 1 n t e (sv S env))
 |0,t,e,env,S,funcs,_,_,_,_,_=>rfl
 |n+1,t,e,env,S,funcs,hok,hf,hg,ht,henv=>by
  have ih:=a2F hp (inp:=inp) n
  have io:=sB hp (inp:=inp) n
  have hnode:=((aB.fG _ _ _ _).1 hok).1
  by_cases h3:t=3000
  ·rw[fM,oU,if_pos h3,if_pos h3];exact rfl
  have oC:=hg.later (mF t)
  have hcap:=hg.cap
  have hgcap:=hg.tT
  have henvE:∀ {S'},S.ext S'->∀ x∈env,qQ S' x:=λe x hx=>(henv x hx).ext e
  have kidsS:¬e.bH=9->∀ x∈e.aO,∀ u S',Good inp S' u->S.ext S'->rD S (t+1) S' u->okQ (a7E inp S' u) (fM p n u x env S')/\pC sR1 (fM p n u x env S') (oU p 1 n u x (sv S env)):=λh9 x hx u S' a b c =>
   ⟨io u x env S' funcs (iL hok h9 x hx) hf a c.2.2.2 (henvE b),by
    have:=ih u x env S' funcs (iL hok h9 x hx) hf a c.2.2.2 (henvE b)
    rwa [aSE henv b]at this⟩
  rcases aB4 hnode with hk|hk|hk|hk|hk|hk|hk|hk|hk|hk|hk
  ·rw[aYD h3 hk,bQS h3 hk]
   refine pC.pure ?_
   simp[sR1,eE.val,eE.put,xN,bKK]
  ·rw[aYE h3 hk,bQT h3 hk]
   have hn:=((gW aA).1 hnode).2.2.2.2.1 hk
   exact pC.pure (aIV aA)
  iterate 5
   ·have hlen:=gE hok aA
    rw[hk]at hlen
    rw[nG h3 aA,a7B h3 aA]
    have hs:=kidsS aA
    refine pC.bind (sA _ _ S oC aA λx hx u S' a b c=>(hs x hx u S' a b c).1) (aB5 _ _ S oC aA hs) λr vs u hr hv=>?_
    obtain⟨r1,r2,r3,r4⟩:=hr
    rw[sRL]at hv
    rw[hv]
    exact bNA aA (by unfold jH at hlen;simp at hlen;omega) (λq=>by unfold jH at hlen;simp at hlen;omega)
  ·have hlen:=gE hok aA
   rw[hk,show jH 8=3 from rfl]at hlen
   have o0:=aB.jS hok (i:=0) aA
   have o1:=aB.jS hok (i:=1) aA
   have o2:=aB.jS hok (i:=2) aA
   rw[mA aA]at o0 o1 o2
   rw[aFW h3 hk,bH7 h3 hk]
   refine pC.bind (io _ _ _ _ _ o0 hf oC aA henv) (ih _ _ _ _ _ o0 hf oC aA henv) λr v u hr hv=>?_
   obtain⟨r1,r2,r3,r4⟩:=hr
   have r4':=r4
   unfold rD at r4'
   rw[sR1]at hv
   subst hv
   rw[show[r.2.val r.1].getD 0 0=r.2.val r.1 from rfl]
   have go:∀ (b:Bool) (k:aB),k.ok p funcs env.length->pC sR1 (fM p n u k env (r.2.guard ⟨r.1,b⟩)) (oU p 1 n u k (sv S env)):=λb k hk=>by
    have he:r.2.ext (r.2.guard ⟨r.1,b⟩):=r.2.pE _
    have:=ih u k env _ _ hk hf (r1.guard (b:=b) r3 aA) aA (henvE (r2.trans he))
    rwa [aSE henv (r2.trans he)]at this
   by_cases hz:r.2.val r.1=0
   ·rw[if_pos hz,if_pos hz];exact go _ _ o1
   ·rw[if_neg hz,if_neg hz];exact go _ _ o2
  ·have hlen:=gE hok aA
   rw[hk,show jH 9=2 from rfl]at hlen
   have o0:=aB.jS hok (i:=0) aA
   have o1:=aB.jS hok (i:=1) aA
   rw[mA aA]at o0
   rw[hk,show oY 9 1 (env.length:Int)=env.length+1 from rfl]at o1
   rw[aYF h3 hk,bQU h3 hk]
   refine pC.bind (io _ _ _ _ _ o0 hf oC aA henv) (ih _ _ _ _ _ o0 hf oC aA henv) λr v u hr hv=>?_
   obtain⟨r1,r2,r3,r4⟩:=hr
   rw[sR1]at hv
   subst hv
   have:=ih u (e.rW 1) (env++[r.1]) r.2 funcs a0A hf r1 r4.2.2.2 (λx hx=>by
    rcases pH.1 hx with hx|hx
    ·exact henvE r2 x hx
    ·rw[rG.1 hx];exact r3)
   rwa [show sv r.2 (env++[r.1])=sv S env++[[r.2.val r.1]]by rw[←aSE henv r2,sv,tA];rfl]at this
  ·obtain⟨f,F⟩:=yG hp hok hf (.inl hk)
   have f2:=F.hi
   have f4:=F.pk2
   rw[aGI h3 hk,bH8 h3 hk]
   have hs:=kidsS aA
   refine pC.bind (sA _ _ S oC aA λx hx u S' a b c=>(hs x hx u S' a b c).1) (aB5 _ _ S oC aA hs) λr vs u hr hv=>?_
   obtain⟨r1,r2,r3,r4⟩:=hr
   rw[sRL]at hv
   rw[hv]
   exact ih _ _ r.1 _ e.cC bO6 aA r1 r4.2.2.2 r3.2
  ·obtain⟨f,F⟩:=yG hp hok hf (.inr hk)
   have f2:=F.hi
   have f4:=F.pk2
   have f9:=F.loop hk
   rw[aGJ h3 hk,bH9 h3 hk]
   have hs:=kidsS aA
   refine pC.bind (sA _ _ S oC aA λx hx u S' a b c=>(hs x hx u S' a b c).1) (aB5 _ _ S oC aA hs) λr vs u hr hv=>?_
   obtain⟨r1,r2,r3,r4⟩:=hr
   rw[sRL]at hv
   rw[hv]
   have hfl:∀ vs t S,Good inp S t->(vs.length=f.bB.length/\∀ x∈vs,qQ S x)->t<=3000->okQ (aKU inp S t f.bB.length) (oG (λt e S=>fM p n t e vs S) (p.outs e.cC) t S)/\pC sRL (oG (λt e S=>fM p n t e vs S) (p.outs e.cC) t S) (vQ (λt e=>oU p 1 n t e (sv S vs)) (p.outs e.cC) t):=λvs w S' hg' hv hw=>by
    rw[F.eq]
    have hx2:∀ x∈f.bB,∀ u S'',Good inp S'' u->S'.ext S''->rD S' w S'' u->okQ (a7E inp S'' u) (fM p n u x vs S'')/\pC sR1 (fM p n u x vs S'') (oU p 1 n u x (sv S' vs)):=λx hx u S'' a b c =>
     ⟨io u x vs S'' e.cC bFP aA a c.2.2.2 λy hy=>(hv.2 y hy).ext b,by
      have:=ih u x vs S'' e.cC bFP aA a c.2.2.2 λy hy=>(hv.2 y hy).ext b
      rwa [aSE hv.2 b]at this⟩
    exact⟨sA _ _ S' hg' hw λx hx u S'' a b c=>(hx2 x hx u S'' a b c).1,aB5 _ _ S' hg' hw hx2⟩
   have hv0:r.1.length=f.bB.length/\∀ x∈r.1,qQ r.2 x:=⟨by have:=r3.1;have:=F.kids;omega,r3.2⟩
   refine pC.bind (aFV (inp:=inp) (m:=f.bB.length) (λvs t S a b c=>(hfl vs t S a b c).1) _ _ _ _ r1 hv0 r4.2.2.2) (aVP (inp:=inp) (m:=f.bB.length) (g:=λvs t=>vQ (λt e=>oU p 1 n t e vs) (p.outs e.cC) t) hfl _ _ _ _ r1 hv0 r4.2.2.2) λq vs2 v hq hvs=>?_
   refine pC.pure ?_
   rw[sRL]at hvs
   rw[hvs]
   exact aIV (by rw[hq.2.2.1.1];exact f4)
def inS (args:List Int):eE:=⟨(List.range args.length).map λi:Nat=>⟨1,0,0,(i:Int)⟩,args,[]⟩
def inE (args:List Int):List Int:=(List.range args.length).map λi:Nat=>(i:Int)
theorem aSF (args:List Int) (ha:p4 args) (hl:args.length<=12):Good args.length (inS args) 0:=by
 refine⟨by simp[inS],ha,λi c hc=>?_,λg hg=>(by cases hg),by simpa[inS]using hl,fL _⟩
 obtain⟨h1,h2⟩:=mU.1 hc
 simp[inS]at h1 h2
 subst h2
 exact .inl ⟨rfl,rfl,rfl,by simp only;omega,by simp only;omega⟩
theorem a7F (args:List Int):∀ x∈inE args,qQ (inS args) x:=λx hx=>by
 obtain⟨i,hi,rfl⟩:=vZ.1 hx
 have:=bCY.1 hi
 exact⟨by omega,by simp[inS];omega⟩
theorem bUJ (args:List Int):sv (inS args) (inE args)=args.map λn=>[n]:=by
 apply List.ext_getElem
 ·simp[sv,inE]
 ·intro i h1 h2
  simp[sv,inE,inS,eE.val]
  simp at h2
  rw[b6 h2];rfl
def aT7 (p:aK) (f:Int) (args:List Int):Out (List Int×eE):=oG (λt e S=>fM p 3001 t e (inE args) S) (p.outs f) 0 (inS args)
theorem aPB {p:aK} (hp:p.ok) (f:Int) (hf:0<=f/\f<p.aJ.length) (args:List Int) (ha:p4 args) (hl:∀ F,p.aJ[f.toNat]?=some F->(args.length:Int)=F.bV) :
  okQ (aKU args.length (inS args) 0 (p.outs f).length) (aT7 p f args)/\pC sRL (aT7 p f args) (evF p 1 f (args.map λn=>[n])):=by
 obtain⟨F,ef,hF1,hF2,hF3,hF4⟩:=aGE hp hf
 have hla:=hl F ef
 have hg:=aSF args ha aA
 have hin:=a7F args
 have hel:(inE args).length=args.length:=by simp[inE]
 have hx2:∀ x∈p.outs f,∀ u S'',Good args.length S'' u->(inS args).ext S''->rD (inS args) 0 S'' u->okQ (a7E args.length S'' u) (fM p 3001 u x (inE args) S'')/\pC sR1 (fM p 3001 u x (inE args) S'') (oU p 1 3001 u x (args.map λn=>[n])):=λx hx u S'' a b c=>by
  have hxo:x.ok p f (inE args).length:=by rw[hel,hla];exact hF4 x (by rw[←hF3];exact hx)
  refine⟨sB hp _ u x _ S'' f hxo aA a c.2.2.2 λy hy=>(hin y hy).ext b,?_⟩
  have:=a2F hp 3001 u x (inE args) S'' f hxo aA a c.2.2.2 λy hy=>(hin y hy).ext b
  rwa [aSE hin b,bUJ]at this
 exact⟨sA _ _ _ hg aA λx hx u S'' a b c=>(hx2 x hx u S'' a b c).1,aB5 _ _ _ hg aA hx2⟩
set_option maxRecDepth 100000
def dZ (p:aK) (inp:Int) (S:eE) (om og ov:Option Nat) (st:Nat) (c:Int):cF :=
 .row 8 [[.v (cI 3 aX.c p.aJ),.v (I inp),.v (jV 4 S.code.length om),.v (jV 2 S.guards.length og),.v .aV,.v (jV 1 S.iG.length ov),.v (I st),.v (I c)]]
def aSG (h:Heap) (sz:Nat) (rows:List (List Cell)):Option Nat->Prop
 |none=>rows=[]
 |some m=>rows≠[]/\h m=some (.row sz rows)
def rowsOf {α:Type} (c:α->List aC) (l:List α):List (List Cell):=(l.map c).map (List.map .v)
theorem jO {α:Type} (c:α->List aC) (l:List α):(rowsOf c l).length=l.length:=by simp[rowsOf]
theorem aEN {α:Type} (c:α->List aC) (l:List α) (x:α):rowsOf c (l++[x])=rowsOf c l++[(c x).map .v]:=by simp[rowsOf]
theorem jT {α:Type} {c:α->List aC} {l:List α}:rowsOf c l=[]↔l=[]:=by simp[rowsOf]
structure zY (bx:eE->Option Nat->Option Nat->Option Nat->cF) (h0:Heap) (nb:Nat) (S:eE) (om og ov:Option Nat) (h:Heap):Prop where
 box:h nb=some (bx S om og ov)
 odd:∀ S om og ov,∃ sz cs,bx S om og ov=.row sz cs/\¬sz=1/\¬sz=2/\¬sz=4
 code:aSG h 4 (rowsOf cO.c S.code) om
 gds:aSG h 2 (rowsOf fK.c S.guards) og
 iG:aSG h 1 (rowsOf (λn=>[I n]) S.iG) ov
 fresh:∀ n,n=nb∨some n=om∨some n=og∨some n=ov->h0 n=none
 upto:∀ n,¬n=nb->¬some n=om->¬some n=og->¬some n=ov->h n=h0 n
def eC (bx:eE->Option Nat->Option Nat->Option Nat->cF) (h0:Heap) (nb:Nat) (S:eE) (h:Heap):Prop:=∃ om og ov,zY bx h0 nb S om og ov h
abbrev bQ2 (h0:Heap) (nb:Nat) (p:aK) (inp:Int) (S:eE) (st:Nat) (c:Int) (om og ov:Option Nat) (h:Heap):Prop:=zY (λS om og ov=>dZ p inp S om og ov st c) h0 nb S om og ov h
abbrev kQ (h0:Heap) (nb:Nat) (p:aK) (inp:Int) (S:eE) (st:Nat) (c:Int) (h:Heap):Prop:=eC (λS om og ov=>dZ p inp S om og ov st c) h0 nb S h
theorem aSH (p:aK) (inp:Int) (st:Nat) (c:Int):∀ S om og ov,∃ sz cs,dZ p inp S om og ov st c=.row sz cs/\¬sz=1/\¬sz=2/\¬sz=4:=λS om og ov=>⟨8,_,rfl,by decide,by decide,by decide⟩
theorem zY.kinds {h0 h:Heap} {nb:Nat} {bx:eE->Option Nat->Option Nat->Option Nat->cF} {S:eE} {om og ov:Option Nat} (H:zY bx h0 nb S om og ov h) (n:Nat) :
  (n=nb->h n=some (bx S om og ov))/\(some n=om->h n=some (.row 4 (rowsOf cO.c S.code)))/\(some n=og->h n=some (.row 2 (rowsOf fK.c S.guards)))/\(some n=ov->h n=some (.row 1 (rowsOf (λn=>[I n]) S.iG))) :=
 ⟨λe=>e▸H.box,λe=>by have:=H.code;rw[←e]at this;exact this.2,λe=>by have:=H.gds;rw[←e]at this;exact this.2,λe=>by have:=H.iG;rw[←e]at this;exact this.2⟩
theorem zY.apart {h0 h:Heap} {nb:Nat} {bx:eE->Option Nat->Option Nat->Option Nat->cF} {S:eE} {om og ov:Option Nat} (H:zY bx h0 nb S om og ov h) (n:Nat) :
  (n=nb->¬some n=om/\¬some n=og/\¬some n=ov)/\(some n=om->¬some n=og/\¬some n=ov)/\(some n=og->¬some n=ov)/\(h n=none->¬n=nb/\¬some n=om/\¬some n=og/\¬some n=ov):=by
 obtain⟨k1,k2,k3,k4⟩:=H.kinds n
 obtain⟨sz,cs,hB,o1,o2,o4⟩:=H.odd S om og ov
 rw[hB]at k1
 refine⟨λe=>⟨λq=>?_,λq=>?_,λq=>?_⟩,λe=>⟨λq=>?_,λq=>?_⟩,λe q=>?_,λe=>⟨λq=>?_,λq=>?_,λq=>?_,λq=>?_⟩⟩
 ·have:=(k1 e).symm.trans (k2 q);simp at this;exact o4 this.1
 ·have:=(k1 e).symm.trans (k3 q);simp at this;exact o2 this.1
 ·have:=(k1 e).symm.trans (k4 q);simp at this;exact o1 this.1
 ·have:=(k2 e).symm.trans (k3 q);simp at this
 ·have:=(k2 e).symm.trans (k4 q);simp at this
 ·have:=(k3 e).symm.trans (k4 q);simp at this
 ·have:=(k1 q);rw[e]at this;cases this
 ·have:=(k2 q);rw[e]at this;cases this
 ·have:=(k3 q);rw[e]at this;cases this
 ·have:=(k4 q);rw[e]at this;cases this
theorem zY.put {h0 h F:Heap} {nb:Nat} {bx:eE->Option Nat->Option Nat->Option Nat->cF} {S:eE} {om og ov:Option Nat} (H:zY bx h0 nb S om og ov h) (x:cO) (v:Int) {b b2:Nat} (hb:h b=none) (mE:h b2=none) (hne:¬b2=b)
  (f1:F nb=some (bx (S.put x v) (some b) og (some b2))) (f2:F b=some (.row 4 (rowsOf cO.c (S.code++[x])))) (f3:F b2=some (.row 1 (rowsOf (λn=>[I n]) (S.iG++[v]))))
  (f4:∀ n,¬n=nb->¬n=b->¬n=b2->¬some n=om->¬some n=ov->F n=h n):∃ g:Heap,g.le F/\eC bx h0 nb (S.put x v) g:=by
 have a1:=(H.apart nb).1 rfl
 have a2:=(H.apart b).2.2.2 hb
 have a3:=(H.apart b2).2.2.2 mE
 have g1:∀ n,some n=om∨some n=ov->h0 n=none:=λn hn=>H.fresh n (by rcases hn with hn|hn;exact .inr (.inl hn);exact .inr (.inr (.inr hn)))
 have g2:h0 b=none:=(H.upto b a2.1 a2.2.1 a2.2.2.1 a2.2.2.2).symm.trans hb
 have g3:h0 b2=none:=(H.upto b2 a3.1 a3.2.1 a3.2.2.1 a3.2.2.2).symm.trans mE
 have get:∀ n,¬some n=om->¬some n=ov->(λn=>if some n=om∨some n=ov then none else F n) n=F n:=λn h1 h2=>if_neg (by rintro(q|q);exact h1 q;exact h2 q)
 refine⟨λn=>if some n=om∨some n=ov then none else F n,λn=>?_,some b,og,some b2,⟨?_,H.odd,⟨by simp[rowsOf,eE.put],?_⟩,?_,⟨by simp[rowsOf,eE.put],?_⟩,λn hn=>?_,λn h1 h2 h3 h4=>?_⟩⟩
 ·by_cases e:some n=om∨some n=ov
  ·exact .inl (if_pos e)
  ·exact .inr (if_neg e)
 ·exact(get nb a1.1 a1.2.2).trans f1
 ·exact(get b a2.2.1 a2.2.2.2).trans f2
 ·have hg:=H.gds
  cases og with
  |none=>exact hg
  |some k =>
   have ak:=(H.apart k)
   have hk:=hg.2
   refine⟨hg.1,(get k (λq=>ak.2.1 q |>.1 rfl) (λq=>ak.2.2.1 rfl q)).trans ?_⟩
   rw[f4 k (λq=>(ak.1 q).2.1 rfl) (λq=>by rw[q,hb]at hk;cases hk) (λq=>by rw[q,mE]at hk;cases hk) (λq=>ak.2.1 q |>.1 rfl) (λq=>ak.2.2.1 rfl q)]
   exact hk
 ·exact(get b2 a3.2.1 a3.2.2.2).trans f3
 ·rcases hn with rfl|hn|hn|hn
  ·exact H.fresh _ (.inl rfl)
  ·obtain rfl:=dY hn;exact g2
  ·exact H.fresh n (.inr (.inr (.inl hn)))
  ·obtain rfl:=dY hn;exact g3
 ·have h2':¬n=b:=λq=>h2 xE
  have h4':¬n=b2:=λq=>h4 xE
  by_cases e:some n=om∨some n=ov
  ·exact(if_pos e).trans (g1 n e).symm
  ·have e1:¬some n=om:=λq=>e (.inl q)
   have e2:¬some n=ov:=λq=>e (.inr q)
   exact((get n e1 e2).trans (f4 n h1 h2' h4' e1 e2)).trans (H.upto n h1 e1 h3 e2)
@[go_sem] def bQ3:List Nat:=[4,15,22]
@[go_sem] def bQ4:Marks:=λid=>match id with|1=>([6,9,13,16,20,23],(.op 0 (.op 1 (.op 2 (.op 3 (.op 4 (.op 5 (.op 7 (.op 8 (.op 10 (.op 11 (.op 12 (.op 14 (.op 15 (.op 6 (.op 13 (.op 9 (.op 16 (.op 17 (.op 18 (.op 19 (.op 20 (.op 21 (.op 22 (.op 23 .nil)))))))))))))))))))))))),[(13,9)])|_=>([],.nil,[])
theorem aSI {h0 h:Heap} {nb:Nat} {p:aK} {inp:Int} {S:eE} {st:Nat} {c:Int} (H:kQ h0 nb p inp S st c h) (x:cO) (v:Int) (hl:S.code.length=S.iG.length) (hcap:S.iG.length<=1048576) :
  gK Tryz.prog 241 [.op nb 8 0 0,.agg x.c,I v] h λr h'=>r=I S.iG.length/\kQ h0 nb p inp (S.put x v) st c h':=by
 obtain⟨om,og,ov,H⟩:=H
 have hb:=H.box
 have hc:=H.code
 have hv:=H.iG
 unfold dZ at hb
 rw[cO.aM]
 cases om with
 |none =>
  have hc0:S.code=[]:=jT.1 hc
  cases ov with
  |some v =>
   have hv0:S.iG=[]:=aPW (by rw[←hl,hc0];rfl)
   exact absurd (by rw[hv0];rfl) hv.1
  |none =>
   have hv0:S.iG=[]:=jT.1 hv
   refine lW 35 bAE bQ3 bQ4 Tryz.func241 ?_
   simp -dsimp -implicitDefEqProofs only[go_sem,↓reduceIte,Tryz.f241,hb,bJ]
   refine⟨by decide,by decide,by decide,by decide,by decide,λm hm=>?_⟩
   obtain⟨mM,fC,e8,kK⟩:=cE (show ¬m=nb from λe=>by rw[e,hb]at hm;cases hm)
   refine⟨by rw[aD _ _ _ _ kK,hb];rfl,by decide,λw ⟨hwm,hw⟩=>?_⟩
   obtain⟨aMH,oV,oW,aYI⟩:=cE (show ¬w=nb from λe=>by rw[e,hb]at hw;cases hw)
   obtain⟨a2G,aAR,aAS,a8Y⟩:=cE (show ¬w=m from hwm)
   try simp -dsimp -implicitDefEqProofs only[go_sem,↓reduceIte,Tryz.f241,hb,fC,aAS,e8,oW,aAR,oV,aD]
   obtain⟨g,hg,hR⟩:=H.put x v hm hw a2G (F:=bT (bT (bT h m (.row 4 [x.c.map .v])) w (.row 1 [[.v (I v)]])) nb (dZ p inp (S.put x v) (some m) og (some w) st c)) (bG _ _ _)
    bO3 (by rw[aD _ _ _ _ aMH,bG,hv0];rfl) (λn h1 h2 h3 _ _=>by rw[aD _ _ _ _ h1,aD _ _ _ _ h3,aD _ _ _ _ h2])
   refine⟨_,g,eD ?_,by rw[hv0];rfl,hR⟩
   rw[aF]
   unfold dZ at hg
   simp only[eE.put,hc0,hv0,aY,cO.aM]at hg
   exact hg
 |some m =>
  cases ov with
  |none =>
   have hv0:S.iG=[]:=jT.1 hv
   have hc0:S.code=[]:=aPW (by rw[hl,hv0];rfl)
   exact absurd (by rw[hc0];rfl) hc.1
  |some w =>
   have hm:=hc.2
   have hw:=hv.2
   obtain⟨mM,fC,e8,kK⟩:=cE (show ¬m=nb from λe=>by rw[e,hb]at hm;cases hm)
   obtain⟨aMH,oV,oW,aYI⟩:=cE (show ¬w=nb from λe=>by rw[e,hb]at hw;cases hw)
   obtain⟨a2G,aAR,aAS,a8Y⟩:=cE (show ¬w=m from λe=>by rw[e,hm]at hw;cases hw)
   refine lW 35 bAE bQ3 bQ4 Tryz.func241 ?_
   simp -dsimp -implicitDefEqProofs only[go_sem,↓reduceIte,Tryz.f241,hb,aY,hm,hw,fC,aAS,e8,oW,aAR,oV,aD]
   refine⟨by decide,by decide,by decide,by decide,by decide,by rw[jO];exact fL _,by omega,by omega,λb oM=>?_⟩
   obtain⟨p9,kV,kU,pS⟩:=cE (show ¬b=nb from λe=>by rw[e,hb]at oM;cases oM)
   obtain⟨aN4,xQ,xR,aN5⟩:=cE (show ¬b=m from λe=>by rw[e,hm]at oM;cases oM)
   obtain⟨bOX,aSJ,aSK,b1E⟩:=cE (show ¬b=w from λe=>by rw[e,hw]at oM;cases oM)
   refine⟨by rw[aD _ _ _ _ pS,aD _ _ _ _ kK,hb];rfl,by decide,?_⟩
   try simp -dsimp -implicitDefEqProofs only[go_sem,↓reduceIte,Tryz.f241,hb,hw,fC,aAS,xR,e8,oW,kU,aAR,oV,aSK,xQ,kV,aSJ,aD]
   refine⟨by rw[jO];exact fL _,by omega,by omega,λb2 ⟨bUK,bUL,mE⟩=>?_⟩
   obtain⟨a82,aPC,aPD,bNC⟩:=cE (show ¬b2=nb from λe=>by rw[e,hb]at mE;cases mE)
   obtain⟨bUM,aYJ,aYK,bUN⟩:=cE (show ¬b2=m from bUL)
   obtain⟨bUO,aYL,aYM,bUP⟩:=cE (show ¬b2=w from λe=>by rw[e,hw]at mE;cases mE)
   obtain⟨a7G,aYN,aYO,bFL⟩:=cE (show ¬b2=b from bUK)
   simp -dsimp -implicitDefEqProofs only[go_sem,↓reduceIte,Tryz.f241,hb,hw,fC,aAS,xR,aYK,e8,oW,kU,aPD,aAR,oV,aSK,aYM,xQ,kV,aSJ,aYO,aYJ,aPC,aYL,aYN,aD]
   rw[gF aM9,gF aM9]
   obtain⟨g,hg,hR⟩:=H.put x v oM mE a7G (F:=bT (bT (bT (bT (bT h m .gone) b (.row 4 (rowsOf cO.c S.code++[x.c.map .v]))) w .gone) b2 (.row 1 (rowsOf (λn=>[I n]) S.iG++[[.v (I v)]]))) nb (dZ p inp (S.put x v) (some b) og (some b2) st c)) (bG _ _ _)
    bOW bPC
    (λn h1 h2 h3 h4 h5=>by rw[aD _ _ _ _ h1,aD _ _ _ _ h3,aD _ _ _ _ (λq=>h5 xE),aD _ _ _ _ h2,aD _ _ _ _ (λq=>h4 xE)])
   refine λ_=>⟨_,g,eD ?_,?_,hR⟩
   ·rw[aF]
    unfold dZ at hg
    simp only[eE.put,aY,cO.aM,rL,yV]at hg
    exact hg
   ·rw[IntWalk.i64_in _ aA]
    congr 1
    omega
theorem zY.set {h0 h:Heap} {nb:Nat} {p:aK} {inp:Int} {S:eE} {st:Nat} {c:Int} {om og ov:Option Nat} (H:bQ2 h0 nb p inp S st c om og ov h) (st':Nat) (c':Int):bQ2 h0 nb p inp S st' c' om og ov (bT h nb (dZ p inp S om og ov st' c')):=by
 have a1:=(H.apart nb).1 rfl
 have hr:∀ (o:Option Nat) (sz:Nat) (rows:List (List Cell)),¬some nb=o->aSG h sz rows o->aSG (bT h nb (dZ p inp S om og ov st' c')) sz rows o:=λo sz rows hn ho=>by
  cases o with
  |none=>exact ho
  |some m=>exact⟨ho.1,(aD _ _ _ _ λq=>hn xE).trans ho.2⟩
 exact⟨bG _ _ _,aSH _ _ _ _,hr _ _ _ a1.1 H.code,hr _ _ _ a1.2.1 H.gds,hr _ _ _ a1.2.2 H.iG,H.fresh,λn h1 h2 h3 h4=>(aD _ _ _ _ h1).trans (H.upto n h1 h2 h3 h4)⟩
theorem eC.over {h0 h:Heap} {nb:Nat} {bx:eE->Option Nat->Option Nat->Option Nat->cF} {S:eE} (H:eC bx h0 nb S h) {m:Nat} {o:cF} (hm:h m=none):eC bx (bT h0 m o) nb S (bT h m o):=by
 obtain⟨om,og,ov,H⟩:=H
 have a:=(H.apart m).2.2.2 hm
 have hr:∀ (q:Option Nat) (sz:Nat) (rows:List (List Cell)),¬some m=q->aSG h sz rows q->aSG (bT h m o) sz rows q:=λq sz rows hn ho=>by
  cases q with
  |none=>exact ho
  |some k=>exact⟨ho.1,(aD _ _ _ _ λe=>hn fD).trans ho.2⟩
 refine⟨om,og,ov,(aD _ _ _ _ λe=>a.1 e.symm).trans H.box,H.odd,hr _ _ _ a.2.1 H.code,hr _ _ _ a.2.2.1 H.gds,hr _ _ _ a.2.2.2 H.iG,λn hn=>?_,λn h1 h2 h3 h4=>?_⟩
 ·have hnm:¬n=m:=λe=>by
   subst e
   rcases hn with hn|hn|hn|hn
   ·exact a.1 hn
   ·exact a.2.1 hn
   ·exact a.2.2.1 hn
   ·exact a.2.2.2 hn
  exact(aD _ _ _ _ hnm).trans (H.fresh n hn)
 ·by_cases e:n=m
  ·rw[e,bG,bG]
  ·rw[aD _ _ _ _ e,aD _ _ _ _ e];exact H.upto n h1 h2 h3 h4
theorem eC.base {h0 h:Heap} {nb:Nat} {bx:eE->Option Nat->Option Nat->Option Nat->cF} {S:eE} {m:Nat} {o:cF} (H:eC bx (bT h0 m o) nb S h) (hm:h0 m=none):∃ g,h=bT g m o/\g m=none/\eC bx h0 nb S g:=by
 obtain⟨om,og,ov,H⟩:=H
 have hne:∀ n,(n=nb∨some n=om∨some n=og∨some n=ov)->¬n=m:=λn hn e=>by
  have:=H.fresh n hn
  rw[e,bG]at this;cases this
 have hmo:h m=some o:=(H.upto m (λe=>hne m (.inl e) rfl) (λe=>hne m (.inr (.inl e)) rfl) (λe=>hne m (.inr (.inr (.inl e))) rfl) (λe=>hne m (.inr (.inr (.inr e))) rfl)).trans (bG _ _ _)
 have get:∀ n,¬n=m->(λn=>if n=m then none else h n) n=h n:=λn hn=>if_neg hn
 have hr:∀ (q:Option Nat) (sz:Nat) (rows:List (List Cell)),(∀ n,some n=q->¬n=m)->aSG h sz rows q->aSG (λn=>if n=m then none else h n) sz rows q:=λq sz rows hn ho=>by
  cases q with
  |none=>exact ho
  |some k=>exact⟨ho.1,(get k (hn k rfl)).trans ho.2⟩
 refine⟨λn=>if n=m then none else h n,?_,if_pos rfl,om,og,ov,(get nb (hne nb (.inl rfl))).trans H.box,H.odd,hr _ _ _ (λn e=>hne n (.inr (.inl e))) H.code,hr _ _ _ (λn e=>hne n (.inr (.inr (.inl e)))) H.gds,hr _ _ _ (λn e=>hne n (.inr (.inr (.inr e)))) H.iG,λn hn=>?_,λn h1 h2 h3 h4=>?_⟩
 ·funext n
  by_cases e:n=m
  ·rw[e,bG,hmo]
  ·rw[aD _ _ _ _ e];exact(get n e).symm
 ·have:=H.fresh n hn
  rwa [aD _ _ _ _ (hne n hn)]at this
 ·by_cases e:n=m
  ·subst e;exact(if_pos rfl).trans hm.symm
  ·have:=H.upto n h1 h2 h3 h4
   rw[aD _ _ _ _ e]at this
   exact(get n e).trans this
theorem eC.none {h0 h:Heap} {nb:Nat} {bx:eE->Option Nat->Option Nat->Option Nat->cF} {S:eE} (H:eC bx h0 nb S h) {m:Nat} (hm:h m=none):h0 m=none:=by
 obtain⟨om,og,ov,H⟩:=H
 have a:=(H.apart m).2.2.2 hm
 exact(H.upto m a.1 a.2.1 a.2.2.1 a.2.2.2).symm.trans hm
theorem zY.guard {h0 h F:Heap} {nb:Nat} {bx:eE->Option Nat->Option Nat->Option Nat->cF} {S:eE} {om og ov:Option Nat} (H:zY bx h0 nb S om og ov h) (x:fK) {b:Nat} (hb:h b=none)
  (f1:F nb=some (bx (S.guard x) om (some b) ov)) (f2:F b=some (.row 2 (rowsOf fK.c (S.guards++[x]))))
  (f4:∀ n,¬n=nb->¬n=b->¬some n=og->F n=h n):∃ g:Heap,g.le F/\zY bx h0 nb (S.guard x) om (some b) ov g:=by
 have a1:=(H.apart nb).1 rfl
 have a2:=(H.apart b).2.2.2 hb
 have g2:h0 b=none:=(H.upto b a2.1 a2.2.1 a2.2.2.1 a2.2.2.2).symm.trans hb
 have get:∀ n,¬some n=og->(λn=>if some n=og then none else F n) n=F n:=λn h1=>if_neg h1
 have hr:∀ (q:Option Nat) (sz:Nat) (rows:List (List Cell)),(∀ n,some n=q->¬n=nb/\¬n=b/\¬some n=og)->aSG h sz rows q->aSG (λn=>if some n=og then none else F n) sz rows q:=λq sz rows hn ho=>by
  cases q with
  |none=>exact ho
  |some k =>
   obtain⟨e1,e2,e3⟩:=hn k rfl
   exact⟨ho.1,((get k e3).trans (f4 k e1 e2 e3)).trans ho.2⟩
 refine⟨λn=>if some n=og then none else F n,λn=>?_,⟨?_,H.odd,hr _ _ _ (λn e=>⟨λq=>((H.apart n).1 q).1 e,λq=>a2.2.1 (by rw[←q];exact e),((H.apart n).2.1 e).1⟩) H.code,⟨by simp[rowsOf,eE.guard],?_⟩,hr _ _ _ (λn e=>⟨λq=>((H.apart n).1 q).2.2 e,λq=>a2.2.2.2 (by rw[←q];exact e),λq=>(H.apart n).2.2.1 q e⟩) H.iG,λn hn=>?_,λn h1 h2 h3 h4=>?_⟩⟩
 ·by_cases e:some n=og
  ·exact .inl (if_pos e)
  ·exact .inr (if_neg e)
 ·exact(get nb a1.2.1).trans f1
 ·exact(get b a2.2.2.1).trans f2
 ·rcases hn with rfl|hn|hn|hn
  ·exact H.fresh _ (.inl rfl)
  ·exact H.fresh n (.inr (.inl hn))
  ·obtain rfl:=dY hn;exact g2
  ·exact H.fresh n (.inr (.inr (.inr hn)))
 ·have h3':¬n=b:=λq=>h3 xE
  by_cases e:some n=og
  ·exact(if_pos e).trans (H.fresh n (.inr (.inr (.inl e)))).symm
  ·exact((get n e).trans (f4 n h1 h3' e)).trans (H.upto n h1 h2 e h4)
theorem aFX (a b:Int) (ha:nJ a) (hb:nJ b):dQ Tryz.prog 294 [I a,I b] (I (a*b%1000003)):=by
 have h1:=num_mul ha hb
 unfold nJ at ha hb
 refine dI 11 zG cG b9 Tryz.func294 λh=>?_
 simp -dsimp -implicitDefEqProofs only[go_sem,↓reduceIte,Tryz.f294]
 first|refine aH.mk (j5 a) ?_|refine aE.mk (j5 a) ?_|refine aH.b7 (j5 a) ?_|refine aE.mk (bX.eA (j5 a)) ?_
 simp -dsimp -implicitDefEqProofs only[go_sem,↓reduceIte,Tryz.f294]
 first|refine aH.mk (j5 b) ?_|refine aE.mk (j5 b) ?_|refine aH.b7 (j5 b) ?_|refine aE.mk (bX.eA (j5 b)) ?_
 simp -dsimp -implicitDefEqProofs only[go_sem,↓reduceIte,Tryz.f294]
 rw[a8N ha.1 aA,a8N hb.1 aA,bMW h1.1 aA]
@[go_sem] def bND:List Nat:=[0,1,2,3,6,7,9,10,15,20,25,30]
theorem bIH (x:cO) (a b:Int) (ha:nJ a) (hb:nJ b) (hk:x.vN=3∨x.vN=4∨x.vN=5∨x.vN=6∨x.vN=7):dQ Tryz.prog 287 [.agg x.c,I a,I b] (.iF [I ((opV x.vN a b).getD 0),.bool (opV x.vN a b).isSome]):=by
 rw[cO.aM]
 have hni:nJ (vP b):=num_inv b
 refine dI 35 bND bGU b9 Tryz.func287 λh=>?_
 simp -dsimp -implicitDefEqProofs only[go_sem,↓reduceIte,Tryz.f287]
 refine⟨λq=>?_,λq=>⟨λq4=>?_,λq4=>⟨λq5=>?_,λq5=>⟨λq7=>?_,λq7=>⟨λqb=>?_,λqb=>?_⟩⟩⟩⟩⟩
 ·first|refine aH.mk (a2C a b) ?_|refine aE.mk (a2C a b) ?_|refine aH.b7 (a2C a b) ?_|refine aE.mk (bX.eA (a2C a b)) ?_
  simp -dsimp -implicitDefEqProofs only[go_sem,↓reduceIte,Tryz.f287]
  unfold opV;rw[if_pos q];rfl
 ·first|refine aH.mk (minus a b) ?_|refine aE.mk (minus a b) ?_|refine aH.b7 (minus a b) ?_|refine aE.mk (bX.eA (minus a b)) ?_
  simp -dsimp -implicitDefEqProofs only[go_sem,↓reduceIte,Tryz.f287]
  unfold opV;rw[if_neg q,if_pos q4];rfl
 ·first|refine aH.mk (aFX a b ha hb) ?_|refine aE.mk (aFX a b ha hb) ?_|refine aH.b7 (aFX a b ha hb) ?_|refine aE.mk (bX.eA (aFX a b ha hb)) ?_
  simp -dsimp -implicitDefEqProofs only[go_sem,↓reduceIte,Tryz.f287]
  unfold opV;rw[if_neg q,if_neg q4,if_pos q5];rfl
 ·first|refine aH.mk (minus 0 a) ?_|refine aE.mk (minus 0 a) ?_|refine aH.b7 (minus 0 a) ?_|refine aE.mk (bX.eA (minus 0 a)) ?_
  simp -dsimp -implicitDefEqProofs only[go_sem,↓reduceIte,Tryz.f287]
  unfold opV;rw[if_neg q,if_neg q4,if_neg q5,if_pos q7];rfl
 ·unfold opV;rw[if_neg q,if_neg q4,if_neg q5,if_neg q7,if_pos qb];rfl
 ·first|refine aH.mk (aO7 b) ?_|refine aE.mk (aO7 b) ?_|refine aH.b7 (aO7 b) ?_|refine aE.mk (bX.eA (aO7 b)) ?_
  simp -dsimp -implicitDefEqProofs only[go_sem,↓reduceIte,Tryz.f287]
  first|refine aH.mk (aFX a (vP b) ha hni) ?_|refine aE.mk (aFX a (vP b) ha hni) ?_|refine aH.b7 (aFX a (vP b) ha hni) ?_|refine aE.mk (bX.eA (aFX a (vP b) ha hni)) ?_
  simp -dsimp -implicitDefEqProofs only[go_sem,↓reduceIte,Tryz.f287]
  unfold opV;rw[if_neg q,if_neg q4,if_neg q5,if_neg q7,if_neg qb];rfl
theorem Good.val {inp:Int} {S:eE} {t:Nat} (h:Good inp S t) (k:Int):nJ (S.val k):=h.bM8.get _
theorem zY.row {h0 h:Heap} {nb:Nat} {bx:eE->Option Nat->Option Nat->Option Nat->cF} {S:eE} {om og ov:Option Nat} (H:zY bx h0 nb S om og ov h) {k:Int} (hk:qQ S k):∃ w,ov=some w/\h w=some (.row 1 (rowsOf (λn=>[I n]) S.iG))/\¬w=nb:=by
 have hv:=H.iG
 cases ov with
 |none=>have:=jT.1 hv;have h2:=hk.1;have h3:=hk.2;rw[this]at h3;simp at h3;omega
 |some w=>exact⟨w,rfl,hv.2,λe=>((H.apart w).1 e).2.2 rfl⟩
theorem kO {S:eE} {k:Int} (hk:qQ S k):(rowsOf (λn=>[I n]) S.iG)[k.toNat]?=some [.v (I (S.val k))]:=by
 have h1:=hk.1
 have h2:=hk.2
 rw[rowsOf,rM,rM,b6 aA,eE.val,jC,b6 aA];rfl
@[go_sem] def bNE:List Nat:=[0,1,2,6,7,8,9,16,43]
@[go_sem] def b1F:Marks:=λid=>match id with|4=>([0,4,6,8,12,14,16],(.op 1 (.op 2 (.op 3 (.op 5 (.op 9 (.op 10 (.op 11 (.op 13 (.op 0 (.op 4 (.op 6 (.op 7 (.op 8 (.op 12 (.op 14 (.op 15 (.op 16 (.op 17 (.op 18 (.op 19 (.op 20 (.op 21 (.op 22 .nil))))))))))))))))))))))),[])|_=>([],.nil,[])
theorem vH {h0 h:Heap} {nb:Nat} {p:aK} {inp:Int} {S:eE} {st:Nat} (H:kQ h0 nb p inp S st 0 h) (hg:Good inp S st) (hst:st<=3000) (k:Int) (vs:List Int) (hk:k=3∨k=4∨k=5∨k=6∨k=7) (h1:1<=vs.length) (h2:¬k=7->2<=vs.length) (hv:∀ x∈vs,qQ S x) (hl:vs.length<=1048576) :
  gK Tryz.prog 272 [.op nb 8 0 0,I k,ints vs] h λr h'=>∃ j S' c',r=I j/\kQ h0 nb p inp S' st c' h'/\nS (opR k vs S st) (j,S') st c':=by
 obtain⟨om,og,ov,H⟩:=H
 have at_:∀ i,i<vs.length->qQ S (vs.getD i 0):=λi hi=>by
  rw[jC,b6 hi]
  exact hv _ (dG _)
 have i0:=at_ 0 aA
 have iB:qQ S (opB k vs):=by
  unfold opB
  split
  ·have a:=i0.1;have b:=i0.2;exact⟨Int.le_refl _,by omega⟩
  ·exact at_ 1 (h2 gB)
 obtain⟨w,rfl,hw,dw⟩:=H.row i0
 have hb:=H.box
 unfold dZ at hb
 rw[aY]at hb
 have g0:vs[Int.toNat 0]?=some (vs.getD 0 0):=fU aA
 have r0:=kO i0
 have rB:=kO iB
 obtain⟨aMH,oV,oW,aYI⟩:=cE (show ¬w=nb from dw)
 have hva:=hg.val (vs.getD 0 0)
 have hvb:=hg.val (opB k vs)
 have hop:=bIH ⟨k,vs.getD 0 0,opB k vs,0⟩ _ _ hva hvb hk
 simp only[cO.aM]at hop
 have b0:=iB.1
 have b1:=i0.1
 have lw:=jO (λn=>[I n]) S.iG
 have i0b:=i0.2
 have iBb:=iB.2
 refine lW 51 bNE cG b1F Tryz.func272 ?_
 simp -dsimp -implicitDefEqProofs only[go_sem,↓reduceIte,Tryz.f272,hb,g0]
 refine⟨by omega,λn hn=>⟨λh7=>⟨by have:=h2 h7;omega,?_⟩,λh7=>?_⟩⟩
 ·obtain⟨a7H,aA4,aA5,a7I⟩:=cE (show ¬n=nb from λe=>by rw[e,hb]at hn;cases hn)
  obtain⟨b1G,a2H,a2I,b1H⟩:=cE (show ¬n=w from λe=>by rw[e,hw]at hn;cases hn)
  have eB:opB k vs=vs.getD 1 0:=if_neg h7
  have g1:vs[Int.toNat 1]?=some (vs.getD 1 0):=fU (h2 h7)
  rw[eB]at rB hop b0 iBb
  simp -dsimp -implicitDefEqProofs only[go_sem,↓reduceIte,Tryz.f272,g1,hb,hw,r0,rB,aA4,a2H,aA5,oW,a2I,oV,aD]
  refine⟨b1,i0b,b0,iBb,?_⟩
  cases hv:opV k (S.val (vs.getD 0 0)) (S.val ((vs.getD 1 0)))with
  |none =>
   rw[hv]at hop
   first|refine aH.mk (hop) ?_|refine aE.mk (hop) ?_|refine aH.b7 (hop) ?_|refine aE.mk (bX.eA (hop)) ?_
   simp -dsimp -implicitDefEqProofs only[go_sem,↓reduceIte,Tryz.f272]
   refine⟨λ_=>?_,λq=>absurd q aS⟩
   simp -dsimp -implicitDefEqProofs only[go_sem,↓reduceIte,Tryz.f272,hb,aA4,a2H,aA5,oW,a2I,oV,aD]
   refine⟨_,_,eD (?_:(bT h nb (dZ p inp S om og (some w) st 6)).le _),0,S,6,rfl,⟨_,_,_,H.set st 6⟩,by unfold opR;rw[eB,hv];exact rT _ _ dH⟩
   unfold dZ
   rw[aY]
   exact(jM (by repeat'(first|exact gN _ _|refine jN bO4 ?_|refine fS oZ ?_)))
  |some v =>
   rw[hv]at hop
   first|refine aH.mk (hop) ?_|refine aE.mk (hop) ?_|refine aH.b7 (hop) ?_|refine aE.mk (bX.eA (hop)) ?_
   simp -dsimp -implicitDefEqProofs only[go_sem,↓reduceIte,Tryz.f272]
   refine⟨λq=>absurd q aS,λ_=>?_⟩
   simp only[aF]
   refine aH.kF (aSI (eC.over ⟨om,og,some w,H⟩ hn) ⟨k,vs.getD 0 0,(vs.getD 1 0),0⟩ v hg.len (by have:=hg.cap;omega)) ?_
   rintro r h' ⟨rfl,hR⟩
   obtain⟨g,rfl,hgn,hR⟩:=hR.base (eC.none ⟨om,og,some w,H⟩ hn)
   simp -dsimp -implicitDefEqProofs only[go_sem,↓reduceIte,Tryz.f272]
   exact⟨_,g,eD (Heap.aW hgn (Heap.le_refl _)),_,_,0,rfl,hR,by unfold opR;rw[eB,hv];exact yF _ _⟩
 ·obtain⟨a7H,aA4,aA5,a7I⟩:=cE (show ¬n=nb from λe=>by rw[e,hb]at hn;cases hn)
  obtain⟨b1G,a2H,a2I,b1H⟩:=cE (show ¬n=w from λe=>by rw[e,hw]at hn;cases hn)
  have eB:opB k vs=0:=if_pos h7
  rw[eB]at rB hop b0 iBb
  simp -dsimp -implicitDefEqProofs only[go_sem,↓reduceIte,Tryz.f272,hb,hw,r0,rB,aA4,a2H,aA5,oW,a2I,oV,aD]
  refine⟨b1,i0b,iBb,?_⟩
  cases hv:opV k (S.val (vs.getD 0 0)) (S.val (0))with
  |none =>
   rw[hv]at hop
   first|refine aH.mk (hop) ?_|refine aE.mk (hop) ?_|refine aH.b7 (hop) ?_|refine aE.mk (bX.eA (hop)) ?_
   simp -dsimp -implicitDefEqProofs only[go_sem,↓reduceIte,Tryz.f272]
   refine⟨λ_=>?_,λq=>absurd q aS⟩
   simp -dsimp -implicitDefEqProofs only[go_sem,↓reduceIte,Tryz.f272,hb,aA4,a2H,aA5,oW,a2I,oV,aD]
   refine⟨_,_,eD (?_:(bT h nb (dZ p inp S om og (some w) st 6)).le _),0,S,6,rfl,⟨_,_,_,H.set st 6⟩,by unfold opR;rw[eB,hv];exact rT _ _ dH⟩
   unfold dZ
   rw[aY]
   exact(jM (by repeat'(first|exact gN _ _|refine jN bO4 ?_|refine fS oZ ?_)))
  |some v =>
   rw[hv]at hop
   first|refine aH.mk (hop) ?_|refine aE.mk (hop) ?_|refine aH.b7 (hop) ?_|refine aE.mk (bX.eA (hop)) ?_
   simp -dsimp -implicitDefEqProofs only[go_sem,↓reduceIte,Tryz.f272]
   refine⟨λq=>absurd q aS,λ_=>?_⟩
   simp only[aF]
   refine aH.kF (aSI (eC.over ⟨om,og,some w,H⟩ hn) ⟨k,vs.getD 0 0,0,0⟩ v hg.len (by have:=hg.cap;omega)) ?_
   rintro r h' ⟨rfl,hR⟩
   obtain⟨g,rfl,hgn,hR⟩:=hR.base (eC.none ⟨om,og,some w,H⟩ hn)
   simp -dsimp -implicitDefEqProofs only[go_sem,↓reduceIte,Tryz.f272]
   exact⟨_,g,eD (Heap.aW hgn (Heap.le_refl _)),_,_,0,rfl,hR,by unfold opR;rw[eB,hv];exact yF _ _⟩
theorem nS.ok {α:Type} {c:Int} {X:Out α} {v:α} {t:Nat} {c':Int} (h:nS (wH c X) v t c') (hc:c'=0):c=0/\X=.ok (v,t):=by
 have h0:=h.b04 hc
 subst h0
 rw[gD]at h
 cases X with
 |ok q=>obtain⟨w,u⟩:=q;obtain⟨_,rfl,rfl⟩:=h;exact⟨rfl,rfl⟩
 |error d=>exact absurd (h.1.symm.trans hc) h.2
def aMI (h0:Heap) (nb:Nat) (p:aK) (inp:Int) (st:Nat) (c:Int) (X:Out (Int×eE)):aC->Heap->Prop:=λr h'=>∃ k S' t c',r=I k/\kQ h0 nb p inp S' t c' h'/\st<=t/\t<=3000/\nS (wH c X) (k,S') t c'
def bQ5 (h0:Heap) (nb:Nat) (p:aK) (inp:Int) (st:Nat) (c:Int) (n:Nat) (X:Out (List Int×eE)):aC->Heap->Prop:=λr h'=>∃ l S' t c',r=ints l/\kQ h0 nb p inp S' t c' h'/\l.length=n/\st<=t/\t<=3000/\nS (wH c X) (l,S') t c'
@[go_sem] def rE:List Nat:=[0,1,2,4,6,7,8,9,10,15,20,32,33,42,49,62,85,100,128,130,131,150,162]
@[go_sem] def aB6:List Nat:=[4,80,116]
@[go_sem] def aB7:Marks:=λid=>match id with|22=>([6,13,15,16],(.op 0 (.op 1 (.op 2 (.op 3 (.op 4 (.op 5 (.op 7 (.op 8 (.op 9 (.op 10 (.op 11 (.op 12 (.op 6 (.op 13 (.op 14 (.op 15 (.op 16 (.op 17 .nil)))))))))))))))))),[])|28=>([5,16],(.op 0 (.op 1 (.op 2 (.op 3 (.op 4 (.op 6 (.op 7 (.op 11 (.op 12 (.op 15 (.op 5 (.op 8 (.op 9 (.op 10 (.op 13 (.op 14 (.op 16 (.op 17 .nil)))))))))))))))))),[])|33=>([5,12],(.op 0 (.op 1 (.op 2 (.op 3 (.op 4 (.op 6 (.op 7 (.op 11 (.op 5 (.op 8 (.op 9 (.op 10 (.op 12 (.op 13 .nil)))))))))))))),[])|_=>([],.nil,[])
def aB8 (p:aK) (inp:Int) (n:Nat):Prop:=∀ (h0 h:Heap) (nb st:Nat) (c:Int) (e:aB) (env:List Int) (S:eE) (funcs:Int),kQ h0 nb p inp S st c h->st<=3000->3001<=n+st->e.ok p funcs env.length->0<=funcs->funcs<=p.aJ.length->(c=0->Good inp S st/\∀ x∈env,qQ S x)->env.length<=412+st ->
 gK Tryz.prog 260 [.op nb 8 0 0,.agg e.c,ints env] h (aMI h0 nb p inp st c (fM p n st e env S))
theorem jF {p:aK} (hp:p.ok) {inp:Int} {n st:Nat} {S:eE} {l:List aB} {env:List Int} {funcs:Int} (hg:Good inp S st) (hst:st<=3000) (henv:∀ x∈env,qQ S x) (hok:∀ e∈l,e.ok p funcs env.length) (hf:funcs<=p.aJ.length):okQ (aKU inp S st l.length) (oG (λt e S=>fM p n t e env S) l st S) :=
 sA l st S hg hst λx hx u S' a b c=>sB hp n u x env S' funcs (hok x hx) hf a c.2.2.2 λy hy=>(henv y hy).ext b
@[go_sem] def bBM:List Nat:=[0,1,2,6,7,9,11,12,13,14]
@[go_sem] def bQ6:List Nat:=[10,22]
theorem yH {p:aK} (hp:p.ok) {inp:Int} {n:Nat} (hv:aB8 p inp n) (h0 h:Heap) (nb st:Nat) (c:Int) (l:List aB) (env:List Int) (S:eE) (funcs:Int) (hb:kQ h0 nb p inp S st c h) (hst:st<=3000) (hn:3001<=n+st)
  (hl:l.length<=1048576) (hok:∀ e∈l,e.ok p funcs env.length) (gJ:0<=funcs) (hf:funcs<=p.aJ.length) (hgo:c=0->Good inp S st/\∀ x∈env,qQ S x) (hel:env.length<=412+st) :
  gK Tryz.prog 242 [.op nb 8 0 0,cI 5 aB.c l,ints env] h (bQ5 h0 nb p inp st c l.length (oG (λt e S=>fM p n t e env S) l st S)):=by
 refine lW 26 bBM bQ6 b9 Tryz.func242 ?_
 simp -dsimp -implicitDefEqProofs only[go_sem,↓reduceIte,Tryz.f242]
 refine⟨cM,λ_=>?_⟩
 refine cY bBM bQ6 b9 (λx:Nat×List Int×Nat×Int×eE×Heap×Option Nat=>[(0,.op nb 8 0 0),(2,ints env),(7,mX 1 x.2.1.length x.2.2.2.2.2.2),(11,cI 5 aB.c l),(12,I l.length),(13,I x.1)]) (λx=>c7 x.2.2.2.2.2.1 (.row 1 ((x.2.1.map λn=>[I n]).map (List.map .v))) x.2.2.2.2.2.2) (λx=>x.1<=l.length/\x.2.1.length=x.1/\st<=x.2.2.1/\x.2.2.1<=3000/\nS (wH c (oG (λt e S=>fM p n t e env S) (l.take x.1) st S)) (x.2.1,x.2.2.2.2.1) x.2.2.1 x.2.2.2.1/\kQ h0 nb p inp x.2.2.2.2.1 x.2.2.1 x.2.2.2.1 x.2.2.2.2.2.1/\k7 x.2.2.2.2.2.1 x.2.1 x.2.2.2.2.2.2) (λx=>l.length-x.1) (0,[],st,c,S,h,none) ⟨by simp[dT,dB,mX],by simp only[aN];exact Heap.le_refl _,iZ _,rfl,fL _,hst,kN _ _ _,hb,rfl⟩ ?_
 rintro⟨k,vs,t,c',S1,g,o⟩ ⟨hk,hvl,ht0,ht,ho,hR,hos⟩
 simp only at hk hvl ht0 ht ho hR hos ⊢
 rcases cP k l.length with hlt|hge
 ·have ek:l[k]?=some l[k]:=b6 hlt
  have hnext:∀ (j:Int) (S2:eE) (t2:Nat) (c2:Int),nS (wH c' (fM p n t l[k] env S1)) (j,S2) t2 c2->nS (wH c (oG (λt e S=>fM p n t e env S) (l.take (k+1)) st S)) (vs++[j],S2) t2 c2:=λj S2 t2 c2 h3=>by
   rw[kP hlt,aMG]
   exact ho.gY (h3.gY (kN _ _ _))
  have b1I:c'=0->Good inp S1 t/\∀ x∈env,qQ S1 x:=λhc=>by
   obtain⟨e1,e2⟩:=ho.ok hc
   obtain⟨a1,a2⟩:=hgo e1
   obtain⟨b1,b2,b3,b4⟩:=jF hp (l:=l.take k) a1 hst a2 (λx hx=>hok x (aWJ hx)) hf _ _ e2
   exact⟨b1,λx hx=>(a2 x hx).ext b2⟩
  cases o with
  |none =>
   rw[cZ]at hos
   subst hos
   simp -dsimp -implicitDefEqProofs only[go_sem,↓reduceIte,Tryz.f242,dD,aN,hlt,ek,aB.aM]
   intro m9 z9
   rw[aF]
   have hvk:=hv (bT h0 m9 (.row 5 [l[k].c.map .v])) (bT g m9 (.row 5 [l[k].c.map .v])) nb t c' l[k] env S1 funcs (hR.over z9) ht aA (hok _ (dG _)) gJ hf b1I aA
   rw[aB.aM]at hvk
   refine aH.kF hvk ?_
   rintro r h' ⟨j,S2,t2,c2,rfl,pF,h1,h2,h3⟩
   obtain⟨g2,rfl,hg2,pF⟩:=pF.base (hR.none z9)
   simp -dsimp -implicitDefEqProofs only[go_sem,↓reduceIte,Tryz.f242]
   refine⟨cM,cM,cM,λb ⟨hb9,mE⟩=>?_⟩
   refine⟨(k+1,[j],t2,c2,S2,g2,some b),⟨rfl,by rw[IntWalk.i64_in _ aA];rfl⟩,?_,⟨by omega,by simp only[al3]at hvl;subst hvl;rfl,aWE ht0 h1,h2,hnext j S2 t2 c2 h3,pF,mE⟩,by simp only;omega⟩
   simp only[aL]
   exact(jM (by repeat'(first|exact gN _ _|refine jN (by simp only[fN,↓reduceIte,eq_self,if_true,hb9,hg2,lU,tP]) ?_|refine fS oZ ?_)))
  |some m =>
   rw[b8]at hos
   simp -dsimp -implicitDefEqProofs only[go_sem,↓reduceIte,Tryz.f242,bZ,aL,hlt,ek,aB.aM]
   intro m9 ⟨h9m,z9⟩
   rw[aF]
   obtain⟨aYP,aEP,aEO,bII⟩:=cE (show ¬m9=m from h9m)
   have z9':(bT g m (.row 1 ((vs.map λn=>[I n]).map (List.map .v)))) m9=none:=by rw[aD _ _ _ _ aYP];exact z9
   have hRo:=hR.over (o:=.row 1 ((vs.map λn=>[I n]).map (List.map .v))) hos
   have hvk:=hv _ _ nb t c' l[k] env S1 funcs (hRo.over (o:=.row 5 [l[k].c.map .v]) z9') ht aA (hok _ (dG _)) gJ hf b1I aA
   rw[aB.aM]at hvk
   refine aH.kF hvk ?_
   rintro r h' ⟨j,S2,t2,c2,rfl,pF,h1,h2,h3⟩
   obtain⟨g1,rfl,oC,pF⟩:=pF.base (hRo.none z9')
   obtain⟨g2,rfl,hg2,pF⟩:=pF.base (hR.none hos)
   rw[aD _ _ _ _ aYP]at oC
   simp -dsimp -implicitDefEqProofs only[go_sem,↓reduceIte,Tryz.f242,aD,aEO,aEP]
   refine⟨cM,cM,cM,fL _,by omega,by omega,λb ⟨hb9,hbm,mE⟩=>?_⟩
   obtain⟨aN4,xQ,xR,aN5⟩:=cE (show ¬b=m from hbm)
   obtain⟨b6H,bUQ,bUR,b6I⟩:=cE (show ¬b=m9 from hb9)
   refine⟨(k+1,vs++[j],t2,c2,S2,g2,some b),⟨by rw[bZ,rL];rfl,by rw[IntWalk.i64_in _ aA];rfl⟩,?_,⟨by omega,by rw[rL,hvl];rfl,aWE ht0 h1,h2,hnext j S2 t2 c2 h3,pF,mE⟩,by simp only;omega⟩
   simp only[aL]
   rw[←iX]
   exact(jM (by repeat'(first|exact gN _ _|refine jN (by simp only[fN,↓reduceIte,eq_self,if_true,xQ,bUQ,xR,aEO,bUR,aEP]) ?_|refine fS oZ ?_)))
 ·have hk':k=l.length:=by omega
  subst hk'
  rw[eL]at ho
  cases o with
  |none =>
   rw[cZ]at hos
   subst hos
   simp -dsimp -implicitDefEqProofs only[go_sem,↓reduceIte,Tryz.f242,dD,aN,cN]
   exact⟨ints [],_,Shift.of (Sub.loose _ _ _) (Heap.le_refl _),[],S1,t,c',rfl,hR,hvl,ht0,ht,ho⟩
  |some m =>
   rw[b8]at hos
   simp -dsimp -implicitDefEqProofs only[go_sem,↓reduceIte,Tryz.f242,bZ,aL,cN]
   exact⟨ints vs,g,mB vs hos (Heap.le_refl _) rfl,vs,S1,t,c',rfl,hR,hvl,ht0,ht,ho⟩
theorem bIJ {p:aK} {inp:Int} {n:Nat} {h0 h:Heap} {nb st:Nat} {c:Int} {e:aB} {env:List Int} {S:eE} (hR:kQ h0 nb p inp S st c h) (hst:st<=3000) (hs:¬c=0∨st=3000) :
  gK Tryz.prog 260 [.op nb 8 0 0,.agg e.c,ints env] h (aMI h0 nb p inp st c (fM p (n+1) st e env S)):=by
 obtain⟨om,og,ov,H⟩:=hR
 have hb:=H.box
 unfold dZ at hb
 rw[aB.aM]
 refine lW 190 rE aB6 aB7 Tryz.func260 ?_
 simp -dsimp -implicitDefEqProofs only[go_sem,↓reduceIte,Tryz.f260,hb]
 refine⟨λhc=>?_,λhc=>?_⟩
 ·exact⟨_,_,cR _ _,0,S,st,c,rfl,⟨_,_,_,H⟩,fL _,hst,by rw[aAA _ hc];exact rT _ _ hc⟩
 ·subst hc
  have h3:st=3000:=by rcases hs with hs|hs;exact absurd rfl hs;exact hs
  subst h3
  try simp -dsimp -implicitDefEqProofs only[go_sem,↓reduceIte,Tryz.f260,hb]
  refine⟨λ_=>?_,λq=>absurd q aS⟩
  refine⟨_,_,cR _ _,0,S,3000,7,rfl,⟨_,_,_,H.set 3000 7⟩,fL _,hst,?_⟩
  rw[gD,fM,if_pos rfl]
  exact rT _ _ dH
theorem bBN (l:List Int) (hl:l.length<=1048576):dQ Tryz.prog 271 [ints l] (.sl 1 (l.map λn=>[I n]) true):=by
 refine dI 9 aL3 cG b9 Tryz.func271 λh=>?_
 simp -dsimp -implicitDefEqProofs only[go_sem,↓reduceIte,Tryz.f271]
 repeat'(with_reducible first|intro _|refine And.intro ?_ ?_)
 all_goals try omega
 rw[gF (by rw[k5];exact fL _)]
theorem b1K {p:aK} (hp:p.ok) {inp:Int} {n:Nat} (hv:aB8 p inp n) {h0 h:Heap} {nb st:Nat} {e:aB} {env:List Int} {S:eE} {funcs:Int} (hR:kQ h0 nb p inp S st 0 h) (hst:st<3000) (hn:3001<=n+1+st)
  (hok:e.ok p funcs env.length) (gJ:0<=funcs) (hf:funcs<=p.aJ.length) (hg:Good inp S st) (henv:∀ x∈env,qQ S x) (hel:env.length<=412+st) (hk:e.bH=1) :
  gK Tryz.prog 260 [.op nb 8 0 0,.agg e.c,ints env] h (aMI h0 nb p inp st 0 (fM p (n+1) st e env S)):=by
 obtain⟨om,og,ov,H⟩:=hR
 rw[aB.aM]
 have hb:=H.box
 unfold dZ at hb
 have e3:((st:Int)=3000)=False:=eq_false aA
 have ew:IntKind.i64.wrap ((st:Int)+1)=((st+1:Nat):Int):=by rw[IntWalk.i64_in _ aA];rfl
 have hnode:=(aB.fG _ _ _ _).1 hok
 have h3:¬st=3000:=by omega
 have hcap:=hg.cap
 have hgcap:=hg.tT
 have oC:=hg.later (mF st)
 have hR1:kQ h0 nb p inp S (st+1) 0 (bT h nb (dZ p inp S om og ov (st+1) 0)):=⟨_,_,_,H.set (st+1) 0⟩
 refine lW 190 rE aB6 aB7 Tryz.func260 ?_
 simp -dsimp -implicitDefEqProofs only[go_sem,↓reduceIte,Tryz.f260,hb,e3,ew,hk]
 refine aH.kF (aSI hR1 ⟨2,0,0,e.cC⟩ e.cC hg.len aA) ?_
 rintro r h' ⟨rfl,pF⟩
 simp -dsimp -implicitDefEqProofs only[go_sem,↓reduceIte,Tryz.f260]
 refine⟨_,_,cR _ _,_,_,st+1,0,rfl,pF,mF _,hst,?_⟩
 rw[gD,aYD h3 hk]
 exact yF _ _
theorem b1L {p:aK} (hp:p.ok) {inp:Int} {n:Nat} (hv:aB8 p inp n) {h0 h:Heap} {nb st:Nat} {e:aB} {env:List Int} {S:eE} {funcs:Int} (hR:kQ h0 nb p inp S st 0 h) (hst:st<3000) (hn:3001<=n+1+st)
  (hok:e.ok p funcs env.length) (gJ:0<=funcs) (hf:funcs<=p.aJ.length) (hg:Good inp S st) (henv:∀ x∈env,qQ S x) (hel:env.length<=412+st) (hk:e.bH=2) :
  gK Tryz.prog 260 [.op nb 8 0 0,.agg e.c,ints env] h (aMI h0 nb p inp st 0 (fM p (n+1) st e env S)):=by
 obtain⟨om,og,ov,H⟩:=hR
 rw[aB.aM]
 have hb:=H.box
 unfold dZ at hb
 have e3:((st:Int)=3000)=False:=eq_false aA
 have ew:IntKind.i64.wrap ((st:Int)+1)=((st+1:Nat):Int):=by rw[IntWalk.i64_in _ aA];rfl
 have hnode:=(aB.fG _ _ _ _).1 hok
 have h3:¬st=3000:=by omega
 have hcap:=hg.cap
 have hgcap:=hg.tT
 have oC:=hg.later (mF st)
 have hR1:kQ h0 nb p inp S (st+1) 0 (bT h nb (dZ p inp S om og ov (st+1) 0)):=⟨_,_,_,H.set (st+1) 0⟩
 have hnum:=((gW aA).1 hnode.1).2.2.2.2.1 hk
 have hlt:e.cC.toNat<env.length:=by omega
 refine lW 190 rE aB6 aB7 Tryz.func260 ?_
 simp -dsimp -implicitDefEqProofs only[go_sem,↓reduceIte,Tryz.f260,hb,e3,ew,hk,fU hlt]
 refine⟨hnum.1,by omega,_,_,cR _ _,_,S,st+1,0,rfl,hR1,mF _,hst,?_⟩
 rw[gD,aYE h3 hk]
 exact yF _ _
theorem b1M {p:aK} (hp:p.ok) {inp:Int} {n:Nat} (hv:aB8 p inp n) {h0 h:Heap} {nb st:Nat} {e:aB} {env:List Int} {S:eE} {funcs:Int} (hR:kQ h0 nb p inp S st 0 h) (hst:st<3000) (hn:3001<=n+1+st)
  (hok:e.ok p funcs env.length) (gJ:0<=funcs) (hf:funcs<=p.aJ.length) (hg:Good inp S st) (henv:∀ x∈env,qQ S x) (hel:env.length<=412+st) (hk:e.bH=9) :
  gK Tryz.prog 260 [.op nb 8 0 0,.agg e.c,ints env] h (aMI h0 nb p inp st 0 (fM p (n+1) st e env S)):=by
 obtain⟨om,og,ov,H⟩:=hR
 rw[aB.aM]
 have hb:=H.box
 unfold dZ at hb
 have e3:((st:Int)=3000)=False:=eq_false aA
 have ew:IntKind.i64.wrap ((st:Int)+1)=((st+1:Nat):Int):=by rw[IntWalk.i64_in _ aA];rfl
 have hnode:=(aB.fG _ _ _ _).1 hok
 have h3:¬st=3000:=by omega
 have hcap:=hg.cap
 have hgcap:=hg.tT
 have oC:=hg.later (mF st)
 have hR1:kQ h0 nb p inp S (st+1) 0 (bT h nb (dZ p inp S om og ov (st+1) 0)):=⟨_,_,_,H.set (st+1) 0⟩
 have hlen:=gE hok aA
 rw[hk,show jH 9=2 from rfl]at hlen
 have g0:e.aO[Int.toNat 0]?=some (e.rW 0):=aB.kI aA
 have g1:e.aO[Int.toNat 1]?=some (e.rW 1):=aB.kI aA
 have o0:=aB.jS hok (i:=0) aA
 have o1:=aB.jS hok (i:=1) aA
 rw[mA aA]at o0
 rw[hk,show oY 9 1 (env.length:Int)=env.length+1 from rfl]at o1
 refine lW 190 rE aB6 aB7 Tryz.func260 ?_
 simp -dsimp -implicitDefEqProofs only[go_sem,↓reduceIte,Tryz.f260,hb,e3,ew,hk,g0,g1,aB.ld5]
 refine⟨by omega,by omega,?_⟩
 first|refine aH.mk (bBN env aA) ?_|refine aE.mk (bBN env aA) ?_|refine aH.b7 (bBN env aA) ?_|refine aE.mk (bX.eA (bBN env aA)) ?_
 simp -dsimp -implicitDefEqProofs only[go_sem,↓reduceIte,Tryz.f260]
 refine aH.kF (hv _ _ nb (st+1) 0 (e.rW 0) env S funcs hR1 aA aA o0 gJ hf (λ_=>⟨oC,henv⟩) aA) ?_
 rintro r h' ⟨k1,S1,t1,c1,rfl,pF,a1,a2,a3⟩
 simp -dsimp -implicitDefEqProofs only[go_sem,↓reduceIte,Tryz.f260]
 refine⟨cM,cM,cM,by omega,by omega,λm hm=>?_⟩
 obtain⟨kK,e8,fC,mM⟩:=cE (show ¬nb=m from λe=>by obtain⟨_,_,_,H2⟩:=pF;have:=H2.box;rw[e,hm]at this;cases this)
 have hrow:env.map (λn=>[I n])++[[aC.int .i64 k1]]=(env++[k1]).map λn=>[I n]:=by rw[tA];rfl
 rw[hrow]
 refine aH.bM0 kK (by rw[k5,rL];rfl) hm ?_
 refine gK.mono (hv _ _ nb t1 c1 (e.rW 1) (env++[k1]) S1 funcs (pF.over (o:=.gone) hm) aA aA a0A gJ hf (λhc=>?_) bPA) ?_
 ·obtain⟨_,e2⟩:=a3.ok hc
  obtain⟨b1,b2,b3,b4⟩:=sB hp n (st+1) (e.rW 0) env S funcs o0 hf oC aA henv _ _ e2
  refine⟨b1,λx hx=>?_⟩
  rcases pH.1 hx with hx|hx
  ·exact(henv x hx).ext b2
  ·rw[rG.1 hx];exact b3
 rintro r h2 ⟨k2,S2,t2,c2,rfl,vR,b1,b2,b3⟩
 obtain⟨g,rfl,hgm,vR⟩:=vR.base (pF.none hm)
 simp -dsimp -implicitDefEqProofs only[go_sem,↓reduceIte,Tryz.f260]
 refine⟨_,g,eD (Heap.aW hgm (Heap.le_refl _)),k2,S2,t2,c2,rfl,vR,by omega,b2,?_⟩
 rw[aYF h3 hk]
 exact a3.gY b3
theorem b1N {p:aK} (hp:p.ok) {inp:Int} {n:Nat} (hv:aB8 p inp n) {h0 h:Heap} {nb st:Nat} {e:aB} {env:List Int} {S:eE} {funcs:Int} (hR:kQ h0 nb p inp S st 0 h) (hst:st<3000) (hn:3001<=n+1+st)
  (hok:e.ok p funcs env.length) (gJ:0<=funcs) (hf:funcs<=p.aJ.length) (hg:Good inp S st) (henv:∀ x∈env,qQ S x) (hel:env.length<=412+st) (hk:e.bH=8) :
  gK Tryz.prog 260 [.op nb 8 0 0,.agg e.c,ints env] h (aMI h0 nb p inp st 0 (fM p (n+1) st e env S)):=by
 obtain⟨om,og,ov,H⟩:=hR
 rw[aB.aM]
 have hb:=H.box
 unfold dZ at hb
 have e3:((st:Int)=3000)=False:=eq_false aA
 have ew:IntKind.i64.wrap ((st:Int)+1)=((st+1:Nat):Int):=by rw[IntWalk.i64_in _ aA];rfl
 have hnode:=(aB.fG _ _ _ _).1 hok
 have h3:¬st=3000:=by omega
 have hcap:=hg.cap
 have hgcap:=hg.tT
 have oC:=hg.later (mF st)
 have hR1:kQ h0 nb p inp S (st+1) 0 (bT h nb (dZ p inp S om og ov (st+1) 0)):=⟨_,_,_,H.set (st+1) 0⟩
 have hlen:=gE hok aA
 rw[hk,show jH 8=3 from rfl]at hlen
 have g0:e.aO[Int.toNat 0]?=some (e.rW 0):=aB.kI aA
 have g1:e.aO[Int.toNat 1]?=some (e.rW 1):=aB.kI aA
 have g2:e.aO[Int.toNat 2]?=some (e.rW 2):=aB.kI aA
 have o0:=aB.jS hok (i:=0) aA
 have o1:=aB.jS hok (i:=1) aA
 have o2:=aB.jS hok (i:=2) aA
 rw[mA aA]at o0 o1 o2
 refine lW 190 rE aB6 aB7 Tryz.func260 ?_
 simp -dsimp -implicitDefEqProofs only[go_sem,↓reduceIte,Tryz.f260,hb,e3,ew,hk,g0,aB.ld5]
 refine⟨by omega,?_⟩
 refine aH.kF (hv _ _ nb (st+1) 0 (e.rW 0) env S funcs hR1 aA aA o0 gJ hf (λ_=>⟨oC,henv⟩) aA) ?_
 rintro r h' ⟨k1,S1,t1,c1,rfl,⟨om1,og1,ov1,H1⟩,a1,a2,a3⟩
 have oM:=H1.box
 unfold dZ at oM
 simp -dsimp -implicitDefEqProofs only[go_sem,↓reduceIte,Tryz.f260,oM]
 refine⟨λhc=>?_,λhc=>?_⟩
 ·refine⟨_,_,cR _ _,0,S1,t1,c1,rfl,⟨_,_,_,H1⟩,by omega,a2,?_⟩
  rw[aFW h3 hk]
  exact a3.gY aJG
 subst hc
 obtain⟨_,e2⟩:=a3.ok rfl
 obtain⟨q1,q2,q3,q4⟩:=sB hp n (st+1) (e.rW 0) env S funcs o0 hf oC aA henv _ _ e2
 unfold rD at q4
 simp only at q1 q2 q3 q4
 obtain⟨w,rfl,hw,dw⟩:=H1.row q3
 have rk:=kO q3
 have k0:=q3.1
 have k2:=q3.2
 have lw:=jO (λn=>[I n]) S1.iG
 have hgc:=q1.tT
 rw[aY]at oM
 try simp -dsimp -implicitDefEqProofs only[go_sem,↓reduceIte,Tryz.f260,oM,hw,rk,aY]
 refine⟨k0,by omega,?_⟩
 have hgd:=H1.gds
 cases og1 with
 |none =>
  have hg0:S1.guards=[]:=jT.1 hgd
  rw[bJ]
  simp -dsimp -implicitDefEqProofs only[go_sem,↓reduceIte,Tryz.f260,oM]
  refine⟨by decide,by decide,by decide,λb mE=>?_⟩
  obtain⟨p9,kV,kU,pS⟩:=cE (show ¬b=nb from λe=>by rw[e,oM]at mE;cases mE)
  simp -dsimp -implicitDefEqProofs only[go_sem,↓reduceIte,Tryz.f260,oM,kV,kU,aD,g1,g2,aB.ld5]
  refine⟨λhz=>⟨by omega,?_⟩,λhz=>⟨by omega,?_⟩⟩
  ·rw[decide_eq_true hz]
   obtain⟨g,hgl,hG⟩:=H1.guard ⟨k1,true⟩ mE (F:=bT (bT h' b (.row 2 [[.v (I k1),.v (.bool true)]])) nb (dZ p inp (S1.guard ⟨k1,true⟩) om1 (some b) (some w) t1 0)) (bG _ _ _) a9A (λn h1 h2 _=>by rw[aD _ _ _ _ h1,aD _ _ _ _ h2])
   unfold dZ at hgl
   simp only[eE.guard,hg0,aY,al0,yV]at hgl
   refine aH.wk (Heap.iO hgl) ?_
   have hgG:=q1.guard (b:=true) q3 aA
   have heG:=q2.trans (S1.pE ⟨k1,true⟩)
   refine aH.kF (hv h0 g nb t1 0 (e.rW 1) env (S1.guard ⟨k1,true⟩) funcs ⟨_,_,_,hG⟩ aA aA o1 gJ hf (λ_=>⟨hgG,λx hx=>(henv x hx).ext heG⟩) aA) ?_
   rintro r h2 ⟨k2,S2,t2,c2,rfl,vR,b1,b2,b3⟩
   simp -dsimp -implicitDefEqProofs only[go_sem,↓reduceIte,Tryz.f260]
   refine⟨_,_,cR _ _,k2,S2,t2,c2,rfl,vR,by omega,b2,?_⟩
   rw[aFW h3 hk]
   refine a3.gY ?_
   rw[if_pos hz]
   exact b3
  ·rw[decide_eq_false hz]
   obtain⟨g,hgl,hG⟩:=H1.guard ⟨k1,false⟩ mE (F:=bT (bT h' b (.row 2 [[.v (I k1),.v (.bool false)]])) nb (dZ p inp (S1.guard ⟨k1,false⟩) om1 (some b) (some w) t1 0)) (bG _ _ _) a9A (λn h1 h2 _=>by rw[aD _ _ _ _ h1,aD _ _ _ _ h2])
   unfold dZ at hgl
   simp only[eE.guard,hg0,aY,al0,yV]at hgl
   refine aH.wk (Heap.iO hgl) ?_
   have hgG:=q1.guard (b:=false) q3 aA
   have heG:=q2.trans (S1.pE ⟨k1,false⟩)
   refine aH.kF (hv h0 g nb t1 0 (e.rW 2) env (S1.guard ⟨k1,false⟩) funcs ⟨_,_,_,hG⟩ aA aA o2 gJ hf (λ_=>⟨hgG,λx hx=>(henv x hx).ext heG⟩) aA) ?_
   rintro r h2 ⟨k2,S2,t2,c2,rfl,vR,b1,b2,b3⟩
   simp -dsimp -implicitDefEqProofs only[go_sem,↓reduceIte,Tryz.f260]
   refine⟨_,_,cR _ _,k2,S2,t2,c2,rfl,vR,by omega,b2,?_⟩
   rw[aFW h3 hk]
   refine a3.gY ?_
   rw[if_neg hz]
   exact b3
 |some gm =>
  have hgm:=hgd.2
  obtain⟨bNF,aYQ,aYR,bNG⟩:=cE (show ¬gm=nb from λe=>by rw[e,oM]at hgm;cases hgm)
  rw[aY]
  simp -dsimp -implicitDefEqProofs only[go_sem,↓reduceIte,Tryz.f260,oM,hgm,jO]
  refine⟨by decide,by decide,by decide,fL _,by omega,by omega,λb mE=>?_⟩
  obtain⟨p9,kV,kU,pS⟩:=cE (show ¬b=nb from λe=>by rw[e,oM]at mE;cases mE)
  obtain⟨bUS,a7J,a7K,bUT⟩:=cE (show ¬b=gm from λe=>by rw[e,hgm]at mE;cases mE)
  simp -dsimp -implicitDefEqProofs only[go_sem,↓reduceIte,Tryz.f260,oM,kV,a7J,kU,aYR,a7K,aYQ,aD,g1,g2,aB.ld5]
  refine⟨λhz=>⟨by omega,?_⟩,λhz=>⟨by omega,?_⟩⟩
  ·rw[decide_eq_true hz,gF aM9]
   obtain⟨g,hgl,hG⟩:=H1.guard ⟨k1,true⟩ mE (F:=bT (bT (bT h' gm .gone) b (.row 2 (rowsOf fK.c S1.guards++[[.v (I k1),.v (.bool true)]]))) nb (dZ p inp (S1.guard ⟨k1,true⟩) om1 (some b) (some w) t1 0)) (bG _ _ _) a83 (λn h1 h2 h3=>by rw[aD _ _ _ _ h1,aD _ _ _ _ h2,aD _ _ _ _ (λq=>h3 xE)])
   unfold dZ at hgl
   simp only[eE.guard,aY,rL,yV]at hgl
   refine aH.wk (Heap.iO hgl) ?_
   have hgG:=q1.guard (b:=true) q3 aA
   have heG:=q2.trans (S1.pE ⟨k1,true⟩)
   refine aH.kF (hv h0 g nb t1 0 (e.rW 1) env (S1.guard ⟨k1,true⟩) funcs ⟨_,_,_,hG⟩ aA aA o1 gJ hf (λ_=>⟨hgG,λx hx=>(henv x hx).ext heG⟩) aA) ?_
   rintro r h2 ⟨k2,S2,t2,c2,rfl,vR,b1,b2,b3⟩
   simp -dsimp -implicitDefEqProofs only[go_sem,↓reduceIte,Tryz.f260]
   refine⟨_,_,cR _ _,k2,S2,t2,c2,rfl,vR,by omega,b2,?_⟩
   rw[aFW h3 hk]
   refine a3.gY ?_
   rw[if_pos hz]
   exact b3
  ·rw[decide_eq_false hz,gF aM9]
   obtain⟨g,hgl,hG⟩:=H1.guard ⟨k1,false⟩ mE (F:=bT (bT (bT h' gm .gone) b (.row 2 (rowsOf fK.c S1.guards++[[.v (I k1),.v (.bool false)]]))) nb (dZ p inp (S1.guard ⟨k1,false⟩) om1 (some b) (some w) t1 0)) (bG _ _ _) a83 (λn h1 h2 h3=>by rw[aD _ _ _ _ h1,aD _ _ _ _ h2,aD _ _ _ _ (λq=>h3 xE)])
   unfold dZ at hgl
   simp only[eE.guard,aY,rL,yV]at hgl
   refine aH.wk (Heap.iO hgl) ?_
   have hgG:=q1.guard (b:=false) q3 aA
   have heG:=q2.trans (S1.pE ⟨k1,false⟩)
   refine aH.kF (hv h0 g nb t1 0 (e.rW 2) env (S1.guard ⟨k1,false⟩) funcs ⟨_,_,_,hG⟩ aA aA o2 gJ hf (λ_=>⟨hgG,λx hx=>(henv x hx).ext heG⟩) aA) ?_
   rintro r h2 ⟨k2,S2,t2,c2,rfl,vR,b1,b2,b3⟩
   simp -dsimp -implicitDefEqProofs only[go_sem,↓reduceIte,Tryz.f260]
   refine⟨_,_,cR _ _,k2,S2,t2,c2,rfl,vR,by omega,b2,?_⟩
   rw[aFW h3 hk]
   refine a3.gY ?_
   rw[if_neg hz]
   exact b3
theorem b1O {p:aK} (hp:p.ok) {inp:Int} {n:Nat} (hv:aB8 p inp n) {h0 h:Heap} {nb st:Nat} {e:aB} {env:List Int} {S:eE} {funcs:Int} (hR:kQ h0 nb p inp S st 0 h) (hst:st<3000) (hn:3001<=n+1+st)
  (hok:e.ok p funcs env.length) (gJ:0<=funcs) (hf:funcs<=p.aJ.length) (hg:Good inp S st) (henv:∀ x∈env,qQ S x) (hel:env.length<=412+st) (hk:e.bH=3) :
  gK Tryz.prog 260 [.op nb 8 0 0,.agg e.c,ints env] h (aMI h0 nb p inp st 0 (fM p (n+1) st e env S)):=by
 obtain⟨om,og,ov,H⟩:=hR
 rw[aB.aM]
 have hb:=H.box
 unfold dZ at hb
 have e3:((st:Int)=3000)=False:=eq_false aA
 have ew:IntKind.i64.wrap ((st:Int)+1)=((st+1:Nat):Int):=by rw[IntWalk.i64_in _ aA];rfl
 have hnode:=(aB.fG _ _ _ _).1 hok
 have h3:¬st=3000:=by omega
 have hcap:=hg.cap
 have hgcap:=hg.tT
 have oC:=hg.later (mF st)
 have hR1:kQ h0 nb p inp S (st+1) 0 (bT h nb (dZ p inp S om og ov (st+1) 0)):=⟨_,_,_,H.set (st+1) 0⟩
 have hlen:=gE hok aA
 rw[hk,show jH 3=2 from rfl]at hlen
 have hkl:e.aO.length<=1048576:=by omega
 refine lW 190 rE aB6 aB7 Tryz.func260 ?_
 simp -dsimp -implicitDefEqProofs only[go_sem,↓reduceIte,Tryz.f260,hb,e3,ew,hk]
 refine aH.kF (yH hp hv h0 _ nb (st+1) 0 e.aO env S funcs hR1 aA aA hkl (iL hok aA) gJ hf (λ_=>⟨oC,henv⟩) aA) ?_
 rintro r h' ⟨vs,S1,t1,c1,rfl,⟨om1,og1,ov1,H1⟩,hvl,a1,a2,a3⟩
 have oM:=H1.box
 unfold dZ at oM
 simp -dsimp -implicitDefEqProofs only[go_sem,↓reduceIte,Tryz.f260,oM]
 refine⟨λhc=>?_,λhc=>?_⟩
 ·refine⟨_,_,cR _ _,0,S1,t1,c1,rfl,⟨_,_,_,H1⟩,by omega,a2,?_⟩
  rw[nG h3 aA]
  exact a3.gY aJG
 subst hc
 obtain⟨_,e2⟩:=a3.ok rfl
 obtain⟨q1,q2,q3,q4⟩:=jF hp oC aA henv (iL hok aA) hf _ _ e2
 simp only at q1 q2 q3
 try simp -dsimp -implicitDefEqProofs only[go_sem,↓reduceIte,Tryz.f260,hk]
 refine aH.kF (vH ⟨_,_,_,H1⟩ q1 a2 3 vs dH aA aA q3.2 aA) ?_
 rintro r h2 ⟨k2,S2,c2,rfl,vR,b3⟩
 simp -dsimp -implicitDefEqProofs only[go_sem,↓reduceIte,Tryz.f260]
 refine⟨_,_,cR _ _,k2,S2,t1,c2,rfl,vR,by omega,a2,?_⟩
 rw[nG h3 aA]
 refine a3.gY ?_
 rw[gD,hk]
 exact b3
theorem b1P {p:aK} (hp:p.ok) {inp:Int} {n:Nat} (hv:aB8 p inp n) {h0 h:Heap} {nb st:Nat} {e:aB} {env:List Int} {S:eE} {funcs:Int} (hR:kQ h0 nb p inp S st 0 h) (hst:st<3000) (hn:3001<=n+1+st)
  (hok:e.ok p funcs env.length) (gJ:0<=funcs) (hf:funcs<=p.aJ.length) (hg:Good inp S st) (henv:∀ x∈env,qQ S x) (hel:env.length<=412+st) (hk:e.bH=4) :
  gK Tryz.prog 260 [.op nb 8 0 0,.agg e.c,ints env] h (aMI h0 nb p inp st 0 (fM p (n+1) st e env S)):=by
 obtain⟨om,og,ov,H⟩:=hR
 rw[aB.aM]
 have hb:=H.box
 unfold dZ at hb
 have e3:((st:Int)=3000)=False:=eq_false aA
 have ew:IntKind.i64.wrap ((st:Int)+1)=((st+1:Nat):Int):=by rw[IntWalk.i64_in _ aA];rfl
 have hnode:=(aB.fG _ _ _ _).1 hok
 have h3:¬st=3000:=by omega
 have hcap:=hg.cap
 have hgcap:=hg.tT
 have oC:=hg.later (mF st)
 have hR1:kQ h0 nb p inp S (st+1) 0 (bT h nb (dZ p inp S om og ov (st+1) 0)):=⟨_,_,_,H.set (st+1) 0⟩
 have hlen:=gE hok aA
 rw[hk,show jH 4=2 from rfl]at hlen
 have hkl:e.aO.length<=1048576:=by omega
 refine lW 190 rE aB6 aB7 Tryz.func260 ?_
 simp -dsimp -implicitDefEqProofs only[go_sem,↓reduceIte,Tryz.f260,hb,e3,ew,hk]
 refine aH.kF (yH hp hv h0 _ nb (st+1) 0 e.aO env S funcs hR1 aA aA hkl (iL hok aA) gJ hf (λ_=>⟨oC,henv⟩) aA) ?_
 rintro r h' ⟨vs,S1,t1,c1,rfl,⟨om1,og1,ov1,H1⟩,hvl,a1,a2,a3⟩
 have oM:=H1.box
 unfold dZ at oM
 simp -dsimp -implicitDefEqProofs only[go_sem,↓reduceIte,Tryz.f260,oM]
 refine⟨λhc=>?_,λhc=>?_⟩
 ·refine⟨_,_,cR _ _,0,S1,t1,c1,rfl,⟨_,_,_,H1⟩,by omega,a2,?_⟩
  rw[nG h3 aA]
  exact a3.gY aJG
 subst hc
 obtain⟨_,e2⟩:=a3.ok rfl
 obtain⟨q1,q2,q3,q4⟩:=jF hp oC aA henv (iL hok aA) hf _ _ e2
 simp only at q1 q2 q3
 try simp -dsimp -implicitDefEqProofs only[go_sem,↓reduceIte,Tryz.f260,hk]
 refine aH.kF (vH ⟨_,_,_,H1⟩ q1 a2 4 vs dH aA aA q3.2 aA) ?_
 rintro r h2 ⟨k2,S2,c2,rfl,vR,b3⟩
 simp -dsimp -implicitDefEqProofs only[go_sem,↓reduceIte,Tryz.f260]
 refine⟨_,_,cR _ _,k2,S2,t1,c2,rfl,vR,by omega,a2,?_⟩
 rw[nG h3 aA]
 refine a3.gY ?_
 rw[gD,hk]
 exact b3
theorem b1Q {p:aK} (hp:p.ok) {inp:Int} {n:Nat} (hv:aB8 p inp n) {h0 h:Heap} {nb st:Nat} {e:aB} {env:List Int} {S:eE} {funcs:Int} (hR:kQ h0 nb p inp S st 0 h) (hst:st<3000) (hn:3001<=n+1+st)
  (hok:e.ok p funcs env.length) (gJ:0<=funcs) (hf:funcs<=p.aJ.length) (hg:Good inp S st) (henv:∀ x∈env,qQ S x) (hel:env.length<=412+st) (hk:e.bH=5) :
  gK Tryz.prog 260 [.op nb 8 0 0,.agg e.c,ints env] h (aMI h0 nb p inp st 0 (fM p (n+1) st e env S)):=by
 obtain⟨om,og,ov,H⟩:=hR
 rw[aB.aM]
 have hb:=H.box
 unfold dZ at hb
 have e3:((st:Int)=3000)=False:=eq_false aA
 have ew:IntKind.i64.wrap ((st:Int)+1)=((st+1:Nat):Int):=by rw[IntWalk.i64_in _ aA];rfl
 have hnode:=(aB.fG _ _ _ _).1 hok
 have h3:¬st=3000:=by omega
 have hcap:=hg.cap
 have hgcap:=hg.tT
 have oC:=hg.later (mF st)
 have hR1:kQ h0 nb p inp S (st+1) 0 (bT h nb (dZ p inp S om og ov (st+1) 0)):=⟨_,_,_,H.set (st+1) 0⟩
 have hlen:=gE hok aA
 rw[hk,show jH 5=2 from rfl]at hlen
 have hkl:e.aO.length<=1048576:=by omega
 refine lW 190 rE aB6 aB7 Tryz.func260 ?_
 simp -dsimp -implicitDefEqProofs only[go_sem,↓reduceIte,Tryz.f260,hb,e3,ew,hk]
 refine aH.kF (yH hp hv h0 _ nb (st+1) 0 e.aO env S funcs hR1 aA aA hkl (iL hok aA) gJ hf (λ_=>⟨oC,henv⟩) aA) ?_
 rintro r h' ⟨vs,S1,t1,c1,rfl,⟨om1,og1,ov1,H1⟩,hvl,a1,a2,a3⟩
 have oM:=H1.box
 unfold dZ at oM
 simp -dsimp -implicitDefEqProofs only[go_sem,↓reduceIte,Tryz.f260,oM]
 refine⟨λhc=>?_,λhc=>?_⟩
 ·refine⟨_,_,cR _ _,0,S1,t1,c1,rfl,⟨_,_,_,H1⟩,by omega,a2,?_⟩
  rw[nG h3 aA]
  exact a3.gY aJG
 subst hc
 obtain⟨_,e2⟩:=a3.ok rfl
 obtain⟨q1,q2,q3,q4⟩:=jF hp oC aA henv (iL hok aA) hf _ _ e2
 simp only at q1 q2 q3
 try simp -dsimp -implicitDefEqProofs only[go_sem,↓reduceIte,Tryz.f260,hk]
 refine aH.kF (vH ⟨_,_,_,H1⟩ q1 a2 5 vs dH aA aA q3.2 aA) ?_
 rintro r h2 ⟨k2,S2,c2,rfl,vR,b3⟩
 simp -dsimp -implicitDefEqProofs only[go_sem,↓reduceIte,Tryz.f260]
 refine⟨_,_,cR _ _,k2,S2,t1,c2,rfl,vR,by omega,a2,?_⟩
 rw[nG h3 aA]
 refine a3.gY ?_
 rw[gD,hk]
 exact b3
theorem b1R {p:aK} (hp:p.ok) {inp:Int} {n:Nat} (hv:aB8 p inp n) {h0 h:Heap} {nb st:Nat} {e:aB} {env:List Int} {S:eE} {funcs:Int} (hR:kQ h0 nb p inp S st 0 h) (hst:st<3000) (hn:3001<=n+1+st)
  (hok:e.ok p funcs env.length) (gJ:0<=funcs) (hf:funcs<=p.aJ.length) (hg:Good inp S st) (henv:∀ x∈env,qQ S x) (hel:env.length<=412+st) (hk:e.bH=6) :
  gK Tryz.prog 260 [.op nb 8 0 0,.agg e.c,ints env] h (aMI h0 nb p inp st 0 (fM p (n+1) st e env S)):=by
 obtain⟨om,og,ov,H⟩:=hR
 rw[aB.aM]
 have hb:=H.box
 unfold dZ at hb
 have e3:((st:Int)=3000)=False:=eq_false aA
 have ew:IntKind.i64.wrap ((st:Int)+1)=((st+1:Nat):Int):=by rw[IntWalk.i64_in _ aA];rfl
 have hnode:=(aB.fG _ _ _ _).1 hok
 have h3:¬st=3000:=by omega
 have hcap:=hg.cap
 have hgcap:=hg.tT
 have oC:=hg.later (mF st)
 have hR1:kQ h0 nb p inp S (st+1) 0 (bT h nb (dZ p inp S om og ov (st+1) 0)):=⟨_,_,_,H.set (st+1) 0⟩
 have hlen:=gE hok aA
 rw[hk,show jH 6=2 from rfl]at hlen
 have hkl:e.aO.length<=1048576:=by omega
 refine lW 190 rE aB6 aB7 Tryz.func260 ?_
 simp -dsimp -implicitDefEqProofs only[go_sem,↓reduceIte,Tryz.f260,hb,e3,ew,hk]
 refine aH.kF (yH hp hv h0 _ nb (st+1) 0 e.aO env S funcs hR1 aA aA hkl (iL hok aA) gJ hf (λ_=>⟨oC,henv⟩) aA) ?_
 rintro r h' ⟨vs,S1,t1,c1,rfl,⟨om1,og1,ov1,H1⟩,hvl,a1,a2,a3⟩
 have oM:=H1.box
 unfold dZ at oM
 simp -dsimp -implicitDefEqProofs only[go_sem,↓reduceIte,Tryz.f260,oM]
 refine⟨λhc=>?_,λhc=>?_⟩
 ·refine⟨_,_,cR _ _,0,S1,t1,c1,rfl,⟨_,_,_,H1⟩,by omega,a2,?_⟩
  rw[nG h3 aA]
  exact a3.gY aJG
 subst hc
 obtain⟨_,e2⟩:=a3.ok rfl
 obtain⟨q1,q2,q3,q4⟩:=jF hp oC aA henv (iL hok aA) hf _ _ e2
 simp only at q1 q2 q3
 try simp -dsimp -implicitDefEqProofs only[go_sem,↓reduceIte,Tryz.f260,hk]
 refine aH.kF (vH ⟨_,_,_,H1⟩ q1 a2 6 vs dH aA aA q3.2 aA) ?_
 rintro r h2 ⟨k2,S2,c2,rfl,vR,b3⟩
 simp -dsimp -implicitDefEqProofs only[go_sem,↓reduceIte,Tryz.f260]
 refine⟨_,_,cR _ _,k2,S2,t1,c2,rfl,vR,by omega,a2,?_⟩
 rw[nG h3 aA]
 refine a3.gY ?_
 rw[gD,hk]
 exact b3
theorem b1S {p:aK} (hp:p.ok) {inp:Int} {n:Nat} (hv:aB8 p inp n) {h0 h:Heap} {nb st:Nat} {e:aB} {env:List Int} {S:eE} {funcs:Int} (hR:kQ h0 nb p inp S st 0 h) (hst:st<3000) (hn:3001<=n+1+st)
  (hok:e.ok p funcs env.length) (gJ:0<=funcs) (hf:funcs<=p.aJ.length) (hg:Good inp S st) (henv:∀ x∈env,qQ S x) (hel:env.length<=412+st) (hk:e.bH=7) :
  gK Tryz.prog 260 [.op nb 8 0 0,.agg e.c,ints env] h (aMI h0 nb p inp st 0 (fM p (n+1) st e env S)):=by
 obtain⟨om,og,ov,H⟩:=hR
 rw[aB.aM]
 have hb:=H.box
 unfold dZ at hb
 have e3:((st:Int)=3000)=False:=eq_false aA
 have ew:IntKind.i64.wrap ((st:Int)+1)=((st+1:Nat):Int):=by rw[IntWalk.i64_in _ aA];rfl
 have hnode:=(aB.fG _ _ _ _).1 hok
 have h3:¬st=3000:=by omega
 have hcap:=hg.cap
 have hgcap:=hg.tT
 have oC:=hg.later (mF st)
 have hR1:kQ h0 nb p inp S (st+1) 0 (bT h nb (dZ p inp S om og ov (st+1) 0)):=⟨_,_,_,H.set (st+1) 0⟩
 have hlen:=gE hok aA
 rw[hk,show jH 7=1 from rfl]at hlen
 have hkl:e.aO.length<=1048576:=by omega
 refine lW 190 rE aB6 aB7 Tryz.func260 ?_
 simp -dsimp -implicitDefEqProofs only[go_sem,↓reduceIte,Tryz.f260,hb,e3,ew,hk]
 refine aH.kF (yH hp hv h0 _ nb (st+1) 0 e.aO env S funcs hR1 aA aA hkl (iL hok aA) gJ hf (λ_=>⟨oC,henv⟩) aA) ?_
 rintro r h' ⟨vs,S1,t1,c1,rfl,⟨om1,og1,ov1,H1⟩,hvl,a1,a2,a3⟩
 have oM:=H1.box
 unfold dZ at oM
 simp -dsimp -implicitDefEqProofs only[go_sem,↓reduceIte,Tryz.f260,oM]
 refine⟨λhc=>?_,λhc=>?_⟩
 ·refine⟨_,_,cR _ _,0,S1,t1,c1,rfl,⟨_,_,_,H1⟩,by omega,a2,?_⟩
  rw[nG h3 aA]
  exact a3.gY aJG
 subst hc
 obtain⟨_,e2⟩:=a3.ok rfl
 obtain⟨q1,q2,q3,q4⟩:=jF hp oC aA henv (iL hok aA) hf _ _ e2
 simp only at q1 q2 q3
 try simp -dsimp -implicitDefEqProofs only[go_sem,↓reduceIte,Tryz.f260,hk]
 refine aH.kF (vH ⟨_,_,_,H1⟩ q1 a2 7 vs dH aA aA q3.2 aA) ?_
 rintro r h2 ⟨k2,S2,c2,rfl,vR,b3⟩
 simp -dsimp -implicitDefEqProofs only[go_sem,↓reduceIte,Tryz.f260]
 refine⟨_,_,cR _ _,k2,S2,t1,c2,rfl,vR,by omega,a2,?_⟩
 rw[nG h3 aA]
 refine a3.gY ?_
 rw[gD,hk]
 exact b3
theorem bUU {p:aK} (hp:p.ok) {inp:Int} {n:Nat} (hv:aB8 p inp n) {h0 h:Heap} {nb st:Nat} {e:aB} {env:List Int} {S:eE} {funcs:Int} (hR:kQ h0 nb p inp S st 0 h) (hst:st<3000) (hn:3001<=n+1+st)
  (hok:e.ok p funcs env.length) (gJ:0<=funcs) (hf:funcs<=p.aJ.length) (hg:Good inp S st) (henv:∀ x∈env,qQ S x) (hel:env.length<=412+st) (hk:e.bH=10) :
  gK Tryz.prog 260 [.op nb 8 0 0,.agg e.c,ints env] h (aMI h0 nb p inp st 0 (fM p (n+1) st e env S)):=by
 obtain⟨om,og,ov,H⟩:=hR
 rw[aB.aM]
 have hb:=H.box
 unfold dZ at hb
 have e3:((st:Int)=3000)=False:=eq_false aA
 have ew:IntKind.i64.wrap ((st:Int)+1)=((st+1:Nat):Int):=by rw[IntWalk.i64_in _ aA];rfl
 have hnode:=(aB.fG _ _ _ _).1 hok
 have h3:¬st=3000:=by omega
 have hcap:=hg.cap
 have hgcap:=hg.tT
 have oC:=hg.later (mF st)
 have hR1:kQ h0 nb p inp S (st+1) 0 (bT h nb (dZ p inp S om og ov (st+1) 0)):=⟨_,_,_,H.set (st+1) 0⟩
 obtain⟨f,F⟩:=yG hp hok hf (.inl hk)
 have hkl:e.aO.length<=1048576:=by have:=F.kids;have:=F.params;omega
 refine lW 190 rE aB6 aB7 Tryz.func260 ?_
 simp -dsimp -implicitDefEqProofs only[go_sem,↓reduceIte,Tryz.f260,hb,e3,ew,hk]
 refine aH.kF (yH hp hv h0 _ nb (st+1) 0 e.aO env S funcs hR1 aA aA hkl (iL hok aA) gJ hf (λ_=>⟨oC,henv⟩) aA) ?_
 rintro r h' ⟨vs,S1,t1,c1,rfl,⟨om1,og1,ov1,H1⟩,hvl,a1,a2,a3⟩
 have oM:=H1.box
 unfold dZ at oM
 simp -dsimp -implicitDefEqProofs only[go_sem,↓reduceIte,Tryz.f260,oM]
 refine⟨λhc=>?_,λhc=>?_⟩
 ·refine⟨_,_,cR _ _,0,S1,t1,c1,rfl,⟨_,_,_,H1⟩,by omega,a2,?_⟩
  rw[aGI h3 hk]
  exact a3.gY aJG
 subst hc
 obtain⟨_,e2⟩:=a3.ok rfl
 obtain⟨q1,q2,q3,q4⟩:=jF hp oC aA henv (iL hok aA) hf _ _ e2
 simp only at q1 q2 q3
 try simp -dsimp -implicitDefEqProofs only[go_sem,↓reduceIte,Tryz.f260,hk,oM,F.get,F.out,aX.aM,aB.ld5]
 have f1:=F.lo
 have f2:=F.hi
 have f3:=F.pk
 have f4:=F.pk2
 have f5:=F.kids
 have f6:=F.params
 refine⟨f1,f2,f3,by omega,?_⟩
 refine aH.kF (hv h0 _ nb t1 0 (p.out e.cC e.dO) vs S1 e.cC ⟨_,_,_,H1⟩ aA aA a81 f1 aA (λ_=>⟨q1,q3.2⟩) aA) ?_
 rintro r h2 ⟨k2,S2,t2,c2,rfl,vR,b1,b2,b3⟩
 simp -dsimp -implicitDefEqProofs only[go_sem,↓reduceIte,Tryz.f260]
 refine⟨_,_,cR _ _,k2,S2,t2,c2,rfl,vR,by omega,b2,?_⟩
 rw[aGI h3 hk]
 exact a3.gY b3
theorem bUV {p:aK} (hp:p.ok) {inp:Int} {n:Nat} (hv:aB8 p inp n) {h0 h:Heap} {nb st:Nat} {e:aB} {env:List Int} {S:eE} {funcs:Int} (hR:kQ h0 nb p inp S st 0 h) (hst:st<3000) (hn:3001<=n+1+st)
  (hok:e.ok p funcs env.length) (gJ:0<=funcs) (hf:funcs<=p.aJ.length) (hg:Good inp S st) (henv:∀ x∈env,qQ S x) (hel:env.length<=412+st) (hk:e.bH=11) :
  gK Tryz.prog 260 [.op nb 8 0 0,.agg e.c,ints env] h (aMI h0 nb p inp st 0 (fM p (n+1) st e env S)):=by
 obtain⟨om,og,ov,H⟩:=hR
 rw[aB.aM]
 have hb:=H.box
 unfold dZ at hb
 have e3:((st:Int)=3000)=False:=eq_false aA
 have ew:IntKind.i64.wrap ((st:Int)+1)=((st+1:Nat):Int):=by rw[IntWalk.i64_in _ aA];rfl
 have hnode:=(aB.fG _ _ _ _).1 hok
 have h3:¬st=3000:=by omega
 have hcap:=hg.cap
 have hgcap:=hg.tT
 have oC:=hg.later (mF st)
 have hR1:kQ h0 nb p inp S (st+1) 0 (bT h nb (dZ p inp S om og ov (st+1) 0)):=⟨_,_,_,H.set (st+1) 0⟩
 obtain⟨f,F⟩:=yG hp hok hf (.inr hk)
 have hkl:e.aO.length<=1048576:=by have:=F.kids;have:=F.params;omega
 have f1:=F.lo
 have f2:=F.hi
 have f3:=F.pk
 have f4:=F.pk2
 have f5:=F.kids
 have f6:=F.params
 have f7:=F.loop hk
 have f8:=F.outs
 refine lW 190 rE aB6 aB7 Tryz.func260 ?_
 simp -dsimp -implicitDefEqProofs only[go_sem,↓reduceIte,Tryz.f260,hb,e3,ew,hk]
 refine aH.kF (yH hp hv h0 _ nb (st+1) 0 e.aO env S funcs hR1 aA aA hkl (iL hok aA) gJ hf (λ_=>⟨oC,henv⟩) aA) ?_
 rintro r h' ⟨vs,S1,t1,c1,rfl,⟨om1,og1,ov1,H1⟩,hvl,a1,a2,a3⟩
 have oM:=H1.box
 unfold dZ at oM
 simp -dsimp -implicitDefEqProofs only[go_sem,↓reduceIte,Tryz.f260,oM]
 refine⟨λhc=>?_,λhc=>?_⟩
 ·refine⟨_,_,cR _ _,0,S1,t1,c1,rfl,⟨_,_,_,H1⟩,by omega,a2,?_⟩
  rw[aGJ h3 hk]
  exact a3.gY aJG
 subst hc
 obtain⟨_,e2⟩:=a3.ok rfl
 obtain⟨q1,q2,q3,q4⟩:=jF hp oC aA henv (iL hok aA) hf _ _ e2
 simp only at q1 q2 q3
 try simp -dsimp -implicitDefEqProofs only[go_sem,↓reduceIte,Tryz.f260,hk]
 have hiter:∀ (k:Nat) (us:List Int) (S2:eE) (t:Nat) (c:Int),nS (vG (λvs t S=>oG (λt e S=>fM p n t e vs S) (p.outs e.cC) t S) k vs t1 S1) (us,S2) t c->k<=e.dF.toNat->(¬c=0∨k=e.dF.toNat)->nS (wH 0 (fM p (n+1) st e env S)) (us.getD e.dO.toNat 0,S2) t c:=λk us S2 t c ho hk1 hor=>by
  rw[aGJ h3 hk]
  refine a3.gY ?_
  rw[gD]
  refine nS.then (v:=(us,S2)) (t:=t) (c:=c) ?_ (kN _ _ _)
  rcases hor with hc|rfl
  ·have:=ho.err hc
   rw[aVO _ k hk1 this]
   exact rT _ _ hc
  ·exact ho
 have hfl:∀ us t S2,Good inp S2 t->(us.length=f.bB.length/\∀ x∈us,qQ S2 x)->t<=3000->okQ (aKU inp S2 t f.bB.length) (oG (λt e S=>fM p n t e us S) (p.outs e.cC) t S2):=λus w S2 hg' hv' hw=>by
  rw[F.eq]
  exact jF hp hg' hw hv'.2 (funcs:=e.cC) (λx hx=>by rw[hv'.1,f7.2.2];exact F.oks x hx) aA
 refine cY rE aB6 aB7 (λx:Nat×List Int×Nat×Int×eE×Heap=>[(0,.op nb 8 0 0),(4,.ip 5 [[I 11,I e.cC,I e.dO,I e.dF,cI 5 aB.c e.aO]] 0 0),(9,ints x.2.1),(10,I x.1)]) (λx=>x.2.2.2.2.2) (λx=>x.1<=e.dF.toNat/\x.2.1.length=f.bB.length/\t1<=x.2.2.1/\x.2.2.1<=3000/\nS (vG (λvs t S=>oG (λt e S=>fM p n t e vs S) (p.outs e.cC) t S) x.1 vs t1 S1) (x.2.1,x.2.2.2.2.1) x.2.2.1 x.2.2.2.1/\kQ h0 nb p inp x.2.2.2.2.1 x.2.2.1 x.2.2.2.1 x.2.2.2.2.2) (λx=>e.dF.toNat-x.1) (0,vs,t1,0,S1,h') ⟨by simp[dT,dB],Heap.le_refl _,iZ _,by simp only;omega,fL _,a2,yF _ _,⟨_,_,_,H1⟩⟩ ?_
 rintro⟨k,us,t,c,S2,g⟩ ⟨hk1,hul,ht0,ht,ho,⟨om2,og2,ov2,H2⟩⟩
 simp only at hk1 hul ht0 ht ho H2 ⊢
 have mE:=H2.box
 unfold dZ at mE
 have gp:us[e.dO.toNat]?=some (us.getD e.dO.toNat 0):=fU aA
 simp -dsimp -implicitDefEqProofs only[go_sem,↓reduceIte,Tryz.f260,mE,F.get,aX.aM,gp]
 refine⟨λhlt=>⟨λhc=>⟨f1,f2,?_⟩,λhc=>?_⟩,λhge=>?_⟩
 ·subst hc
  obtain⟨_,e3⟩:=nS.ok (c:=0) (by rw[gD];exact ho) rfl
  obtain⟨w1,w2,w3,w4⟩:=aFV hfl k vs t1 S1 q1 ⟨by omega,q3.2⟩ a2 _ _ e3
  simp only at w1 w2 w3
  refine aH.kF (yH hp hv h0 _ nb t 0 f.bB us S2 e.cC ⟨_,_,_,H2⟩ ht aA aA (by rw[hul,f7.2.2];exact F.oks) f1 aA (λ_=>⟨w1,w3.2⟩) aA) ?_
  rintro r h2 ⟨l2,S3,t2,c2,rfl,vR,hl2,b1,b2,b3⟩
  simp -dsimp -implicitDefEqProofs only[go_sem,↓reduceIte,Tryz.f260]
  refine⟨(k+1,l2,t2,c2,S3,h2),⟨rfl,by rw[IntWalk.i64_in _ aA];rfl⟩,Heap.le_refl _,⟨by omega,hl2,by simp only;omega,b2,?_,vR⟩,by simp only;omega⟩
  simp only
  rw[aDP]
  refine ho.then ?_
  rw[F.eq]
  exact b3
 ·exact⟨f3,by omega,_,_,cR _ _,_,S2,t,c,rfl,⟨_,_,_,H2⟩,by omega,ht,hiter k us S2 t c ho hk1 (.inl hc)⟩
 ·exact⟨f3,by omega,_,_,cR _ _,_,S2,t,c,rfl,⟨_,_,_,H2⟩,by omega,ht,hiter k us S2 t c ho hk1 (.inr aA)⟩
theorem reg {p:aK} (hp:p.ok) {inp:Int}:∀ n,aB8 p inp n
 |0=>λh0 h nb st c e env S funcs hb hst hn=>by omega
 |n+1=>λh0 h nb st c e env S funcs hb hst hn hok gJ hf hgo hel=>by
  have hv:=reg hp (inp:=inp) n
  by_cases hs:¬c=0∨st=3000
  ·exact bIJ hb hst hs
  have hc:c=0:=bKR λq=>hs (.inl q)
  have h3:st<3000:=by
   rcases cP st 3000 with h|h
   ·exact h
   ·exact absurd (.inr aA) hs
  subst hc
  obtain⟨hg,henv⟩:=hgo rfl
  rcases aB4 ((aB.fG _ _ _ _).1 hok).1 with hk|hk|hk|hk|hk|hk|hk|hk|hk|hk|hk
  ·exact b1K hp hv hb h3 hn hok gJ hf hg henv hel hk
  ·exact b1L hp hv hb h3 hn hok gJ hf hg henv hel hk
  ·exact b1O hp hv hb h3 hn hok gJ hf hg henv hel hk
  ·exact b1P hp hv hb h3 hn hok gJ hf hg henv hel hk
  ·exact b1Q hp hv hb h3 hn hok gJ hf hg henv hel hk
  ·exact b1R hp hv hb h3 hn hok gJ hf hg henv hel hk
  ·exact b1S hp hv hb h3 hn hok gJ hf hg henv hel hk
  ·exact b1N hp hv hb h3 hn hok gJ hf hg henv hel hk
  ·exact b1M hp hv hb h3 hn hok gJ hf hg henv hel hk
  ·exact bUU hp hv hb h3 hn hok gJ hf hg henv hel hk
  ·exact bUV hp hv hb h3 hn hok gJ hf hg henv hel hk
structure rJ where
 aGK:Int
 cX:List cO
 aGL:List fK
 bB:List Int
def rJ.c (x:rJ):List aC:=[I x.aGK,cI 4 cO.c x.cX,cI 2 fK.c x.aGL,ints x.bB]
theorem rJ.aM (x:rJ):x.c=[I x.aGK,cI 4 cO.c x.cX,cI 2 fK.c x.aGL,ints x.bB]:=rfl
def oH (p:aK) (f:Int) (args:List Int):rJ×Int:=match aT7 p f args with
 | .ok ((l,S),_)=>(⟨args.length,S.code,S.guards,l⟩,0)
 | .error c=>(⟨0,[],[],[]⟩,c)
theorem zY.seal {bx:eE->Option Nat->Option Nat->Option Nat->cF} {h0 h F hh:Heap} {nb:Nat} {inp:Int} {S:eE} {om og ov:Option Nat} (H:zY bx h0 nb S om og ov h) (l:List Int) (d:Int)
  (hF:∀ n,some n=om∨some n=og->F n=h n) (hl:hh.le F) (hn:∀ n,some n=om∨some n=og->hh n=none) :
  Shift (.iF [.agg [I inp,jV 4 S.code.length om,jV 2 S.guards.length og,ints l],I d]) F (.iF [.agg [I inp,cI 4 cO.c S.code,cI 2 fK.c S.guards,ints l],I d]) hh:=by
 have hc:=H.code
 have hg:=H.gds
 have ap:=H.apart
 cases om with
 |none =>
  have hc0:S.code=[]:=jT.1 hc
  cases og with
  |none =>
   have hg0:S.guards=[]:=jT.1 hg
   rw[hc0,hg0]
   exact Shift.of (Sub.iF (.cons (Sub.agg (.cons (.refl _) (.cons (Sub.nil _ _) (.cons (Sub.nil _ _) (.cons (.refl _) .nil))))) (.cons (.refl _) .nil))) hl
  |some g =>
   have hgF:=(hF g (.inr rfl)).trans hg.2
   rw[hc0]
   refine Shift.trans (Shift.of (Sub.iF (.cons (Sub.agg (.cons (.refl _) (.cons (Sub.nil 4 false) (.cons (.refl _) (.cons (.refl _) .nil))))) (.cons (.refl _) .nil))) (Heap.le_refl F)) ?_
   refine nU (n:=g) (sz:=2) (S.guards.map fK.c) (hn g (.inr rfl)) ?_ aUN ?_
   ·intro q
    by_cases e:q=g
    ·subst e;right;rw[bG];exact hgF.symm
    ·rw[aD _ _ _ _ e];exact hl q
   ·simp[aC.gU,nZ,jV,gF]
 |some m =>
  have hmF:=(hF m (.inl rfl)).trans hc.2
  cases og with
  |none =>
   have hg0:S.guards=[]:=jT.1 hg
   rw[hg0]
   refine Shift.trans (Shift.of (Sub.iF (.cons (Sub.agg (.cons (.refl _) (.cons (.refl _) (.cons (Sub.nil 2 false) (.cons (.refl _) .nil))))) (.cons (.refl _) .nil))) (Heap.le_refl F)) ?_
   refine nU (n:=m) (sz:=4) (S.code.map cO.c) (hn m (.inl rfl)) ?_ aUN ?_
   ·intro q
    by_cases e:q=m
    ·subst e;right;rw[bG];exact hmF.symm
    ·rw[aD _ _ _ _ e];exact hl q
   ·simp[aC.gU,nZ,jV,gF]
  |some g =>
   have hgF:=(hF g (.inr rfl)).trans hg.2
   have hne:¬g=m:=λe=>((ap g).2.1 fD).1 rfl
   refine Shift.trans (b:=.iF [.agg [I inp,jV 4 S.code.length (some m),cI 2 fK.c S.guards,ints l],I d]) (h2:=bT hh m (.row 4 (rowsOf cO.c S.code))) ?_ ?_
   ·refine nU (n:=g) (sz:=2) (S.guards.map fK.c) (by rw[aD _ _ _ _ hne];exact hn g (.inr rfl)) ?_ bPB ?_
    ·intro q
     by_cases e:q=g
     ·subst e;right;rw[bG];exact hgF.symm
     ·rw[aD _ _ _ _ e]
      by_cases e2:q=m
      ·subst e2;right;rw[bG];exact hmF.symm
      ·rw[aD _ _ _ _ e2];exact hl q
    ·have hne':¬m=g:=λe=>hne e.symm
     simp[aC.gU,nZ,jV,gF,hne']
   ·refine nU (n:=m) (sz:=4) (S.code.map cO.c) (hn m (.inl rfl)) (Heap.le_refl _) aUN ?_
    simp[aC.gU,nZ,jV,gF]
theorem zY.keep {h0 h:Heap} {nb:Nat} {bx:eE->Option Nat->Option Nat->Option Nat->cF} {S:eE} {om og ov:Option Nat} (H:zY bx h0 nb S om og ov h) {n:Nat} {o:cF} (hn:h0 n=some o):h n=some o/\¬n=nb/\¬some n=om/\¬some n=og/\¬some n=ov:=by
 have hne:∀ q,¬(q=nb∨some q=om∨some q=og∨some q=ov)∨h0 q=.none:=λq=>by
  by_cases e:q=nb∨some q=om∨some q=og∨some q=ov
  ·exact .inr (H.fresh q e)
  ·exact .inl e
 have h1:¬(n=nb∨some n=om∨some n=og∨some n=ov):=by
  rcases hne n with e|e
  ·exact e
  ·rw[hn]at e;cases e
 have e1:¬n=nb:=λe=>h1 (.inl e)
 have e2:¬some n=om:=λe=>h1 (.inr (.inl e))
 have e3:¬some n=og:=λe=>h1 (.inr (.inr (.inl e)))
 have e4:¬some n=ov:=λe=>h1 (.inr (.inr (.inr e)))
 exact⟨(H.upto n e1 e2 e3 e4).trans hn,e1,e2,e3,e4⟩
theorem zY.le {h0 h:Heap} {nb:Nat} {bx:eE->Option Nat->Option Nat->Option Nat->cF} {S:eE} {om og ov:Option Nat} (H:zY bx h0 nb S om og ov h):h0.le h:=λq=>by
 cases e:h0 q with
 |none=>exact .inl rfl
 |some o=>right;exact(H.keep e).1.symm
theorem a7L {h0:Heap} {nb:Nat} (p:aK) (inp:Int) (hn:h0 nb=none):kQ h0 nb p inp ⟨[],[],[]⟩ 0 0 (bT h0 nb (dZ p inp ⟨[],[],[]⟩ none none none 0 0)) :=
 ⟨none,none,none,bG _ _ _,aSH _ _ _ _,rfl,rfl,rfl,λn h=>bO5,λn h1 _ _ _=>aD _ _ _ _ h1⟩
def aD8 (args:List Int) (k:Nat):eE:=⟨(List.range k).map λi:Nat=>⟨1,0,0,(i:Int)⟩,args.take k,[]⟩
def aKW (k:Nat):List Int:=(List.range k).map λi:Nat=>(i:Int)
theorem a2J (args:List Int):aD8 args args.length=inS args:=by rw[aD8,eL];rfl
theorem aGM {args:List Int} {k:Nat} (hk:k<args.length):aD8 args (k+1)=(aD8 args k).put ⟨1,0,0,(k:Int)⟩ args[k]:=by
 rw[aD8,aD8,eE.put,List.range_succ,tA,kP hk];rfl
theorem aVQ (k:Nat):aKW (k+1)=aKW k++[(k:Int)]:=by rw[aKW,aKW,List.range_succ,tA];rfl
@[go_sem] def bBO:List Nat:=[0,1,2,3,6,7,8,9,10,11,12,28,30,44,45,46,47,77]
@[go_sem] def bQ8:List Nat:=[3,43,57]
@[go_sem] def bQ9:Marks:=λid=>match id with|6=>([9],(.op 0 (.op 1 (.op 2 (.op 3 (.op 4 (.op 5 (.op 6 (.op 7 (.op 8 (.op 9 (.op 10 .nil))))))))))),[])|15=>([4,5],(.op 0 (.op 1 (.op 2 (.op 3 (.op 4 (.op 5 (.op 6 .nil))))))),[(4,5)])|_=>([],.nil,[])
theorem bUW {p:aK} (hp:p.ok) (hps:p.s<=4194304) (f:Int) (hf:0<=f/\f<p.aJ.length) (args:List Int) (ha:p4 args) (bUX:args.length<=12) (hl:∀ F,p.aJ[f.toNat]?=some F->(args.length:Int)=F.bV) :
  dQ Tryz.prog 215 [.agg p.c,I f,ints args] (.iF [.agg (oH p f args).1.c,I (oH p f args).2]):=by
 have hif:=bHG p f hps
 obtain⟨F,ef,hF1,hF2,hF3,hF4⟩:=aGE hp hf
 have hla:=hl F ef
 rw[if_pos hp,if_pos aA]at hif
 simp only[aK.aM]at hif ⊢
 have han:=fX args F.bV
 rw[decide_eq_true (show(args.length:Int)=F.bV/\p4 args from⟨hla,ha⟩)]at han
 refine tQ 87 bBO bQ8 bQ9 Tryz.func215 λh=>?_
 simp -dsimp -implicitDefEqProofs only[go_sem,↓reduceIte,Tryz.f215,ef,aX.aM]
 intro n6 z6
 try simp -dsimp -implicitDefEqProofs only[go_sem,↓reduceIte,Tryz.f215,ef,aX.aM]
 first|refine aH.mk (hif) ?_|refine aE.mk (hif) ?_|refine aH.b7 (hif) ?_|refine aE.mk (bX.eA (hif)) ?_
 simp -dsimp -implicitDefEqProofs only[go_sem,↓reduceIte,Tryz.f215,ef,aX.aM]
 refine⟨hf.1,hf.2,?_⟩
 first|refine aH.mk (han) ?_|refine aE.mk (han) ?_|refine aH.b7 (han) ?_|refine aE.mk (bX.eA (han)) ?_
 simp -dsimp -implicitDefEqProofs only[go_sem,↓reduceIte,Tryz.f215,ef,aX.aM]
 refine⟨hf.1,hf.2,λnb ⟨hb6,zb⟩=>⟨cM,λ_=>?_⟩⟩
 obtain⟨uU,kR,kS,aGB⟩:=cE (show ¬nb=n6 from hb6)
 generalize hh6:bT h n6 (.row 4 [[.v (.int .i64 0),.v .aV,.v .aV,.v .aV]])=h6
 have zb6:h6 nb=none:=by rw[←hh6,aD _ _ _ _ uU];exact zb
 have hin:=a7L (h0:=h6) p F.bV zb6
 refine cY bBO bQ8 bQ9 (λx:Nat×Heap×Option Nat=>[(1,I f),(3,.ip 1 [[cI 3 aX.c p.aJ]] 0 0),(6,.op n6 4 0 0),(9,.op nb 8 0 0),(10,mX 1 x.1 x.2.2),(44,ints args),(45,I args.length),(46,I x.1)]) (λx=>c7 x.2.1 (.row 1 (((aKW x.1).map λn=>[I n]).map (List.map .v))) x.2.2) (λx=>x.1<=args.length/\kQ h6 nb p F.bV (aD8 args x.1) 0 0 x.2.1/\k7 x.2.1 (aKW x.1) x.2.2) (λx=>args.length-x.1) (0,bT h6 nb (dZ p F.bV ⟨[],[],[]⟩ none none none 0 0),none) ⟨by simp[dT,dB,mX],Heap.le_refl _,iZ _,hin,rfl⟩ ?_
 rintro⟨k,g,o⟩ ⟨hk,hR,hos⟩
 simp only at hk hR hos ⊢
 have hel:(aKW k).length=k:=by simp[aKW]
 rcases cP k args.length with hlt|hge
 ·have ek:args[k]?=some args[k]:=b6 hlt
  have hsl:(aD8 args k).code.length=(aD8 args k).iG.length:=by simp[aD8];omega
  have hvl:(aD8 args k).iG.length=k:=by simp[aD8];omega
  have hy:=aVQ k
  cases o with
  |none =>
   rw[cZ]at hos
   have k0:k=0:=by rw[←hel,hos];rfl
   subst k0
   simp -dsimp -implicitDefEqProofs only[go_sem,↓reduceIte,Tryz.f215,dD,aN,hlt,ek]
   refine aH.kF (aSI hR ⟨1,0,0,((0:Nat):Int)⟩ args[0] hsl aA) ?_
   rintro r h' ⟨rfl,pF⟩
   simp -dsimp -implicitDefEqProofs only[go_sem,↓reduceIte,Tryz.f215]
   refine⟨cM,cM,cM,λb mE=>⟨(1,h',some b),⟨rfl,by rw[IntWalk.i64_in _ aA];rfl⟩,?_,⟨hlt,by rw[aGM hlt];exact pF,mE⟩,by simp only;omega⟩⟩
   rw[hvl]
   exact Heap.le_refl _
  |some m =>
   rw[b8]at hos
   simp -dsimp -implicitDefEqProofs only[go_sem,↓reduceIte,Tryz.f215,bZ,aL,hlt,ek]
   refine aH.kF (aSI (hR.over hos) ⟨1,0,0,(k:Int)⟩ args[k] hsl aA) ?_
   rintro r h' ⟨rfl,pF⟩
   obtain⟨g2,rfl,hg2,pF⟩:=pF.base (hR.none hos)
   simp -dsimp -implicitDefEqProofs only[go_sem,↓reduceIte,Tryz.f215]
   refine⟨cM,cM,cM,al8 hel.symm,by omega,by omega,λb ⟨hbm,mE⟩=>⟨(k+1,g2,some b),⟨rfl,by rw[IntWalk.i64_in _ aA];rfl⟩,?_,⟨hlt,by rw[aGM hlt];exact pF,mE⟩,by simp only;omega⟩⟩
   simp only[aL]
   rw[hvl,hy,←iX (λn=>I n),hel]
   exact nP hg2
 ·have hk':k=args.length:=by omega
  subst hk'
  rw[a2J]at hR
  have hg0:=aSF args ha bUX
  rw[hla]at hg0
  have hie:aKW args.length=inE args:=rfl
  have hall:∀ {h0 g:Heap},kQ h0 nb p F.bV (inS args) 0 0 g->gK Tryz.prog 242 [.op nb 8 0 0,cI 5 aB.c F.bB,ints (inE args)] g (bQ5 h0 nb p F.bV 0 0 F.bB.length (oG (λt e S=>fM p 3001 t e (inE args) S) F.bB 0 (inS args))):=λhR =>
   yH hp (reg hp 3001) _ _ nb 0 0 F.bB (inE args) (inS args) f hR aA aA aA (λx hx=>by rw[←hie,hel,hla];exact hF4 x hx) hf.1 aA (λ_=>⟨hg0,a7F args⟩) (by rw[←hie,hel];omega)
  cases o with
  |none =>
   rw[cZ,hie]at hos
   simp -dsimp -implicitDefEqProofs only[go_sem,↓reduceIte,Tryz.f215,dD,aN,cN,fP,ef,aX.aM]
   refine⟨hf.1,hf.2,aH.kF (gK.sub (.cons (.refl _) (.cons (.refl _) (.cons (by rw[hos];exact Sub.loose _ _ _) .nil))) (hall hR)) ?_⟩
   rintro r h2 ⟨l,S2,t2,c2,rfl,⟨om,og,ov,H2⟩,hll,a1,a2,a3⟩
   have mE:=H2.box
   unfold dZ at mE
   have hz:=H2.keep (n:=n6) a9K
   have hz1:=hz.1
   simp -dsimp -implicitDefEqProofs only[go_sem,↓reduceIte,Tryz.f215,mE,hz1,kR,kS,aD]
   generalize hE:h2=h2H at *
   have hle:h.le h2H:=by
    have h1:=H2.le
    rw[←hh6]at h1
    intro q
    by_cases e:q=n6
    ·subst e;exact .inl z6
    ·have:=h1 q
     rwa [aD _ _ _ _ e]at this
   have hfr:∀ n,some n=om∨some n=og->h n=none/\¬n=n6/\¬n=nb:=λn hn=>by
    have h1:=H2.fresh n a8X
    have h3:¬n=n6:=λe=>by rw[←hh6,e,bG]at h1;cases h1
    refine⟨by rwa [←hh6,aD _ _ _ _ h3]at h1,h3,λe=>?_⟩
    rcases hn with hn|hn
    ·exact((H2.apart n).1 e).1 hn
    ·exact((H2.apart n).1 e).2.1 hn
   refine⟨λhc=>?_,λhc=>⟨by rw[fR,fR];rfl,?_⟩⟩
   ·have e2:oH p f args=(⟨0,[],[],[]⟩,c2):=by
     rw[gD]at a3
     rw[oH,aT7,hF3,a3.err hc]
    rw[e2]
    exact Shift.of (Sub.iF (.cons (Sub.agg (.cons (.refl _) (.cons (Sub.nil 4 false) (.cons (Sub.nil 2 false) (.cons (Sub.nil 1 false) .nil))))) (.cons (.refl _) .nil))) (Heap.aW z6 (Heap.aW zb (hle)))
   ·obtain⟨_,e1⟩:=a3.ok hc
    have e2:oH p f args=(⟨args.length,S2.code,S2.guards,l⟩,0):=by
     rw[oH,aT7,hF3,e1]
    rw[e2,rJ.aM,hla]
    refine H2.seal l 0 (λn hn=>?_) (Heap.aW z6 (Heap.aW zb (hle))) (λn hn=>(hfr n hn).1)
    obtain⟨v1,v2,v3⟩:=hfr n hn
    rw[aD _ _ _ _ v2,aD _ _ _ _ v3]
  |some m =>
   rw[b8]at hos
   simp -dsimp -implicitDefEqProofs only[go_sem,↓reduceIte,Tryz.f215,bZ,aL,cN,fP,ef,aX.aM]
   obtain⟨kK,e8,fC,mM⟩:=cE (show ¬nb=m from λe=>by obtain⟨_,_,_,H1⟩:=hR;have:=H1.box;rw[e,hos]at this;cases this)
   refine⟨hf.1,hf.2,aH.aN2 rfl rfl kK (by rw[k5];exact hel.symm) hos ?_⟩
   refine gK.mono (hall (hR.over (o:=.gone) hos)) ?_
   rintro r h2 ⟨l,S2,t2,c2,rfl,pF,hll,a1,a2,a3⟩
   obtain⟨g3,rfl,hg3,⟨om,og,ov,H2⟩⟩:=pF.base (hR.none hos)
   have mE:=H2.box
   unfold dZ at mE
   have hz:=H2.keep (n:=n6) a9K
   have hz1:=hz.1
   obtain⟨a7M,a7N,a7O,bUZ⟩:=cE (show ¬n6=m from λe=>by rw[e,hg3]at hz1;cases hz1)
   simp -dsimp -implicitDefEqProofs only[go_sem,↓reduceIte,Tryz.f215,mE,hz1,kR,e8,kS,a7N,fC,a7O,aD]
   have hgo:∀ n,some n=om∨some n=og->¬n=m:=λn hn e=>by
    have:=(H2.apart n).2.2.2 (by rw[e];exact hg3)
    rcases hn with hn|hn
    ·exact this.2.1 hn
    ·exact this.2.2.1 hn
   have hhm:h m=none:=by
    have h1:=hR.none hos
    rw[←hh6,aD _ _ _ _ (λe=>a7M e.symm)]at h1
    exact h1
   generalize hE:g3=h2H at *
   have hle:h.le h2H:=by
    have h1:=H2.le
    rw[←hh6]at h1
    intro q
    by_cases e:q=n6
    ·subst e;exact .inl z6
    ·have:=h1 q
     rwa [aD _ _ _ _ e]at this
   have hfr:∀ n,some n=om∨some n=og->h n=none/\¬n=n6/\¬n=nb:=λn hn=>by
    have h1:=H2.fresh n a8X
    have h3:¬n=n6:=λe=>by rw[←hh6,e,bG]at h1;cases h1
    refine⟨by rwa [←hh6,aD _ _ _ _ h3]at h1,h3,λe=>?_⟩
    rcases hn with hn|hn
    ·exact((H2.apart n).1 e).1 hn
    ·exact((H2.apart n).1 e).2.1 hn
   refine⟨λhc=>?_,λhc=>⟨by rw[fR,fR];rfl,?_⟩⟩
   ·have e2:oH p f args=(⟨0,[],[],[]⟩,c2):=by
     rw[gD]at a3
     rw[oH,aT7,hF3,a3.err hc]
    rw[e2]
    exact Shift.of (Sub.iF (.cons (Sub.agg (.cons (.refl _) (.cons (Sub.nil 4 false) (.cons (Sub.nil 2 false) (.cons (Sub.nil 1 false) .nil))))) (.cons (.refl _) .nil))) (Heap.aW z6 (Heap.aW zb (Heap.aW hhm hle)))
   ·obtain⟨_,e1⟩:=a3.ok hc
    have e2:oH p f args=(⟨args.length,S2.code,S2.guards,l⟩,0):=by
     rw[oH,aT7,hF3,e1]
    rw[e2,rJ.aM,hla]
    refine H2.seal l 0 (λn hn=>?_) (Heap.aW z6 (Heap.aW zb (Heap.aW hhm hle))) (λn hn=>(hfr n hn).1)
    obtain⟨v1,v2,v3⟩:=hfr n hn
    rw[aD _ _ _ _ v2,aD _ _ _ _ v3,aD _ _ _ _ (hgo n hn)]
def opsOf (c:cO):List Int:=if 3<=c.vN/\c.vN<=6 then[c.fA,c.fB]else if c.vN=7 then[c.fA]else[]
def zO (l:List Int) (b:List Bool):List Bool:=l.foldl (λb r=>b.set r.toNat true) b
def vW (k:Nat) (l:List Int) (b:List Bool):List Bool:=l.foldl (λb r=>b.set r.toNat (b.getD r.toNat false || b.getD k false)) b
def a2K (code:List cO) (k:Nat):List Int:=((code[k]?).map opsOf).getD []
def aKX (code:List cO):Nat->List Bool->List Bool
 |0,b=>b
 |k+1,b=>aKX code k (vW k (a2K code k) b)
def vX (code:List cO) (ends:List Int):List Bool:=aKX code code.length (zO ends (List.replicate code.length false))
theorem aMJ (l:List Int):∀ b,(zO l b).length=b.length:=by
 induction l with
 |nil=>intro b;rfl
 |cons x l ih=>intro b;rw[zO,bE7];exact(ih _).trans aS
theorem aMK (k:Nat) (l:List Int):∀ b,(vW k l b).length=b.length:=by
 induction l with
 |nil=>intro b;rfl
 |cons x l ih=>intro b;rw[vW,bE7];exact(ih _).trans aS
theorem aVR (code:List cO):∀ k b,(aKX code k b).length=b.length
 |0,b=>rfl
 |k+1,b=>by rw[aKX,aVR code k,aMK]
theorem aVS (code:List cO) (ends:List Int):(vX code ends).length=code.length:=by rw[vX,aVR,aMJ,al9]
theorem a7P (l:List Int) (x:Int) (b:List Bool):zO (l++[x]) b=(zO l b).set x.toNat true:=by rw[zO,List.foldl_append];rfl
theorem aSL (k:Nat) (l:List Int) (x:Int) (b:List Bool):vW k (l++[x]) b=(vW k l b).set x.toNat ((vW k l b).getD x.toNat false || (vW k l b).getD k false):=by rw[vW,List.foldl_append];rfl
@[go_sem] def bNH:List Nat:=[0,1,2,3,12]
@[go_sem] def b1T:List Nat:=[1,11,18]
theorem operands (x:cO):dQ Tryz.prog 244 [.agg x.c] (ints (opsOf x)):=by
 rw[cO.aM]
 refine tQ 19 bNH b1T b9 Tryz.func244 λh=>?_
 simp -dsimp -implicitDefEqProofs only[go_sem,↓reduceIte,Tryz.f244]
 first|refine aH.mk (within x.vN 3 6) ?_|refine aE.mk (within x.vN 3 6) ?_|refine aH.b7 (within x.vN 3 6) ?_|refine aE.mk (bX.eA (within x.vN 3 6)) ?_
 simp -dsimp -implicitDefEqProofs only[go_sem,↓reduceIte,Tryz.f244]
 unfold opsOf
 refine⟨λq=>⟨by decide,by decide,?_⟩,λq=>⟨λq7=>⟨by decide,by decide,?_⟩,λq7=>?_⟩⟩
 ·rw[if_pos q];exact Shift.of (Sub.loose _ _ _) (Heap.le_refl _)
 ·rw[if_neg q,if_pos q7];exact Shift.of (Sub.loose _ _ _) (Heap.le_refl _)
 ·rw[if_neg q,if_neg q7];exact Shift.of (Sub.nil _ _) (Heap.le_refl _)
theorem bIK {inp:Int} {i:Nat} {c:cO} (h:kH inp i c):∀ x∈opsOf c,0<=x/\x<i:=λx hx=>by
 unfold opsOf at hx
 unfold kH at h
 split at hx
 ·simp only[p7,List.not_mem_nil,or_false]at hx
  rcases hx with rfl|rfl <;> omega
 ·split at hx
  ·simp only[p7,List.not_mem_nil,or_false]at hx
   subst hx;omega
  ·cases hx
theorem a2L {code:List cO} {k:Nat} (h:k<code.length):a2K code k=opsOf code[k]:=by rw[a2K,b6 h];rfl
theorem bDZ (c:cO):(opsOf c).length<=2:=by unfold opsOf;split;exact fL 2;split;exact mF 1;exact iZ 2
def aDR (b:List Bool):cF:=.row 1 ((b.map λx=>[.bool x]).map (List.map .v))
theorem aSM (b:List Bool) (k:Nat) (x:Bool):((b.map λx=>[aC.bool x]).map (List.map Cell.v)).set k [.v (.bool x)]=((b.set k x).map λx=>[aC.bool x]).map (List.map .v):=by rw[aZP,aZP];rfl
theorem aYS {b:List Bool} {k:Nat} (h:k<b.length):b[k]?=some (b.getD k false):=by rw[jC,b6 h];rfl
@[go_sem] def aPE:List Nat:=[0,1,2,4,5,7,8,10,15,16,17,18,30,38,39,40,41]
theorem needed (t:rJ) (ends:List Int) (hc:t.cX.length<=1048576) (hl:ends.length<=1048576) (hr:∀ x∈ends,0<=x/\x<t.cX.length) (hi:∀ i c,t.cX[i]?=some c->kH t.aGK i c):dQ Tryz.prog 217 [.agg t.c,ints ends] (cI 1 (λb=>[.bool b]) (vX t.cX ends)):=by
 rw[rJ.aM]
 refine tQ 59 aPE aBW b9 Tryz.func217 λh=>?_
 simp -dsimp -implicitDefEqProofs only[go_sem,↓reduceIte,Tryz.f217]
 refine λ_=>⟨by decide,fL _,by omega,by omega,λn hn _=>?_⟩
 have hrep:(List.map (List.map Cell.v) (List.replicate t.cX.length [aC.bool false]))=((List.replicate t.cX.length false).map λx=>[aC.bool x]).map (List.map .v):=by simp
 rw[hrep]
 refine aW1 aPE aBW b9 (λk:Nat=>[(2,.ip 4 [[I t.aGK,cI 4 cO.c t.cX,cI 2 fK.c t.aGL,ints t.bB]] 0 0),(5,.os n 1 0 t.cX.length),(15,ints ends),(16,I ends.length),(17,I k)]) n (λk=>aDR (zO (ends.take k) (List.replicate t.cX.length false))) (λk=>k<=ends.length) (λk=>ends.length-k) 0 ⟨by simp[dT,dB],by rw[bG];rfl,iZ _⟩ ?_
 intro k hk
 have hbl:=aMJ (ends.take k) (List.replicate t.cX.length false)
 rw[al9]at hbl
 rcases cP k ends.length with hlt|hge
 ·have ek:ends[k]?=some ends[k]:=b6 hlt
  have hx:=hr ends[k] (dG hlt)
  have eb:=aYS (b:=zO (ends.take k) (List.replicate t.cX.length false)) (k:=ends[k].toNat) aA
  unfold aDR
  simp -dsimp -implicitDefEqProofs only[go_sem,↓reduceIte,Tryz.f217,hlt,ek,aF,eb]
  refine⟨hx.1,hx.2,k+1,by rw[IntWalk.i64_in _ aA];rfl,?_,by omega,by omega⟩
  rw[kP hlt,a7P,aSM]
  exact Heap.le_refl _
 ·have hk':k=ends.length:=by omega
  subst hk'
  rw[eL]at hbl ⊢
  generalize hB:zO ends (List.replicate t.cX.length false)=B0 at *
  unfold aDR
  simp -dsimp -implicitDefEqProofs only[go_sem,↓reduceIte,Tryz.f217,cN,fP]
  intro _
  rw[aF]
  refine aW1 aPE aBW b9 (λx:Nat×List Bool=>[(2,.ip 4 [[I t.aGK,cI 4 cO.c t.cX,cI 2 fK.c t.aGL,ints t.bB]] 0 0),(5,.os n 1 0 t.cX.length),(8,I ((x.1:Int)-1))]) n (λx=>aDR x.2) (λx=>x.1<=t.cX.length/\x.2.length=t.cX.length/\aKX t.cX x.1 x.2=aKX t.cX t.cX.length B0) (λx=>x.1) (t.cX.length,B0) ⟨by simp[dT,dB];exact IntWalk.i64_in _ aA,by rw[bG];rfl,fL _,hbl,rfl⟩ ?_
  rintro⟨k,B⟩ ⟨hk,hBl,hT⟩
  simp only at hk hBl hT ⊢
  cases k with
  |zero =>
   unfold aDR
   simp -dsimp -implicitDefEqProofs only[go_sem,↓reduceIte,Tryz.f217]
   refine⟨λq=>absurd q aA,λ_=>?_⟩
   rw[aF,show vX t.cX ends=B by rw[vX,hB];exact hT.symm]
   exact lV (B.map λx=>[.bool x]) hn (Heap.le_refl _) _ (by rw[k5,hBl])
  |succ k =>
   have ec:t.cX[k]?=some t.cX[k]:=b6 hk
   have e1:((k+1:Nat):Int)-1=k:=by omega
   have hop:=operands t.cX[k]
   have hlt:=bIK (hi k t.cX[k] ec)
   have hol:=bDZ t.cX[k]
   rw[cO.aM]at hop
   rw[e1]
   unfold aDR
   simp -dsimp -implicitDefEqProofs only[go_sem,↓reduceIte,Tryz.f217,ec,cO.aM]
   refine⟨hk,?_⟩
   first|refine aH.mk (hop) ?_|refine aE.mk (hop) ?_|refine aH.b7 (hop) ?_|refine aE.mk (bX.eA (hop)) ?_
   simp -dsimp -implicitDefEqProofs only[go_sem,↓reduceIte,Tryz.f217]
   intro _
   rw[aF]
   rw[aKX,a2L hk]at hT
   generalize opsOf t.cX[k]=ops at *
   refine aW1 aPE aBW b9 (λi:Nat=>[(2,.ip 4 [[I t.aGK,cI 4 cO.c t.cX,cI 2 fK.c t.aGL,ints t.bB]] 0 0),(5,.os n 1 0 t.cX.length),(8,I (k:Int)),(38,ints ops),(39,I ops.length),(40,I i)]) n (λi=>aDR (vW k (ops.take i) B)) (λi=>i<=ops.length) (λi=>ops.length-i) 0 ⟨by simp[dT,dB],by rw[bG];rfl,iZ _⟩ ?_
   intro i hi2
   have hsl:=aMK k (ops.take i) B
   rcases cP i ops.length with aFJ|bL5
   ·have eo:ops[i]?=some ops[i]:=b6 aFJ
    have hx:=hlt ops[i] (dG aFJ)
    have eb:=aYS (b:=vW k (ops.take i) B) (k:=ops[i].toNat) aA
    have ek:=aYS (b:=vW k (ops.take i) B) (k:=k) aA
    unfold aDR
    simp -dsimp -implicitDefEqProofs only[go_sem,↓reduceIte,Tryz.f217,aFJ,eo,aF,eb,ek]
    refine⟨hx.1,by omega,λhb=>⟨hk,hx.1,by omega,i+1,by rw[IntWalk.i64_in _ aA];rfl,?_,by omega,by omega⟩,λhb=>⟨hx.1,by omega,i+1,by rw[IntWalk.i64_in _ aA];rfl,?_,by omega,by omega⟩⟩
    ·rw[kP aFJ,aSL,aSM,hb,aPT]
     exact Heap.le_refl _
    ·rw[kP aFJ,aSL,aSM,hb,Bool.true_or]
     exact Heap.le_refl _
   ·have hk2:i=ops.length:=by omega
    subst hk2
    rw[eL]at hsl ⊢
    unfold aDR
    simp -dsimp -implicitDefEqProofs only[go_sem,↓reduceIte,Tryz.f217,cN,fP]
    refine⟨(k,vW k ops B),IntWalk.i64_in _ aA,by rw[aF,aF];exact Heap.le_refl _,⟨by simp only;omega,hsl.trans hBl,hT⟩,by simp only;omega⟩
def aML (code:List cO):List Int:=(code.filter λc=>c.vN=6).map cO.fB
def xB (x:Int) (l:List fK):List Int:=[x]++l.map fK.aOJ
def qR (t:rJ):List Int:=xB (t.bB.getD 0 0) t.aGL++aML t.cX
theorem a7Q (x:Int) (l:List fK) (g:fK):xB x (l++[g])=xB x l++[g.aOJ]:=by simp[xB]
theorem aVT (x:Int) (l:List fK):(xB x l).length=l.length+1:=by simp[xB]
theorem aVU (l:List cO) (c:cO):aML (l++[c])=if c.vN=6 then aML l++[c.fB]else aML l:=by
 rw[aML,List.filter_append,tA]
 by_cases h:c.vN=6
 ·rw[if_pos h];simp[aML,h]
 ·rw[if_neg h];simp[aML,h]
theorem a2M (l:List cO):(aML l).length<=l.length:=by rw[aML,k5];exact List.length_filter_le _ _
def zP (t:rJ) (sh:Int) (a b:List Int) (r:Nat):Prop:=(vX t.cX (qR t))[r]?=some true/\∃ c,t.cX[r]?=some c/\c.vN=1/\c.cC<sh/\¬a.getD c.cC.toNat 0=b.getD c.cC.toNat 0
def bIL (l:List Int):Option Nat->aC
 |none=>.sl 1 (l.map λn=>[I n]) true
 |some m=>.os m 1 0 l.length
theorem aMM (l:List Int):bIL l none=.sl 1 (l.map λn=>[I n]) true:=rfl
theorem wI (l:List Int) (m:Nat):bIL l (some m)=.os m 1 0 l.length:=rfl
def bIM (h:Heap) (o:Option Nat):Prop:=∀ m,o=some m->h m=none
def aYT (j:dN) (k:Nat) (point:List Int):Prop:=(oH j.bN j.b5 (dV j k)).2=0/\¬∃ r,zP (oH j.bN j.b5 (dV j k)).1 j.aU j.cT point r
noncomputable instance (j:dN) (k:Nat) (point:List Int):Decidable (aYT j k point):=Classical.propDecidable _
theorem aKY (l:List Int) (x:Int):((l++[x]).map λn=>[I n]).map (List.map Cell.v)=((l.map λn=>[I n]).map (List.map .v))++[[.v (I x)]]:=by simp
@[go_sem] def aGN:List Nat:=[0,1,2,3,6,7,8,9,11,13,14,15,16,29,36,37,38,39,49,50,51,52,57,66,67,68,69,104]
@[go_sem] def aVV:List Nat:=[3,34,45,61]
@[go_sem] def aVW:Marks:=λid=>match id with|1=>([11,12],(.op 0 (.op 1 (.op 2 (.op 3 (.op 4 (.op 5 (.op 6 (.op 7 (.op 8 (.op 9 (.op 10 (.op 11 (.op 12 (.op 13 .nil)))))))))))))),[])|20=>([3,8,17,22],(.op 0 (.op 1 (.op 2 (.op 3 (.op 4 (.op 5 (.op 6 (.op 7 (.op 9 (.op 10 (.op 8 (.op 11 (.op 12 (.op 13 (.op 14 (.op 15 (.op 16 (.op 20 (.op 21 (.op 17 (.op 18 (.op 19 (.op 22 (.op 23 (.op 24 (.op 25 (.op 26 .nil))))))))))))))))))))))))))),[])|_=>([],.nil,[])
theorem a7R {j:dN} (hj:j.ok) (hps:j.bN.s<=4194304) {k:Nat} (hk:k<j.aQ.length) (point:List Int) (hpt:(point.length:Int)=j.aU):dQ Tryz.prog 177 [.agg j.c,I k,ints point] (.bool (decide (aYT j k point))):=by
 obtain⟨t1,t2,t3,t4,t5,t6,t7,t8⟩:=aIU hj hk
 obtain⟨F,eF,hf,hF,ok⟩:=aGH hj
 obtain⟨F2,eF2,hO1,hO2,hO3,hO4⟩:=aGE hj.1 hf
 have hargs:=b1C hj hk
 have hrec:=bUW hj.1 hps j.b5 hf (dV j k) t2 (by have:=t3 F2 eF2;omega) t3
 have hok:=(aPB hj.1 j.b5 hf (dV j k) t2 t3).1
 rw[aK.aM]at hrec
 simp only[dN.aM]at hargs ⊢
 have hsim:=(aPB hj.1 j.b5 hf (dV j k) t2 t3).2
 have herr:=bBC j.bN 1 j.b5 ((dV j k).map λn=>[n])
 cases hX:aT7 j.bN j.b5 (dV j k)with
 |error c =>
  have hR:oH j.bN j.b5 (dV j k)=(⟨0,[],[],[]⟩,c):=by rw[oH,hX]
  have hc:¬c=0:=λe=>by
   rw[hX]at hsim
   cases hY:evF j.bN 1 j.b5 ((dV j k).map λn=>[n])with
   |ok q=>rw[hY]at hsim;exact hsim.elim
   |error d =>
    rw[hY]at hsim
    have h1:c=d:=hsim
    rcases herr d hY with h2|h2 <;> omega
  rw[hR]at hrec
  simp only[rJ.aM]at hrec
  refine dI 106 aGN aVV aVW Tryz.func177 λh=>?_
  simp -dsimp -implicitDefEqProofs only[go_sem,↓reduceIte,Tryz.f177]
  first|refine aH.mk (hargs) ?_|refine aE.mk (hargs) ?_|refine aH.b7 (hargs) ?_|refine aE.mk (bX.eA (hargs)) ?_
  simp -dsimp -implicitDefEqProofs only[go_sem,↓reduceIte,Tryz.f177]
  first|refine aH.mk (hrec) ?_|refine aE.mk (hrec) ?_|refine aH.b7 (hrec) ?_|refine aE.mk (bX.eA (hrec)) ?_
  simp -dsimp -implicitDefEqProofs only[go_sem,↓reduceIte,Tryz.f177]
  intro n hn
  refine⟨λ_=>⟨(decide_eq_false λz=>hc (by have:=z.1;rw[hR]at this;exact this)).symm,Heap.aW hn (Heap.aW hn (Heap.le_refl _))⟩,λq=>absurd q hc⟩
 |ok q =>
  obtain⟨⟨l,S⟩,t⟩:=q
  obtain⟨g1,g2,⟨g3,g4⟩,g5⟩:=hok _ _ hX
  simp only at g1 g2 g3 g4 g5
  unfold rD at g5
  have g6:=g1.cap
  have g7:=g1.tT
  have g8:=g1.len
  have hR:oH j.bN j.b5 (dV j k)=(⟨(dV j k).length,S.code,S.guards,l⟩,0):=by rw[oH,hX]
  have hu:aYT j k point↔¬∃ r,zP ⟨(dV j k).length,S.code,S.guards,l⟩ j.aU j.cT point r:=by rw[aYT,hR];simp
  rw[hR]at hrec
  simp only[rJ.aM]at hrec
  have l0:l[Int.toNat 0]?=some (l.getD 0 0):=fU a9N
  refine dI 106 aGN aVV aVW Tryz.func177 λh=>?_
  simp -dsimp -implicitDefEqProofs only[go_sem,↓reduceIte,Tryz.f177]
  first|refine aH.mk (hargs) ?_|refine aE.mk (hargs) ?_|refine aH.b7 (hargs) ?_|refine aE.mk (bX.eA (hargs)) ?_
  simp -dsimp -implicitDefEqProofs only[go_sem,↓reduceIte,Tryz.f177]
  first|refine aH.mk (hrec) ?_|refine aE.mk (hrec) ?_|refine aH.b7 (hrec) ?_|refine aE.mk (bX.eA (hrec)) ?_
  simp -dsimp -implicitDefEqProofs only[go_sem,↓reduceIte,Tryz.f177]
  intro n hn
  try simp -dsimp -implicitDefEqProofs only[go_sem,↓reduceIte,Tryz.f177,aF,l0]
  refine⟨by rw[g3,hO3];omega,by decide,by decide,λ_=>?_⟩
  generalize hh7:bT h n (.row 4 [[.v (I (dV j k).length),.v (cI 4 cO.c S.code),.v (cI 2 fK.c S.guards),.v (ints l)]])=h7
  have h7n:h7 n=some (.row 4 [[.v (I (dV j k).length),.v (cI 4 cO.c S.code),.v (cI 2 fK.c S.guards),.v (ints l)]]):=by rw[←hh7,bG]
  have aMN:h.le h7:=by rw[←hh7];exact Heap.aW hn (Heap.le_refl _)
  refine cY aGN aVV aVW (λx:Nat×List Int×Option Nat=>[(2,ints point),(3,.ip 5 [[cI 3 aX.c j.bN.aJ,I j.b5,I j.aU,cI 1 (λn=>[I n]) j.cT,cI 1 (λx=>[cI 1 (λn=>[I n]) x]) j.aQ]] 0 0),(7,.op n 4 0 0),(9,bIL x.2.1 x.2.2),(36,cI 2 fK.c S.guards),(37,I S.guards.length),(38,I x.1)]) (λx=>c7 h7 (.row 1 ((x.2.1.map λn=>[I n]).map (List.map .v))) x.2.2) (λx=>x.1<=S.guards.length/\x.2.1=xB (l.getD 0 0) (S.guards.take x.1)/\bIM h7 x.2.2) (λx=>S.guards.length-x.1) (0,[l.getD 0 0],none) ⟨by simp[dT,dB,bIL],Heap.le_refl _,iZ _,rfl,λm e=>by cases e⟩ ?_
  rintro⟨i,L,o⟩ ⟨hi,hL,ho⟩
  simp only at hi hL ho ⊢
  rcases cP i S.guards.length with hlt|hge
  ·have ei:S.guards[i]?=some S.guards[i]:=b6 hlt
   have hy:L++[S.guards[i].aOJ]=xB (l.getD 0 0) (S.guards.take (i+1)):=by
    rw[kP hlt,a7Q,hL]
   have hLl:L.length<=i+1:=by rw[hL,aVT,nX];omega
   cases o with
   |none =>
    simp -dsimp -implicitDefEqProofs only[go_sem,↓reduceIte,Tryz.f177,aMM,aN,hlt,ei,fK.aM]
    intro m9 z9
    refine⟨by decide,by decide,by decide,by omega,by omega,λb ⟨hb9,_,hb7⟩=>⟨(i+1,L++[S.guards[i].aOJ],some b),⟨by rw[wI,rL];rfl,by rw[IntWalk.i64_in _ aA];rfl⟩,?_,⟨by omega,hy,λq e=>by cases e;exact hb7⟩,by simp only;omega⟩⟩
    simp only[aL]
    rw[aKY]
    simp only[tA,lU,tP]at *
    exact(jM (by repeat'(first|exact gN _ _|refine jN bO8 ?_|refine fS oZ ?_)))
   |some m =>
    have hm:=ho m rfl
    simp -dsimp -implicitDefEqProofs only[go_sem,↓reduceIte,Tryz.f177,wI,aL,hlt,ei,fK.aM]
    intro m9 ⟨h9m,z9⟩
    obtain⟨aYP,aEP,aEO,bII⟩:=cE (show ¬m9=m from h9m)
    simp -dsimp -implicitDefEqProofs only[go_sem,↓reduceIte,Tryz.f177,aEO,aEP,aD]
    refine⟨by decide,by decide,by decide,fL _,by omega,by omega,λb ⟨hb9,_,hbm,hb7⟩=>⟨(i+1,L++[S.guards[i].aOJ],some b),⟨by rw[wI,rL];rfl,by rw[IntWalk.i64_in _ aA];rfl⟩,?_,⟨by omega,hy,λq e=>by cases e;exact hb7⟩,by simp only;omega⟩⟩
    simp only[aL]
    rw[aKY,gF aS]
    exact(jM (by repeat'(first|exact gN _ _|refine jN bO1 ?_|refine fS oZ ?_)))
  ·have hi':i=S.guards.length:=by omega
   subst hi'
   rw[eL]at hL
   have hgl:=aVT (l.getD 0 0) S.guards
   have hon:∀ (R:cF) (o:Option Nat),bIM h7 o->c7 h7 R o n=some (.row 4 [[.v (I (dV j k).length),.v (cI 4 cO.c S.code),.v (cI 2 fK.c S.guards),.v (ints l)]]):=λR o ho=>by
    cases o with
    |none=>exact h7n
    |some m=>rw[aL,aD _ _ _ _ (λe=>by have:=ho m rfl;rw[←e,h7n]at this;cases this)];exact h7n
   have xT:=hon (.row 1 ((L.map λn=>[I n]).map (List.map .v))) o ho
   simp -dsimp -implicitDefEqProofs only[go_sem,↓reduceIte,Tryz.f177,xT,cN,fP]
   intro _
   clear hi xT
   refine cY aGN aVV aVW (λx:Nat×List Int×Option Nat=>[(2,ints point),(3,.ip 5 [[cI 3 aX.c j.bN.aJ,I j.b5,I j.aU,cI 1 (λn=>[I n]) j.cT,cI 1 (λx=>[cI 1 (λn=>[I n]) x]) j.aQ]] 0 0),(7,.op n 4 0 0),(9,bIL x.2.1 x.2.2),(49,cI 4 cO.c S.code),(50,I S.code.length),(51,I x.1)]) (λx=>c7 h7 (.row 1 ((x.2.1.map λn=>[I n]).map (List.map .v))) x.2.2) (λx=>x.1<=S.code.length/\x.2.1=xB (l.getD 0 0) S.guards++aML (S.code.take x.1)/\bIM h7 x.2.2) (λx=>S.code.length-x.1) (0,L,o) ⟨by simp[dT,dB],Heap.le_refl _,iZ _,by simp only[bKJ];rw[hL];simp[aML],ho⟩ ?_
   rintro⟨i,L,o⟩ ⟨hi,hL,ho⟩
   simp only at hi hL ho ⊢
   rcases cP i S.code.length with hlt|hge
   ·have ei:S.code[i]?=some S.code[i]:=b6 hlt
    have hdl:=a2M (S.code.take i)
    have hLl:L.length<=i+S.guards.length+1:=by rw[hL,rL,hgl];rw[nX]at hdl;omega
    have hy6:S.code[i].vN=6->L++[S.code[i].fB]=xB (l.getD 0 0) S.guards++aML (S.code.take (i+1)):=λh6=>by
     rw[kP hlt,aVU,if_pos h6,hL,qT]
    have hn6:¬S.code[i].vN=6->L=xB (l.getD 0 0) S.guards++aML (S.code.take (i+1)):=λh6=>by
     rw[kP hlt,aVU,if_neg h6,hL]
    cases o with
    |none =>
     simp -dsimp -implicitDefEqProofs only[go_sem,↓reduceIte,Tryz.f177,aMM,aN,hlt,ei,cO.aM]
     intro m9 z9
     refine⟨λh6=>?_,λh6=>?_⟩
     ·have hy:=hy6 h6
      refine⟨by decide,by decide,by decide,by omega,by omega,λb ⟨hb9,_,hb7⟩=>⟨(i+1,L++[S.code[i].fB],some b),⟨by rw[wI,rL];rfl,by rw[IntWalk.i64_in _ aA];rfl⟩,?_,⟨by omega,hy,λq e=>by cases e;exact hb7⟩,by simp only;omega⟩⟩
      simp only[aL]
      rw[aKY]
      simp only[tA,lU,tP]at *
      exact(jM (by repeat'(first|exact gN _ _|refine jN bO8 ?_|refine fS oZ ?_)))
     ·exact⟨(i+1,L,none),⟨rfl,by rw[IntWalk.i64_in _ aA];rfl⟩,Heap.aW z9 (Heap.aW z9 (Heap.le_refl _)),⟨by omega,hn6 h6,λq e=>by cases e⟩,by simp only;omega⟩
    |some m =>
     have hm:=ho m rfl
     simp -dsimp -implicitDefEqProofs only[go_sem,↓reduceIte,Tryz.f177,wI,aL,hlt,ei,cO.aM]
     intro m9 ⟨h9m,z9⟩
     obtain⟨aYP,aEP,aEO,bII⟩:=cE (show ¬m9=m from h9m)
     simp -dsimp -implicitDefEqProofs only[go_sem,↓reduceIte,Tryz.f177,aEO,aEP,aD]
     refine⟨λh6=>?_,λh6=>?_⟩
     ·have hy:=hy6 h6
      refine⟨by decide,by decide,by decide,fL _,by omega,by omega,λb ⟨hb9,_,hbm,hb7⟩=>⟨(i+1,L++[S.code[i].fB],some b),⟨by rw[wI,rL];rfl,by rw[IntWalk.i64_in _ aA];rfl⟩,?_,⟨by omega,hy,λq e=>by cases e;exact hb7⟩,by simp only;omega⟩⟩
      simp only[aL]
      rw[aKY,gF aS]
      exact(jM (by repeat'(first|exact gN _ _|refine jN bO1 ?_|refine fS oZ ?_)))
     ·exact⟨(i+1,L,some m),⟨rfl,by rw[IntWalk.i64_in _ aA];rfl⟩,(jM (by repeat'(first|exact gN _ _|refine jN (by simp only[fN,↓reduceIte,eq_self,if_true,z9,aEO,aEP]) ?_|refine fS oZ ?_))),⟨by omega,hn6 h6,ho⟩,by simp only;omega⟩
   ·have hi':i=S.code.length:=by omega
    subst hi'
    rw[eL]at hL
    have hdl:=a2M S.code
    have hLl:L.length<=S.code.length+S.guards.length+1:=by rw[hL,rL,hgl];omega
    have hrange:∀ x∈L,0<=x/\x<(S.code.length:Int):=λx hx=>by
     rw[hL,xB]at hx
     rcases pH.1 hx with hx|hx
     ·rcases pH.1 hx with hx|hx
      ·rw[rG.1 hx,jC,b6 a9N]
       have:=g4 _ (dG (h:=(by rw[g3,hO3];omega:0<l.length)))
       unfold qQ at this
       rw[g8];exact this
      ·obtain⟨gg,hgg,rfl⟩:=vZ.1 hx
       rw[g8];exact g1.gds gg hgg
     ·obtain⟨cc,hcc,rfl⟩:=vZ.1 hx
      obtain⟨h1,h2⟩:=a4B.1 hcc
      obtain⟨q,hq,rfl⟩:=aM4.1 h1
      have h3:=g1.ins q _ (b6 hq)
      have h4:S.code[q].vN=6:=by simpa using h2
      unfold kH at h3
      omega
    have hneed:=needed ⟨(dV j k).length,S.code,S.guards,l⟩ L (by simp only;omega) aA hrange g1.ins
    have hends:L=qR ⟨(dV j k).length,S.code,S.guards,l⟩:=hL
    rw[hends]at hneed
    rw[←hends]at hneed
    simp only[rJ.aM]at hneed
    have hnl:(vX S.code L).length=S.code.length:=aVS _ _
    have xT:=hon (.row 1 ((L.map λn=>[I n]).map (List.map .v))) o ho
    simp -dsimp -implicitDefEqProofs only[go_sem,↓reduceIte,Tryz.f177,xT,cN,fP]
    cases o with
    |none =>
     rw[aMM,aN]
     refine aH.mk (hneed.sub (.cons (.refl _) (.cons (Sub.loose _ _ _) .nil))) ?_
     simp -dsimp -implicitDefEqProofs only[go_sem,↓reduceIte,Tryz.f177,h7n]
     intro _
     have h9n:=h7n
     have a7S:=aMN
     generalize h7=H9 at *
     have hz9:∀ {q:Nat},H9 q=none->h q=none:=λ{q} e=>by
      rcases a7S q with h1|h1
      ·exact h1
      ·rw[h1,e]
     refine cY aGN aVV aVW (λi:Nat=>[(2,ints point),(3,.ip 5 [[cI 3 aX.c j.bN.aJ,I j.b5,I j.aU,cI 1 (λn=>[I n]) j.cT,cI 1 (λx=>[cI 1 (λn=>[I n]) x]) j.aQ]] 0 0),(7,.op n 4 0 0),(66,cI 1 (λb=>[.bool b]) (vX S.code L)),(67,I (vX S.code L).length),(68,I i)]) (λ_=>H9) (λi=>i<=S.code.length/\∀ r,r<i->¬zP ⟨(dV j k).length,S.code,S.guards,l⟩ j.aU j.cT point r) (λi=>S.code.length-i) 0 ⟨by simp[dT,dB],Heap.le_refl _,iZ _,λr q=>absurd q (aZV r)⟩ ?_
     rintro i ⟨hi,hbad⟩
     rcases cP i S.code.length with hlt|hge
     ·have ei:S.code[i]?=some S.code[i]:=b6 hlt
      have en:=aYS (b:=vX S.code L) (k:=i) aA
      have hins:=g1.ins i _ ei
      have nx:¬zP ⟨(dV j k).length,S.code,S.guards,l⟩ j.aU j.cT point i->∀ r,r<i+1->¬zP ⟨(dV j k).length,S.code,S.guards,l⟩ j.aU j.cT point r:=λq r hr=>by
       rcases aEE.1 hr with hr|rfl
       ·exact hbad r hr
       ·exact q
      have bi:zP ⟨(dV j k).length,S.code,S.guards,l⟩ j.aU j.cT point i↔((vX S.code L).getD i false=true/\S.code[i].vN=1/\S.code[i].cC<j.aU/\¬j.cT.getD S.code[i].cC.toNat 0=point.getD S.code[i].cC.toNat 0):=by
       rw[zP]
       simp only
       rw[←hends,en,ei]
       simp
      by_cases hq:S.code[i].vN=1/\S.code[i].cC<j.aU
      ·have hnum:0<=S.code[i].cC:=by unfold kH at hins;omega
       have hpl:(j.cT.length:Int)=j.aU:=ok.2.1.1
       have pj:j.cT[S.code[i].cC.toNat]?=some (j.cT.getD S.code[i].cC.toNat 0):=fU aA
       have pp:point[S.code[i].cC.toNat]?=some (point.getD S.code[i].cC.toNat 0):=fU aA
       simp -dsimp -implicitDefEqProofs only[go_sem,↓reduceIte,Tryz.f177,hnl,hlt,ei,en,h9n,cO.aM,pj,pp]
       intro m9 z9
       refine⟨λhb=>⟨λh1=>⟨λhs=>⟨hnum,by omega,hnum,by omega,λhd=>⟨(decide_eq_false λz=>?_).symm,Heap.aW (hz9 z9) (Heap.aW (hz9 z9) a7S)⟩,λhd=>?_⟩,λhs=>absurd hq.2 hs⟩,λh1=>absurd hq.1 h1⟩,λhb=>?_⟩
       ·exact(hu.1 z) ⟨i,bi.2 ⟨hb,h1,hs,hd⟩⟩
       ·exact⟨i+1,by rw[IntWalk.i64_in _ aA];rfl,Heap.aW z9 (Heap.aW z9 (Heap.le_refl _)),⟨hlt,nx λz=>(bi.1 z).2.2.2 hd⟩,by omega⟩
       ·exact⟨i+1,by rw[IntWalk.i64_in _ aA];rfl,Heap.aW z9 (Heap.aW z9 (Heap.le_refl _)),⟨hlt,nx λz=>by have:=(bi.1 z).1;rw[hb]at this;cases this⟩,by omega⟩
      ·simp -dsimp -implicitDefEqProofs only[go_sem,↓reduceIte,Tryz.f177,hnl,hlt,ei,en,h9n,cO.aM]
       intro m9 z9
       have hno:¬zP ⟨(dV j k).length,S.code,S.guards,l⟩ j.aU j.cT point i:=λz=>hq ⟨(bi.1 z).2.1,(bi.1 z).2.2.1⟩
       refine⟨λhb=>⟨λh1=>⟨λhs=>absurd ⟨h1,hs⟩ hq,λhs=>?_⟩,λh1=>?_⟩,λhb=>?_⟩
       all_goals exact⟨i+1,by rw[IntWalk.i64_in _ aA];rfl,Heap.aW z9 (Heap.aW z9 (Heap.le_refl _)),⟨hlt,nx hno⟩,by omega⟩
     ·have hi':i=S.code.length:=by omega
      subst hi'
      simp -dsimp -implicitDefEqProofs only[go_sem,↓reduceIte,Tryz.f177,hnl,cN,fP]
      refine⟨(decide_eq_true (hu.2 λ⟨r,hr⟩=>?_)).symm,a7S⟩
      obtain⟨_,c,hc,_⟩:=hr
      exact hbad r (mU.1 hc).1 ⟨by assumption,c,hc,by assumption⟩
    |some m =>
     have hm:=ho m rfl
     rw[wI,aL]
     refine aH.b08 (es:=L.map λn=>[I n]) hneed (by simp[lK,lJ]) (by simp[nZ,aC.gU,gF]) ?_
     simp -dsimp -implicitDefEqProofs only[go_sem,↓reduceIte,Tryz.f177,h7n]
     intro _
     have dnm:¬n=m:=λe=>by rw[←e,h7n]at hm;cases hm
     have h9n:(bT h7 m .gone) n=some (.row 4 [[.v (I (dV j k).length),.v (cI 4 cO.c S.code),.v (cI 2 fK.c S.guards),.v (ints l)]]):=by rw[aD _ _ _ _ dnm];exact h7n
     have hmh:h m=none:=by
      have:=aMN m
      rcases this with e|e
      ·exact e
      ·rw[hm]at e;exact e
     have a7S:h.le (bT h7 m .gone):=Heap.aW hmh aMN
     generalize bT h7 m .gone=H9 at *
     have hz9:∀ {q:Nat},H9 q=none->h q=none:=λ{q} e=>by
      rcases a7S q with h1|h1
      ·exact h1
      ·rw[h1,e]
     refine cY aGN aVV aVW (λi:Nat=>[(2,ints point),(3,.ip 5 [[cI 3 aX.c j.bN.aJ,I j.b5,I j.aU,cI 1 (λn=>[I n]) j.cT,cI 1 (λx=>[cI 1 (λn=>[I n]) x]) j.aQ]] 0 0),(7,.op n 4 0 0),(66,cI 1 (λb=>[.bool b]) (vX S.code L)),(67,I (vX S.code L).length),(68,I i)]) (λ_=>H9) (λi=>i<=S.code.length/\∀ r,r<i->¬zP ⟨(dV j k).length,S.code,S.guards,l⟩ j.aU j.cT point r) (λi=>S.code.length-i) 0 ⟨by simp[dT,dB],Heap.le_refl _,iZ _,λr q=>absurd q (aZV r)⟩ ?_
     rintro i ⟨hi,hbad⟩
     rcases cP i S.code.length with hlt|hge
     ·have ei:S.code[i]?=some S.code[i]:=b6 hlt
      have en:=aYS (b:=vX S.code L) (k:=i) aA
      have hins:=g1.ins i _ ei
      have nx:¬zP ⟨(dV j k).length,S.code,S.guards,l⟩ j.aU j.cT point i->∀ r,r<i+1->¬zP ⟨(dV j k).length,S.code,S.guards,l⟩ j.aU j.cT point r:=λq r hr=>by
       rcases aEE.1 hr with hr|rfl
       ·exact hbad r hr
       ·exact q
      have bi:zP ⟨(dV j k).length,S.code,S.guards,l⟩ j.aU j.cT point i↔((vX S.code L).getD i false=true/\S.code[i].vN=1/\S.code[i].cC<j.aU/\¬j.cT.getD S.code[i].cC.toNat 0=point.getD S.code[i].cC.toNat 0):=by
       rw[zP]
       simp only
       rw[←hends,en,ei]
       simp
      by_cases hq:S.code[i].vN=1/\S.code[i].cC<j.aU
      ·have hnum:0<=S.code[i].cC:=by unfold kH at hins;omega
       have hpl:(j.cT.length:Int)=j.aU:=ok.2.1.1
       have pj:j.cT[S.code[i].cC.toNat]?=some (j.cT.getD S.code[i].cC.toNat 0):=fU aA
       have pp:point[S.code[i].cC.toNat]?=some (point.getD S.code[i].cC.toNat 0):=fU aA
       simp -dsimp -implicitDefEqProofs only[go_sem,↓reduceIte,Tryz.f177,hnl,hlt,ei,en,h9n,cO.aM,pj,pp]
       intro m9 z9
       refine⟨λhb=>⟨λh1=>⟨λhs=>⟨hnum,by omega,hnum,by omega,λhd=>⟨(decide_eq_false λz=>?_).symm,Heap.aW (hz9 z9) (Heap.aW (hz9 z9) a7S)⟩,λhd=>?_⟩,λhs=>absurd hq.2 hs⟩,λh1=>absurd hq.1 h1⟩,λhb=>?_⟩
       ·exact(hu.1 z) ⟨i,bi.2 ⟨hb,h1,hs,hd⟩⟩
       ·exact⟨i+1,by rw[IntWalk.i64_in _ aA];rfl,Heap.aW z9 (Heap.aW z9 (Heap.le_refl _)),⟨hlt,nx λz=>(bi.1 z).2.2.2 hd⟩,by omega⟩
       ·exact⟨i+1,by rw[IntWalk.i64_in _ aA];rfl,Heap.aW z9 (Heap.aW z9 (Heap.le_refl _)),⟨hlt,nx λz=>by have:=(bi.1 z).1;rw[hb]at this;cases this⟩,by omega⟩
      ·simp -dsimp -implicitDefEqProofs only[go_sem,↓reduceIte,Tryz.f177,hnl,hlt,ei,en,h9n,cO.aM]
       intro m9 z9
       have hno:¬zP ⟨(dV j k).length,S.code,S.guards,l⟩ j.aU j.cT point i:=λz=>hq ⟨(bi.1 z).2.1,(bi.1 z).2.2.1⟩
       refine⟨λhb=>⟨λh1=>⟨λhs=>absurd ⟨h1,hs⟩ hq,λhs=>?_⟩,λh1=>?_⟩,λhb=>?_⟩
       all_goals exact⟨i+1,by rw[IntWalk.i64_in _ aA];rfl,Heap.aW z9 (Heap.aW z9 (Heap.le_refl _)),⟨hlt,nx hno⟩,by omega⟩
     ·have hi':i=S.code.length:=by omega
      subst hi'
      simp -dsimp -implicitDefEqProofs only[go_sem,↓reduceIte,Tryz.f177,hnl,cN,fP]
      refine⟨(decide_eq_true (hu.2 λ⟨r,hr⟩=>?_)).symm,a7S⟩
      obtain⟨_,c,hc,_⟩:=hr
      exact hbad r (mU.1 hc).1 ⟨by assumption,c,hc,by assumption⟩
end Go.Hl

/-
  Contracts of functions and laws of the layer over the walk.
-/
import Derived.Test.YtoomflalicffnaaGreatVvC
import Derived.Test.YtoomflalicffnaaGreatHlD
import Derived.Test.YtoomflalicffnaaGreatVvA
import Derived.Lib.ItoaNum
import Derived.Test.YtoomflalicffnaaGreatVvB
namespace Go.Hl
open Go.Proofs
set_option linter.unusedVariables false
set_option linter.unusedSimpArgs false
def opW (k:Int) (a b:List Int):List Int:=if k=3 then jJ a b else if k=4 then lN a b else if k=5 then mulL a b else if k=7 then gW a 1000002 else fZ a b
def opS (sz:Nat) (args rs:List (List Int)) (c:bH):List Int:=if c.gS=1 then args.getD c.bB.toNat []else if c.gS=2 then cS c.bB sz else opW c.gS (rs.getD c.fA.toNat []) (rs.getD c.fB.toNat [])
def iD (sz:Nat) (args:List (List Int)) (code:List bH):Nat->List (List Int)
 |0=>[]
 |k+1=>iD sz args code k++[opS sz args (iD sz args code k) (code.getD k ⟨0,0,0,0⟩)]
theorem lC (sz:Nat) (args:List (List Int)) (code:List bH):∀ k,(iD sz args code k).length=k
 |0=>rfl
 |k+1=>by rw[iD,gD,lC sz args code k];rfl
theorem xJ (sz:Nat) (args:List (List Int)) (code:List bH) {r k:Nat} (hr:r<k):∀ n,k<=n->(iD sz args code n).getD r []=(iD sz args code k).getD r []
 |0,h=>by omega
 |n+1,h=>by
  rcases bT n k with h1|h1
  ·have:k=n+1:=by omega
   rw[this]
  ·rw[←xJ sz args code hr n h1,iD,gG,tU (by rw[lC];omega),gG]
def lR (sz:Nat) (args:List (List Int)) (code:List bH) (r:Nat):List Int:=(iD sz args code code.length).getD r []
theorem aUQ {sz:Nat} {args:List (List Int)} {code:List bH} {k:Nat} {c:bH} (e:code[k]?=some c):lR sz args code k=opS sz args (iD sz args code k) c:=by
 have h:=(iO.1 e).1
 rw[lR,xJ sz args code (wN k) code.length h,iD,gG,v8 (by rw[lC];exact bX _),lC,sU,gG,e];rfl
theorem aUR {sz:Nat} {args:List (List Int)} {code:List bH} {k:Nat} {c:bH} (e:code[k]?=some c) (h1:c.gS=1):lR sz args code k=args.getD c.bB.toNat []:=by rw[aUQ e,opS,if_pos h1]
theorem aOR {sz:Nat} {args:List (List Int)} {code:List bH} {k:Nat} {c:bH} (e:code[k]?=some c) (h1:c.gS=2):lR sz args code k=cS c.bB sz:=by rw[aUQ e,opS,if_neg aA,if_pos h1]
theorem aUS {sz:Nat} {args:List (List Int)} {code:List bH} {inp:Int} {k:Nat} {c:bH} (e:code[k]?=some c) (hi:bZ inp k c) (h1:¬c.gS=1) (h2:¬c.gS=2):lR sz args code k=opW c.gS (lR sz args code c.fA.toNat) (lR sz args code c.fB.toNat):=by
 have h:=(iO.1 e).1
 unfold bZ at hi
 rw[aUQ e,opS,if_neg h1,if_neg h2,lR,lR,xJ sz args code (k:=k) aA code.length aA,xJ sz args code (k:=k) aA code.length aA]
theorem a9J {sz:Nat} (k:Int) {a b:List Int} (ha:bJ sz a) (hb:bJ sz b):bJ sz (opW k a b):=by
 unfold opW
 repeat' split
 ·exact mT ha hb
 ·exact mU ha hb
 ·exact c6 _ ha
 ·exact eJ _ ha
 ·exact k8 _ ha
theorem s9 {sz:Nat} {args:List (List Int)} {code:List bH} {inp:Int} (hi:∀ i c,code[i]?=some c->bZ inp i c) (ha:∀ s∈args,bJ sz s) (hl:(args.length:Int)=inp) (k:Nat) (hk:k<code.length):bJ sz (lR sz args code k):=by
 induction k using Nat.strongRecOn with
 |ind k ih =>
  have e:=eY hk
  have hc:=hi k _ e
  generalize code[k]=c at e hc
  by_cases h1:c.gS=1
  ·rw[aUR e h1]
   unfold bZ at hc
   exact xA ha aA
  by_cases h2:c.gS=2
  ·rw[aOR e h2]
   have hn:iW c.bB:=by rcases hc with q|q|q|q <;> first|exact q.2.2.2|(have:=q.1;omega)
   exact fS hn
  ·rw[aUS e hc h1 h2]
   unfold bZ at hc
   exact a9J _ (ih _ aA aA) (ih _ aA aA)
theorem bGY {sz:Nat} (hsz:1<=sz) {k:Int} {a b:List Int} (ha:a.length=sz) (hb:b.length=sz) {v:Int} (h:opV k (a.getD 0 0) (b.getD 0 0)=some v):(opW k a b).getD 0 0=v:=by
 obtain⟨x,a',rfl⟩:∃ x a',a=x::a':=by
  cases a with
  |nil=>simp at ha;omega
  |cons x a'=>exact⟨x,a',rfl⟩
 obtain⟨y,b',rfl⟩:∃ x a',b=x::a':=by
  cases b with
  |nil=>simp at hb;omega
  |cons x a'=>exact⟨x,a',rfl⟩
 have g:∀ (z:Int) (l:List Int),(z::l).getD 0 0=z:=λ_ _=>rfl
 rw[g,g]at h
 unfold opV at h
 unfold opW
 by_cases h3:k=3
 ·rw[if_pos h3]at h ⊢
  rw[←gH h];rfl
 rw[if_neg h3]at h ⊢
 by_cases h4:k=4
 ·rw[if_pos h4]at h ⊢
  rw[←gH h]
  show(x+y*1000002%1000003)%1000003=_
  omega
 rw[if_neg h4]at h ⊢
 by_cases h5:k=5
 ·rw[if_pos h5]at h ⊢
  obtain⟨t,e⟩:=aAW x a' (y::b')
  rw[e,←gH h];rfl
 rw[if_neg h5]at h ⊢
 by_cases h7:k=7
 ·rw[if_pos h7]at h ⊢
  rw[←gH h]
  show x*1000002%1000003=_
  omega
 rw[if_neg h7]at h ⊢
 by_cases hy:y=0
 ·rw[if_pos hy]at h;cases h
 ·rw[if_neg hy]at h
  obtain⟨t,e⟩:=w9 x a' (y::b') a'.length
  rw[fZ,tT,e,←gH h];rfl
theorem then_ok {α β:Type} {x:Out α} {f:α->Nat->Out β} {w:β} {u:Nat} (h:x.andThen f=.ok (w,u)):∃ v t,x=.ok (v,t)/\f v t=.ok (w,u):=by
 cases x with
 |ok p=>obtain⟨v,t⟩:=p;exact⟨v,t,rfl,h⟩
 |error c=>cases h
structure a47 (inp:Int) (F:dO) (N:Nat->Prop):Prop where
 ins:∀ i c,F.code[i]?=some c->bZ inp i c
 ops:∀ (i:Nat) (c:bH),F.code[i]?=some c->N i->(3<=c.gS/\c.gS<=6->N c.fA.toNat/\N c.fB.toNat)/\(c.gS=7->N c.fA.toNat)
 gds:∀ g∈F.guards,N g.aLG.toNat
 div:∀ (i:Nat) (c:bH),F.code[i]?=some c->c.gS=6->N c.fB.toNat
def HD (rg:Nat->List Int) (N:Nat->Prop) (S:dO):Prop:=(∀ i,i<S.fR.length->N i->(rg i).getD 0 0=S.fR.getD i 0)/\∀ (i:Nat) (c:bH),S.code[i]?=some c->c.gS=6->¬S.val c.fB=0
def a04 (rg:Nat->List Int) (F:dO) (N:Nat->Prop) (X:Out (Int×dO)) (Y:Out (List Int)):Prop:=∀ r S' u,X=.ok ((r,S'),u)->S'.ext F->Y=.ok (rg r.toNat,u)/\HD rg N S'
def a9K (rg:Nat->List Int) (F:dO) (N:Nat->Prop) (X:Out (List Int×dO)) (Y:Out (List (List Int))):Prop:=∀ r S' u,X=.ok ((r,S'),u)->S'.ext F->Y=.ok (r.map λk=>rg k.toNat,u)/\HD rg N S'
theorem xK {rg:Nat->List Int} {F:dO} {N:Nat->Prop} {ev:Nat->aD->dO->Out (Int×dO)} {ev':Nat->aD->Out (List Int)} {inp:Int}:∀ (l:List aD) (t:Nat) (S:dO),Good inp S t->t<=3000->HD rg N S->(∀ e∈l,∀ u S',Good inp S' u->S.ext S'->pM S t S' u->vO (aJI inp S' u) (ev u e S')/\(HD rg N S'->a04 rg F N (ev u e S') (ev' u e)))->a9K rg F N (rI ev l t S) (m6 ev' l t)
 | [],t,S,hg,ht,hd,_=>λr S' u h _=>by
  cases h
  exact⟨rfl,hd⟩
 |e::l,t,S,hg,ht,hd,h=>λr S' u hx he=>by
  obtain⟨h1,h2⟩:=h e zD t S hg S.uO (.refl ht)
  rw[rI]at hx
  obtain⟨⟨r1,S1⟩,t1,e1,hx⟩:=then_ok hx
  obtain⟨q1,q2,q3,q4⟩:=h1 _ _ e1
  simp only at hx q1 q2 q3 q4
  obtain⟨⟨rs,S2⟩,t2,e2,hx⟩:=then_ok hx
  cases hx
  have hl:=λx hx u' S' a b c=>h x (v9 _ hx) u' S' a (q2.trans b) (q4.trans c)
  have hk:=lH l t1 S1 q1 q4.2.2.2 (λx hx u' S' a b c=>(hl x hx u' S' a b c).1) _ _ e2
  obtain⟨a1,a2⟩:=h2 hd r1 S1 t1 e1 (hk.2.1.trans he)
  obtain⟨b1,b2⟩:=xK l t1 S1 q1 q4.2.2.2 a2 hl rs _ _ e2 he
  rw[m6,a1,Out.andThen_ok,b1]
  exact⟨rfl,b2⟩
theorem aMJ {rg:Nat->List Int} {F:dO} {N:Nat->Prop} {f:List Int->Nat->dO->Out (List Int×dO)} {g:List (List Int)->Nat->Out (List (List Int))} {inp:Int} {m:Nat} (h:∀ vs t S,Good inp S t->(vs.length=m/\∀ x∈vs,qS S x)->t<=3000->vO (aBO inp S t m) (f vs t S)/\(HD rg N S->a9K rg F N (f vs t S) (g (vs.map λk=>rg k.toNat) t))) :
  ∀ (n:Nat) (vs:List Int) (t:Nat) (S:dO),Good inp S t->(vs.length=m/\∀ x∈vs,qS S x)->t<=3000->HD rg N S->a9K rg F N (sS f n vs t S) (sR g n (vs.map λk=>rg k.toNat) t)
 |0,vs,t,S,hg,hv,ht,hd=>λr S' u hx _=>by
  cases hx
  exact⟨rfl,hd⟩
 |n+1,vs,t,S,hg,hv,ht,hd=>λr S' u hx he=>by
  obtain⟨h1,h2⟩:=h vs t S hg hv ht
  rw[sS]at hx
  obtain⟨⟨r1,S1⟩,t1,e1,hx⟩:=then_ok hx
  obtain⟨q1,q2,q3,q4⟩:=h1 _ _ e1
  simp only at hx q1 q2 q3 q4
  have hk:=xD (λvs t S a b c=>(h vs t S a b c).1) n r1 t1 S1 q1 q3 q4.2.2.2 _ _ hx
  obtain⟨a1,a2⟩:=h2 hd r1 S1 t1 e1 (hk.2.1.trans he)
  obtain⟨b1,b2⟩:=aMJ h n r1 t1 S1 q1 q3 q4.2.2.2 a2 r S' u hx he
  rw[sR,a1,Out.andThen_ok,b1]
  exact⟨rfl,b2⟩
theorem a48 {S F:dO} {inp:Int} {t:Nat} {c:bH} {v:Int} (hg:Good inp S t) (he:(S.put c v).ext F):F.code[S.fR.length]?=some c:=by
 obtain⟨x,hx⟩:=he.1
 rw[←hx,dO.put,aNB,v8 (by rw[hg.len];exact bX _),hg.len,sU];rfl
theorem HD.put {rg:Nat->List Int} {N:Nat->Prop} {S:dO} (h:HD rg N S) {inp:Int} {t:Nat} (hg:Good inp S t) {c:bH} {v:Int} (hv:N S.fR.length->(rg S.fR.length).getD 0 0=v) (hz:c.gS=6->¬S.val c.fB=0/\qS S c.fB):HD rg N (S.put c v):=by
 refine⟨λi hi hn=>?_,λi d hd h6=>?_⟩
 ·rw[dO.put,gD,nA]at hi
  show _=(S.fR++[v]).getD i 0
  rw[gG (l:=S.fR++[v])]
  rcases bT i S.fR.length with h1|h1
  ·rw[tU h1,←gG];exact h.1 i h1 hn
  ·obtain rfl:i=S.fR.length:=by omega
   rw[v8 (bX _),sU];exact hv hn
 ·have hx:=S.aHC c v
  rcases bT i S.code.length with h1|h1
  ·rw[dO.put,tU h1]at hd
   have hin:=hg.ins i d hd
   have hl:=hg.len
   unfold bZ at hin
   rw[hx.val aA aA]
   exact h.2 i d hd h6
  ·rw[dO.put,v8 h1]at hd
   obtain⟨h2,h3⟩:=iO.1 hd
   simp at h2 h3
   subst h3
   rw[hx.val (hz h6).2.1 (hz h6).2.2]
   exact(hz h6).1
theorem uP {rg:Nat->List Int} {l:List Int} {i:Nat} (hi:i<l.length):(l.map λk=>rg k.toNat).getD i []=rg (l.getD i 0).toNat:=by
 simp[gG,eY hi]
theorem a9L {sz:Nat} (hsz:1<=sz) {args:List (List Int)} {inp:Int} {F:dO} {N:Nat->Prop} (C:a47 inp F N) (ha:∀ s∈args,bJ sz s) (hl:(args.length:Int)=inp) {k:Int} {vs:List Int} {S:dO} {t m:Nat} (hk:k=3∨k=4∨k=5∨k=6∨k=7) (hm:vs.length=m/\∀ x∈vs,qS S x) (hm1:1<=m) (hm2:¬k=7->2<=m) (hg:Good inp S t) (hd:HD (lR sz args F.code) N S):a04 (lR sz args F.code) F N (opR k vs S t) (opE k (vs.map λk=>lR sz args F.code k.toNat) t):=λr S' u hx he=>by
 have at_:∀ i,i<m->qS S (vs.getD i 0):=λi hi=>by
  rw[gG,eY aA]
  exact hm.2 _ (kM _)
 unfold opR at hx
 split at hx
 ·cases hx
 rename_i v hv
 cases hx
 have ec:=a48 hg he
 have hin:=C.ins _ _ ec
 have hrs:=λi (hi:i<F.code.length)=>s9 (sz:=sz) C.ins ha hl i hi
 have hF:S.fR.length<F.code.length:=(iO.1 ec).1
 have e0:=aUS (sz:=sz) (args:=args) ec hin (by simp only;omega) (by simp only;omega)
 simp only at e0
 have i0:=at_ 0 aA
 have iB:0<=opB k vs/\opB k vs<S.fR.length:=by
  unfold opB
  split
  ·unfold qS at i0;omega
  ·rename_i h7
   exact at_ 1 (hm2 h7)
 have s0:=hrs (vs.getD 0 0).toNat (by unfold qS at i0;omega)
 have s1:=hrs (opB k vs).toNat aA
 have hN:N S.fR.length->N (vs.getD 0 0).toNat/\(¬k=7->N (opB k vs).toNat):=λhn=>by
  have ho:=C.ops _ _ ec hn
  simp only at ho
  by_cases h7:k=7
  ·exact⟨ho.2 h7,λq=>absurd h7 q⟩
  ·have h36:=ho.1 aA
   exact⟨h36.1,λ_=>h36.2⟩
 have hd0:∀ x:Int,0<=x/\x<S.fR.length->N x.toNat->(lR sz args F.code x.toNat).getD 0 0=S.val x:=λx hx hn=>hd.1 x.toNat aA hn
 have hzz:k=6->¬S.val (opB k vs)=0:=λq q2=>by
  rw[q2,q,opV,if_neg bO,if_neg bO,if_neg bO,if_neg bO,if_pos rfl]at hv
  cases hv
 refine⟨?_,hd.put hg (λhn=>?_) (λq=>⟨hzz q,iB⟩)⟩
 ·rw[tX,e0]
  have g0:=uP (rg:=lR sz args F.code) (l:=vs) (i:=0) aA
  unfold opE opW
  rcases hk with rfl|rfl|rfl|rfl|rfl
  all_goals simp only[reduceCtorEq,if_true,if_false,Int.reduceEq]
  ·rw[g0,uP (rg:=lR sz args F.code) (i:=1) aWP];rfl
  ·rw[g0,uP (rg:=lR sz args F.code) (i:=1) aWP];rfl
  ·rw[g0,uP (rg:=lR sz args F.code) (i:=1) aWP];rfl
  ·have hdv:=C.div _ _ ec rfl
   have e6:=hd0 _ iB hdv
   rw[show opB 6 vs=vs.getD 1 0 from rfl]at e6
   rw[g0,uP (rg:=lR sz args F.code) (i:=1) aWP,e6]
   rw[show opB 6 vs=vs.getD 1 0 from rfl]at hv
   have hz:¬S.val (vs.getD 1 0)=0:=λq=>by
    rw[opV,if_neg bO,if_neg bO,if_neg bO,if_neg bO,if_pos q]at hv
    cases hv
   rw[if_neg hz];rfl
  ·rw[g0]
 ·obtain⟨n0,n1⟩:=hN hn
  rw[e0]
  refine bGY hsz s0.1 s1.1 ?_
  rw[hd0 _ i0 n0]
  by_cases h7:k=7
  ·subst h7
   rw[←hv];rfl
  ·rw[hd0 _ iB (n1 h7)];exact hv
theorem aSD {p:aG} (hp:p.ok) {sz:Nat} (hsz:1<=sz) {args:List (List Int)} {inp:Int} {F:dO} {N:Nat->Prop} (C:a47 inp F N) (ha:∀ s∈args,bJ sz s) (hl:(args.length:Int)=inp):∀ (n t:Nat) (e:aD) (env:List Int) (S:dO) (funcs:Int),e.ok p funcs env.length->funcs<=p.aK.length->Good inp S t->t<=3000->(∀ x∈env,qS S x)->HD (lR sz args F.code) N S->a04 (lR sz args F.code) F N (fD p n t e env S) (kU p sz n t e (env.map λk=>lR sz args F.code k.toNat))
 |0,t,e,env,S,funcs,_,_,_,_,_,_=>λr S' u hx _=>by rw[fD]at hx;cases hx
 |n+1,t,e,env,S,funcs,hok,hf,hg,ht,henv,hd=>by
  have ih:=aSD hp hsz C ha hl n
  have io:=vP hp (inp:=inp) n
  have hnode:=((aD.eI _ _ _ _).1 hok).1
  by_cases h3:t=3000
  ·intro r S' u hx _
   rw[fD,if_pos h3]at hx;cases hx
  have pK:=hg.vN (qV t)
  have hcap:=hg.cap
  have hgcap:=hg.y6
  have henvE:∀ {S'},S.ext S'->∀ x∈env,qS S' x:=λe x hx=>(henv x hx).ext e
  have kidsS:¬e.aT=9->∀ x∈e.aM,∀ u S',Good inp S' u->S.ext S'->pM S (t+1) S' u->vO (aJI inp S' u) (fD p n u x env S')/\(HD (lR sz args F.code) N S'->a04 (lR sz args F.code) F N (fD p n u x env S') (kU p sz n u x (env.map λk=>lR sz args F.code k.toNat))):=λh9 x hx u S' a b c =>
   ⟨io u x env S' funcs (gR hok h9 x hx) hf a c.2.2.2 (henvE b),λhd'=>ih u x env S' funcs (gR hok h9 x hx) hf a c.2.2.2 (henvE b) hd'⟩
  intro r S' u hx he
  rcases tQ hnode with hk|hk|hk|hk|hk|hk|hk|hk|hk|hk|hk
  ·rw[aON h3 hk]at hx
   rw[aX5 h3 hk]
   cases hx
   have ec:=a48 hg he
   have er:=aOR (sz:=sz) (args:=args) ec rfl
   rw[tX,er]
   refine⟨rfl,hd.put hg (λ_=>?_) (λq=>absurd (show(2:Int)=6 from q) bO)⟩
   rw[er]
   obtain⟨w,rfl⟩:∃ w,sz=w+1:=⟨sz-1,by omega⟩
   simp[cS,aGH]
  ·rw[aOO h3 hk]at hx
   rw[aX6 h3 hk]
   cases hx
   have hn:=((eE aA).1 hnode).2.2.2.2.1 hk
   exact⟨by rw[uP aA],hd⟩
  iterate 5
   ·have hlen:=fI hok aA
    rw[hk]at hlen
    rw[oD h3 aA]at hx
    rw[aJG h3 aA]
    have hs:=kidsS aA
    obtain⟨⟨rs,S1⟩,t1,e1,hx⟩:=then_ok hx
    simp only at hx
    have hrk:=lH _ _ S pK aA (λx hx u S' a b c=>(hs x hx u S' a b c).1) _ _ e1
    obtain⟨r1,r2,r3,r4⟩:=hrk
    have hex:S1.ext S':=by
     have hx2:=hx
     unfold opR at hx2
     split at hx2
     ·cases hx2
     ·cases hx2;exact S1.aHC _ _
    obtain⟨a1,a2⟩:=xK _ _ S pK aA hd hs _ _ _ e1 (hex.trans he)
    rw[a1,Out.andThen_ok]
    exact a9L hsz C ha hl aA r3 aQA (λq=>by unfold e8 at hlen;simp at hlen;omega) r1 a2 _ _ _ hx he
  ·have hlen:=fI hok aA
   rw[hk,show e8 8=3 from rfl]at hlen
   have o0:=aD.fM hok (i:=0) aA
   have o1:=aD.fM hok (i:=1) aA
   have o2:=aD.fM hok (i:=2) aA
   rw[jA aA]at o0 o1 o2
   rw[aAG h3 hk]at hx
   rw[aR2 h3 hk]
   obtain⟨⟨rr,S1⟩,t1,e1,hx⟩:=then_ok hx
   simp only at hx
   obtain⟨r1,r2,r3,r4⟩:=io _ _ _ _ _ o0 hf pK aA henv _ _ e1
   simp only at r1 r2 r3 r4
   have r4':=r4
   unfold pM at r4'
   have go:∀ (b:Bool) (k:aD),k.ok p funcs env.length->fD p n t1 k env (S1.guard ⟨rr,b⟩)=.ok ((r,S'),u)->(S1.ext F/\N rr.toNat)/\(HD (lR sz args F.code) N S1->kU p sz n t1 k (env.map λk=>lR sz args F.code k.toNat)=.ok (lR sz args F.code r.toNat,u)/\HD (lR sz args F.code) N S'):=λb k hk hq=>by
    have hx1:S1.ext (S1.guard ⟨rr,b⟩):=S1.rJ _
    have hgd:=r1.guard (b:=b) r3 aA
    obtain⟨q1,q2,q3,q4⟩:=io t1 k env _ _ hk hf hgd aA (henvE (r2.trans hx1)) _ _ hq
    simp only at q2
    refine⟨⟨hx1.trans (q2.trans he),?_⟩,λhdd=>ih t1 k env _ _ hk hf hgd aA (henvE (r2.trans hx1)) hdd _ _ _ hq he⟩
    have hm:(⟨rr,b⟩:gA)∈F.guards:=by
     have h1:(⟨rr,b⟩:gA)∈(S1.guard ⟨rr,b⟩).guards:=by simp[dO.guard]
     exact(q2.trans he).2.2.subset h1
    exact C.gds _ hm
   by_cases hz:S1.val rr=0
   ·rw[if_pos hz]at hx
    obtain⟨⟨g1,g2⟩,g3⟩:=go _ _ o1 hx
    obtain⟨a1,a2⟩:=ih _ _ _ _ _ o0 hf pK aA henv hd _ _ _ e1 g1
    rw[a1,Out.andThen_ok,if_pos bB9]
    exact g3 a2
   ·rw[if_neg hz]at hx
    obtain⟨⟨g1,g2⟩,g3⟩:=go _ _ o2 hx
    obtain⟨a1,a2⟩:=ih _ _ _ _ _ o0 hf pK aA henv hd _ _ _ e1 g1
    rw[a1,Out.andThen_ok,if_neg bB9]
    exact g3 a2
  ·have hlen:=fI hok aA
   rw[hk,show e8 9=2 from rfl]at hlen
   have o0:=aD.fM hok (i:=0) aA
   have o1:=aD.fM hok (i:=1) aA
   rw[jA aA]at o0
   rw[hk,show jG 9 1 (env.length:Int)=env.length+1 from rfl]at o1
   rw[aOP h3 hk]at hx
   rw[aX7 h3 hk]
   obtain⟨⟨rr,S1⟩,t1,e1,hx⟩:=then_ok hx
   simp only at hx
   obtain⟨r1,r2,r3,r4⟩:=io _ _ _ _ _ o0 hf pK aA henv _ _ e1
   simp only at r1 r2 r3 r4
   have bM8:∀ x∈env++[rr],qS S1 x:=λx hx=>by
    rcases oW.1 hx with hx|hx
    ·exact henvE r2 x hx
    ·rw[jL.1 hx];exact r3
   obtain⟨q1,q2,q3,q4⟩:=io t1 (e.pY 1) (env++[rr]) S1 funcs aH2 hf r1 r4.2.2.2 bM8 _ _ hx
   obtain⟨a1,a2⟩:=ih _ _ _ _ _ o0 hf pK aA henv hd _ _ _ e1 (q2.trans he)
   rw[a1,Out.andThen_ok]
   have:=ih t1 (e.pY 1) (env++[rr]) S1 funcs aH2 hf r1 r4.2.2.2 bM8 a2 _ _ _ hx he
   rwa [lT]at this
  ·obtain⟨f,Fc⟩:=pF hp hok hf (.inl hk)
   have f2:=Fc.hi
   have f4:=Fc.pk2
   rw[aDY h3 hk]at hx
   rw[aOD h3 hk]
   have hs:=kidsS aA
   obtain⟨⟨rs,S1⟩,t1,e1,hx⟩:=then_ok hx
   simp only at hx
   obtain⟨r1,r2,r3,r4⟩:=lH _ _ S pK aA (λx hx u S' a b c=>(hs x hx u S' a b c).1) _ _ e1
   simp only at r1 r2 r3 r4
   have hco:(p.out e.bB e.c4).ok p e.bB rs.length:=by rw[r3.1,Fc.kids];exact Fc.oks _ (rS Fc.out)
   obtain⟨q1,q2,q3,q4⟩:=io t1 _ rs S1 e.bB hco aA r1 r4.2.2.2 r3.2 _ _ hx
   obtain⟨a1,a2⟩:=xK _ _ S pK aA hd hs _ _ _ e1 (q2.trans he)
   rw[a1,Out.andThen_ok]
   exact ih t1 _ rs S1 e.bB hco aA r1 r4.2.2.2 r3.2 a2 _ _ _ hx he
  ·obtain⟨f,Fc⟩:=pF hp hok hf (.inr hk)
   have f2:=Fc.hi
   have f4:=Fc.pk2
   have f9:=Fc.loop hk
   rw[aDZ h3 hk]at hx
   rw[aOE h3 hk]
   have hs:=kidsS aA
   obtain⟨⟨rs,S1⟩,t1,e1,hx⟩:=then_ok hx
   simp only at hx
   obtain⟨r1,r2,r3,r4⟩:=lH _ _ S pK aA (λx hx u S' a b c=>(hs x hx u S' a b c).1) _ _ e1
   simp only at r1 r2 r3 r4
   obtain⟨⟨rs2,S2⟩,t2,e2,hx⟩:=then_ok hx
   cases hx
   have hfl:∀ vs t S,Good inp S t->(vs.length=f.aS.length/\∀ x∈vs,qS S x)->t<=3000->vO (aBO inp S t f.aS.length) (rI (λt e S=>fD p n t e vs S) (p.outs e.bB) t S)/\(HD (lR sz args F.code) N S->a9K (lR sz args F.code) F N (rI (λt e S=>fD p n t e vs S) (p.outs e.bB) t S) (m6 (λt e=>kU p sz n t e (vs.map λk=>lR sz args F.code k.toNat)) (p.outs e.bB) t)):=λvs w S' hg' hv hw=>by
    rw[Fc.eq]
    have hx2:∀ x∈f.aS,∀ u S'',Good inp S'' u->S'.ext S''->pM S' w S'' u->vO (aJI inp S'' u) (fD p n u x vs S'')/\(HD (lR sz args F.code) N S''->a04 (lR sz args F.code) F N (fD p n u x vs S'') (kU p sz n u x (vs.map λk=>lR sz args F.code k.toNat))):=λx hx u S'' a b c =>
     ⟨io u x vs S'' e.bB (by rw[hv.1,f9.2.2];exact Fc.oks x hx) aA a c.2.2.2 λy hy=>(hv.2 y hy).ext b,λhdd=>ih u x vs S'' e.bB (by rw[hv.1,f9.2.2];exact Fc.oks x hx) aA a c.2.2.2 (λy hy=>(hv.2 y hy).ext b) hdd⟩
    exact⟨lH _ _ S' hg' hw λx hx u S'' a b c=>(hx2 x hx u S'' a b c).1,λhdd=>xK _ _ S' hg' hw hdd hx2⟩
   have hv0:rs.length=f.aS.length/\∀ x∈rs,qS S1 x:=⟨by have:=r3.1;have:=Fc.kids;omega,r3.2⟩
   have hk2:=xD (inp:=inp) (m:=f.aS.length) (λvs t S a b c=>(hfl vs t S a b c).1) _ _ _ _ r1 hv0 r4.2.2.2 _ _ e2
   obtain⟨a1,a2⟩:=xK _ _ S pK aA hd hs _ _ _ e1 (hk2.2.1.trans he)
   rw[a1,Out.andThen_ok]
   obtain⟨b1,b2⟩:=aMJ (inp:=inp) (m:=f.aS.length) (g:=λvs t=>m6 (λt e=>kU p sz n t e vs) (p.outs e.bB) t) hfl _ _ _ _ r1 hv0 r4.2.2.2 a2 _ _ _ e2 he
   rw[b1,Out.andThen_ok]
   exact⟨by rw[uP (by have:=hk2.2.2.1.1;simp only at this;omega)],b2⟩
theorem aMK {p:aG} (hp:p.ok) {sz:Nat} (hsz:1<=sz) {f:Int} (hf:0<=f/\f<p.aK.length) {l6:List Int} (ha0:dW l6) (hl0:∀ G,p.aK[f.toNat]?=some G->(l6.length:Int)=G.aW) {L:List Int} {F:dO} {u:Nat} (hX:oE p f l6=.ok ((L,F),u)) {N:Nat->Prop} (C:a47 l6.length F N) {args:List (List Int)} (ha:∀ s∈args,bJ sz s) (hl:args.length=l6.length) (hd:∀ i,i<l6.length->N i->(args.getD i []).getD 0 0=l6.getD i 0) :
  evF p sz f args=.ok (L.map λk=>lR sz args F.code k.toNat,u)/\HD (lR sz args F.code) N F:=by
 obtain⟨G,ef,hF1,hF2,hF3,hF4⟩:=vK hp hf
 have hla:=hl0 G ef
 have hg:=aJK l6 ha0 aA
 have hin:=aUM l6
 have hel:(inE l6).length=l6.length:=by simp[inE]
 obtain⟨q1,q2,q3,q4⟩:=(aHE hp f hf l6 ha0 hl0).1 _ _ hX
 simp only at q1 q2 q3 q4
 have hcode:∀ i,i<l6.length->F.code[i]?=some ⟨1,0,0,(i:Int)⟩:=λi hi=>by
  obtain⟨x,hx⟩:=q2.1
  rw[←hx,tU (by simp[inS];exact hi)]
  simp[inS,hi]
 have hrg:∀ i,i<l6.length->lR sz args F.code i=args.getD i []:=λi hi=>by
  rw[aUR (hcode i hi) rfl,tX]
 have hd0:HD (lR sz args F.code) N (inS l6):=⟨λi hi hn=>by
  have hi':i<l6.length:=hi
  rw[hrg i hi'];exact hd i hi' hn,λi c hc h6=>by
  obtain⟨h1,h2⟩:=iO.1 hc
  simp[inS]at h1 h2
  subst h2
  simp at h6⟩
 have hmap:(inE l6).map (λk=>lR sz args F.code k.toNat)=args:=by
  apply u4
  ·rw[gT,hel,hl]
  ·intro i h1 h2
   rw[rU]
   have e1:(inE l6)[i]'(by rw[hel];omega)=(i:Int):=by simp[inE]
   rw[e1,tX,hrg i aA,gG,eY h2];rfl
 have hx2:∀ x∈p.outs f,∀ u S'',Good l6.length S'' u->(inS l6).ext S''->pM (inS l6) 0 S'' u->vO (aJI l6.length S'' u) (fD p 3001 u x (inE l6) S'')/\(HD (lR sz args F.code) N S''->a04 (lR sz args F.code) F N (fD p 3001 u x (inE l6) S'') (kU p sz 3001 u x args)):=λx hx u S'' a b c=>by
  have hxo:x.ok p f (inE l6).length:=by rw[hel,hla];exact hF4 x (by rw[←hF3];exact hx)
  refine⟨vP hp _ u x _ S'' f hxo aA a c.2.2.2 λy hy=>(hin y hy).ext b,λhdd=>?_⟩
  have:=aSD hp hsz C ha aA 3001 u x (inE l6) S'' f hxo aA a c.2.2.2 (λy hy=>(hin y hy).ext b) hdd
  rwa [hmap]at this
 exact xK _ _ _ hg aA hd0 hx2 _ _ _ hX F.uO
theorem aA1 {a d:List Int} {i:Nat} (h1:i<a.length) (h2:i<d.length):(dX a d).getD i []=[a.getD i 0,d.getD i 0]:=by
 rw[dX,gG,gG,gG,aV5,eY h1,eY h2];rfl
theorem aFG {n i k:Nat} (h:¬i=k):(eQ n i).getD k 0=0:=by
 rw[eQ,gG,rT h,tY]
 split <;> rfl
theorem tR (n i:Nat):(eQ n i).length=n:=by simp[eQ]
theorem nS (n i:Nat):dW (eQ n i):=λx hx=>by
 rcases wJ hx with hx|rfl
 ·rw[(aH1.1 hx).2];unfold iW;omega
 ·unfold iW;omega
set_option maxRecDepth 100000
def jK (c:List Int) (a:Nat) (sd:Int):bV:=.row 3 [[.v (.sl 1 (c.map λn=>[.int .u8 n]) false),.v (I a),.v (.int .u64 sd)]]
theorem bGZ (x:Int):(0:Int)<=((BitVec.ofInt 64 x &&& BitVec.ofInt 64 255).toNat:Int)/\((BitVec.ofInt 64 x &&& BitVec.ofInt 64 255).toNat:Int)<=255:=by
 have h:(BitVec.ofInt 64 x &&& BitVec.ofInt 64 255).toNat<=255:=by
  rw[BitVec.toNat_and]
  exact aKW Nat.and_le_right bO
 omega
@[go_sem] def aYQ:List Nat:=[0,2,3,13,53]
@[go_sem] def bDW:Marks:=λid=>match id with|2=>([3,7],(.op 0 (.op 1 (.op 2 (.op 4 (.op 5 (.op 6 (.op 3 (.op 7 (.op 8 (.op 9 .nil)))))))))),[])|3=>([3,7,9],(.op 0 (.op 1 (.op 2 (.op 4 (.op 5 (.op 6 (.op 3 (.op 7 (.op 8 (.op 9 (.op 10 (.op 11 .nil)))))))))))),[])|6=>([3,7],(.op 0 (.op 1 (.op 2 (.op 4 (.op 5 (.op 6 (.op 3 (.op 7 (.op 8 (.op 9 .nil)))))))))),[])|_=>([],.nil,[])
theorem bDX {ns:Nat} {c:List Int} (hc:∀ x∈c,InB x) (hl:c.length<=4096) {a:Nat} (ha:a<=1000000000) {sd:Int} {g:aB} (hg:g ns=some (jK c a sd)) :
  iV Tryz.prog 155 [.op ns 3 0 0] g λr h'=>∃ x sd',r=I x/\0<=x/\x<=255/\h'=aU g ns (jK c (a+1) sd'):=by
 have w1:IntKind.i64.wrap ((a:Int)+1)=((a+1:Nat):Int):=by rw[IntWalk.i64_in _ aA];omega
 unfold jK at hg
 rcases bT a c.length with hlt|hge
 ·have ea:c[a]?=some c[a]:=eY hlt
  obtain⟨b0,b1⟩:=hc _ (kM hlt)
  generalize c[a]=x at ea b0 b1
  have w2:IntKind.i64.wrap x=x:=IntWalk.i64_in _ aA
  have c1:(a<c.length)=True:=eq_true hlt
  have c2:(a+1<=c.length)=True:=eq_true hlt
  refine aGO 62 aYQ cU bDW Tryz.func155 ?_
  simp -dsimp -implicitDefEqProofs only[go_sem,↓reduceIte,Tryz.f155,hg,w1,c8,dA,dB,dC,dD,dS,dP,fL,ea,c1,c2,w2]
  rw[aO]
  exact⟨_,aB.le_refl _,x,_,rfl,b0,b1,rfl⟩
 ·have c1:(a<c.length)=False:=eq_false aA
  have c2:(a+1<=c.length)=False:=eq_false aA
  refine aGO 62 aYQ cU bDW Tryz.func155 ?_
  simp -dsimp -implicitDefEqProofs only[go_sem,↓reduceIte,Tryz.f155,hg,w1,c8,dA,dB,dC,dD,dS,dP,fL,c1,c2]
  rw[aO]
  generalize (IntKind.u64.wrap _:Int)=sd2
  obtain⟨b0,b1⟩:=bGZ (sd2.fdiv (2 ^ min (Int.toNat 40) 64))
  refine⟨_,aB.le_refl _,_,sd2,rfl,?_,?_,rfl⟩
  ·rw[show IntKind.u64.bits=64 from rfl,IntWalk.u64_in _ aA,IntWalk.i64_in _ aA];exact b0
  ·rw[show IntKind.u64.bits=64 from rfl,IntWalk.u64_in _ aA,IntWalk.i64_in _ aA];exact b1
@[go_sem] def a5A:List Nat:=[0,1,4,5,7,11]
theorem qY {ns:Nat} {c:List Int} (hc:∀ x∈c,InB x) (hl:c.length<=4096) {a:Nat} (ha:a<=900000000) {sd:Int} (n:Int) (hn:n<=100000) {g:aB} (hg:g ns=some (jK c a sd)) :
  iV Tryz.prog 81 [.op ns 3 0 0,I n] g λr h'=>∃ x a' sd',r=I x/\0<=x/\(1<=n->x<n)/\(n<=1->x=0)/\(a<=a'/\a'<=a+2)/\h'=aU g ns (jK c a' sd'):=by
 by_cases h1:n<=1
 ·refine aGO 20 a5A cU cF Tryz.func81 ?_
  simp -dsimp -implicitDefEqProofs only[go_sem,↓reduceIte,Tryz.f81,h1]
  exact⟨g,aB.le_refl _,0,a,sd,rfl,aEP _,λh=>by omega,rfl,by omega,(uJ hg).symm⟩
 ·refine aGO 20 a5A cU cF Tryz.func81 ?_
  simp -dsimp -implicitDefEqProofs only[go_sem,↓reduceIte,Tryz.f81,h1]
  refine aH.gV (bDX hc hl aA hg) ?_
  rintro r_ h' ⟨x,sd',rfl,x0,x1,rfl⟩
  simp -dsimp -implicitDefEqProofs only[go_sem,↓reduceIte,Tryz.f81]
  refine⟨λh2=>?_,λh2=>?_⟩
  ·refine aH.gV (bDX hc hl (a:=a+1) aA (aI ..)) ?_
   rintro r_ h' ⟨y,sd2,rfl,y0,y1,rfl⟩
   simp -dsimp -implicitDefEqProofs only[go_sem,↓reduceIte,Tryz.f81]
   have e1:IntKind.i64.wrap (IntKind.i64.wrap (x*256)+y)=x*256+y:=by rw[IntWalk.i64_in (x*256) aA,IntWalk.i64_in _ aA]
   have e2:(x*256+y).tmod n=(x*256+y)%n:=wL aA
   have e3:=Int.emod_nonneg (x*256+y) (show n≠0 by omega)
   have e4:=Int.emod_lt_of_pos (x*256+y) (show 0<n by omega)
   rw[e1,e2,aO]
   exact⟨by omega,_,aB.le_refl _,_,a+1+1,sd2,rfl,e3,λ_=>e4,λq=>absurd q h1,by omega,rfl⟩
  ·have e2:x.tmod n=x%n:=wL x0
   have e3:=Int.emod_nonneg x (show n≠0 by omega)
   have e4:=Int.emod_lt_of_pos x (show 0<n by omega)
   rw[e2]
   exact⟨by omega,_,aB.le_refl _,_,a+1,sd',rfl,e3,λ_=>e4,λq=>absurd q h1,by omega,rfl⟩
theorem a5B {ns:Nat} {c:List Int} (hc:∀ x∈c,InB x) (hl:c.length<=4096) {a:Nat} (ha:a<=900000000) {sd:Int} (n:Int) (hn:n<=100000) {g:aB} (hg:g ns=some (jK c a sd)) :
  iV Tryz.prog 153 [.op ns 3 0 0,I n] g λr h'=>∃ x a' sd',r=.bool x/\(a<=a'/\a'<=a+2)/\h'=aU g ns (jK c a' sd'):=by
 refine aGO 9 zX cU cF Tryz.func153 ?_
 simp -dsimp -implicitDefEqProofs only[go_sem,↓reduceIte,Tryz.f153]
 refine aH.gV (qY hc hl ha n hn hg) ?_
 rintro r_ h' ⟨x,a',sd',rfl,-,-,-,ha',rfl⟩
 simp -dsimp -implicitDefEqProofs only[go_sem,↓reduceIte,Tryz.f153]
 exact⟨_,aB.le_refl _,_,a',sd',rfl,ha',rfl⟩
theorem bM9 {ns:Nat} {c:List Int} (hc:∀ x∈c,InB x) (hl:c.length<=4096) {a:Nat} (ha:a<=900000000) {sd:Int} (l:List (List UInt8)) (bz:Bool) (h1:1<=l.length) (h2:l.length<=1000) {g:aB} (hg:g ns=some (jK c a sd)) :
  iV Tryz.prog 151 [.op ns 3 0 0,.sl 1 (l.map λs=>[.str s]) bz] g λr h'=>∃ x a' sd',r=.str x/\x∈l/\(a<=a'/\a'<=a+2)/\h'=aU g ns (jK c a' sd'):=by
 refine aGO 12 zX cU cF Tryz.func151 ?_
 simp -dsimp -implicitDefEqProofs only[go_sem,↓reduceIte,Tryz.f151]
 intro _
 refine aH.gV (qY hc hl ha l.length aA hg) ?_
 rintro r_ h' ⟨x,a',sd',rfl,x0,x1,-,ha',rfl⟩
 have x1:=x1 aA
 obtain⟨k,rfl⟩:∃ k:Nat,x=k:=⟨x.toNat,by omega⟩
 have ek:l[k]?=some l[k]:=eY aA
 simp -dsimp -implicitDefEqProofs only[go_sem,↓reduceIte,Tryz.f151,ek]
 exact⟨by omega,_,aB.le_refl _,_,a',sd',rfl,kM _,ha',rfl⟩
@[go_sem] def a9M:List Nat:=[0,2,4,5,10]
theorem bG0 {ns:Nat} {c:List Int} (hc:∀ x∈c,InB x) (hl:c.length<=4096) {a:Nat} (ha:a<=850000000) {sd:Int} {g:aB} (hg:g ns=some (jK c a sd)) :
  iV Tryz.prog 156 [.op ns 3 0 0] g λr h'=>∃ x a' sd',r=I x/\iW x/\(a<=a'/\a'<=a+8)/\h'=aU g ns (jK c a' sd'):=by
 refine aGO 25 a9M cU cF Tryz.func156 ?_
 simp -dsimp -implicitDefEqProofs only[go_sem,↓reduceIte,Tryz.f156]
 refine aH.gV (qY hc hl aA 6 aA hg) ?_
 rintro r_ h' ⟨x,a1,sd1,rfl,x0,x1,-,ha1,rfl⟩
 simp -dsimp -implicitDefEqProofs only[go_sem,↓reduceIte,Tryz.f156]
 refine⟨λe0=>?_,λe0=>⟨λe1=>?_,λe1=>?_⟩⟩
 ·refine aH.gV (qY hc hl aA 3 aA (aI ..)) ?_
  rintro r_ h' ⟨y,a2,sd2,rfl,y0,y1,-,ha2,rfl⟩
  have y1:=y1 aA
  simp -dsimp -implicitDefEqProofs only[go_sem,↓reduceIte,Tryz.f156]
  rw[aO]
  exact⟨_,aB.le_refl _,_,a2,sd2,rfl,by rw[IntWalk.i64_in _ aA];unfold iW;omega,by omega,rfl⟩
 ·refine aH.gV (qY hc hl aA 256 aA (aI ..)) ?_
  rintro r_ h' ⟨y,a2,sd2,rfl,y0,y1,-,ha2,rfl⟩
  have y1:=y1 aA
  simp -dsimp -implicitDefEqProofs only[go_sem,↓reduceIte,Tryz.f156]
  refine aH.gV (qY hc hl aA 256 aA (aI ..)) ?_
  rintro r_ h' ⟨z,a3,sd3,rfl,z0,z1,-,ha3,rfl⟩
  have z1:=z1 aA
  simp -dsimp -implicitDefEqProofs only[go_sem,↓reduceIte,Tryz.f156]
  refine aH.gV (qY hc hl aA 256 aA (aI ..)) ?_
  rintro r_ h' ⟨u,a4,sd4,rfl,u0,u1,-,ha4,rfl⟩
  have u1:=u1 aA
  simp -dsimp -implicitDefEqProofs only[go_sem,↓reduceIte,Tryz.f156]
  simp only[aO]
  refine⟨_,aB.le_refl _,_,a4,sd4,rfl,?_,by omega,rfl⟩
  rw[IntWalk.i64_in (y*65536) aA,IntWalk.i64_in (z*256) aA,IntWalk.i64_in (y*65536+z*256) aA,IntWalk.i64_in _ aA,wL aA]
  unfold iW;omega
 ·refine aH.gV (qY hc hl aA 7 aA (aI ..)) ?_
  rintro r_ h' ⟨y,a2,sd2,rfl,y0,y1,-,ha2,rfl⟩
  have y1:=y1 aA
  simp -dsimp -implicitDefEqProofs only[go_sem,↓reduceIte,Tryz.f156]
  rw[aO]
  exact⟨_,aB.le_refl _,_,a2,sd2,rfl,by unfold iW;omega,by omega,rfl⟩
theorem a9Q {n:Int} (h0:0<=n) (h:n<10):Go.Lib.itoa n=[UInt8.ofNat (48+n).toNat]:=by
 unfold Go.Lib.itoa
 rw[if_neg aA,Go.Lib.decDigits,dif_pos aA,show(48+n).toNat=48+n.toNat from by omega]
theorem a9R {n:Int} (h:10<=n):Go.Lib.itoa n=Go.Lib.itoa (n / 10)++[UInt8.ofNat (48+n%10).toNat]:=by
 unfold Go.Lib.itoa
 rw[if_neg aA,if_neg aA,Go.Lib.decDigits,dif_neg aA,show(48+n%10).toNat=48+n.toNat%10 from by omega,show(n / 10).toNat=n.toNat / 10 from by omega]
theorem yY {u k:Nat} (h:u<10 ^ k) (hk:1<=k):(Go.Lib.decDigits u).length<=k:=by
 induction k generalizing u with
 |zero=>omega
 |succ k ih =>
  rw[Go.Lib.decDigits]
  split
  ·simp
  ·rename_i hu
   rcases a0A k with e|e
   ·subst e;simp at h;omega
   ·have:=ih (u:=u / 10) (by rw[aP6]at h;omega) e
    simp;omega
theorem aUT {n:Int} (h0:-9223372036854775808<=n) (h1:n<=9223372036854775807):(Go.Lib.itoa n).length<=21:=by
 unfold Go.Lib.itoa
 split
 ·have:=yY (u:=n.natAbs) (k:=20) aA aA
  simp;omega
 ·have:=yY (u:=n.toNat) (k:=20) aA aA
  omega
theorem a9S {u:Nat} (h:u<10):Go.Lib.decDigits u=[UInt8.ofNat (48+u)]:=by rw[Go.Lib.decDigits,dif_pos h]
theorem a5C (n:Int) (h:0<=n):Go.Lib.itoa n=Go.Lib.decDigits n.toNat:=by rw[Go.Lib.itoa,if_neg aA]
theorem aD0 {α:Type} (f:α->Nat) (l:List α) (x:α):qU f (l++[x])=qU f l+1+f x:=by
 simp only[sJ,gD,lT,List.sum_append,tT,sB,p5,v7,aFM,List.sum_nil];omega
theorem aUU (k n i c:Int) (l:List aD):(aD.mk k n i c l).s=qU aD.s l:=by rw[aD.aB6];rfl
theorem a5D (k n:Int):(aD.mk k n 0 0 []).o [.v (I k),.v (I n),.v (I 0),.v (I 0),.nil 5]:=(aD.uK _ _).2 ⟨.nil 5,rfl,OS.nil⟩
theorem aSE (k n:Int):Sub (.agg [I k,I n,I 0,I 0,.bS]) (.agg ([.v (I k),.v (I n),.v (I 0),.v (I 0),.nil 5].map OV.val)):=Sub.agg (.cons (.refl _) (.cons (.refl _) (.cons (.refl _) (.cons (.refl _) (.cons (Sub.nil 5 true) .nil)))))
theorem aML (k n:Int):OV.bY [.v (I k),.v (I n),.v (I 0),.v (I 0),.nil 5]=[]:=by simp only[OV.eC,OV.hJ,OV.z5,OV.qK,dP]
def u2 (k n c d:Int) (v:aE):bV:=.row 5 [[.v (I k),.v (I n),.v (I c),.v (I d),.v v]]
@[go_sem] def bNA:List Nat:=[8,17]
@[go_sem] def bNB:Marks:=λid=>match id with|3=>([],(.op 0 (.op 1 (.op 2 (.op 3 (.op 4 (.op 5 (.op 6 (.op 7 (.op 8 (.op 9 (.op 10 .nil))))))))))),[])|_=>([],.nil,[])
theorem aHF (m:Nat):∀ n:Int,0<=n->n<m->n<=1000002->fE Tryz.prog 152 [I n] (.str (Go.Lib.itoa n)):=by
 induction m with
 |zero=>intro n a b;omega
 |succ m ih =>
 intro n h0 hm hn
 refine fU 20 bCX bNA bNB Tryz.func152 λh=>?_
 simp -dsimp -implicitDefEqProofs only[go_sem,↓reduceIte,Tryz.f152]
 repeat'(with_reducible first|intro _|refine And.intro ?_ ?_)
 all_goals try omega
 ·rw[a9Q h0 lB,IntWalk.i64_in (48+n) aA,IntWalk.u8_in (48+n) aA]
 ·rw[aV2 aA,IntWalk.i64_in (n / 10) aA]
  first|refine aH.mk (ih (n / 10) aA aA aA) ?_|refine aF.mk (ih (n / 10) aA aA aA) ?_|refine aH.bI (ih (n / 10) aA aA aA) ?_|refine aF.mk (bC.dI (ih (n / 10) aA aA aA)) ?_
  simp -dsimp -implicitDefEqProofs only[go_sem,↓reduceIte,Tryz.f152]
  repeat'(with_reducible first|intro _|refine And.intro ?_ ?_)
  all_goals try(first|omega|decide)
  ·have:=aUT (n:=n / 10) aA aA
   omega
  ·rw[a9R (n:=n) aA,wL aA,IntWalk.i64_in (48+n%10) aA,IntWalk.u8_in (48+n%10) aA]
def kT (ns np:Nat) (L:Int) (pl:Bool):bV:=.row 4 [[.v (.op ns 3 0 0),.v (.op np 1 0 0),.v (I L),.v (.bool pl)]]
def mL (L:Int):Nat:=(L-1).toNat
def aAI (p:aG) (np:Nat) (B:aB):Prop:=∃ es o,OR aX.o p.aK es/\B np=some (.row 1 [[.v (jN 3 p.aK.length o)]])/\(o=none->p.aK=[])/\∀ m,o=some m->B m=some (.row 3 (OV.cells es))
theorem aAI.le {p:aG} {np:Nat} {B B':aB} (h:aAI p np B) (hl:B.le B'):aAI p np B':=by
 obtain⟨es,o,h1,h2,h3,h4⟩:=h
 exact⟨es,o,h1,aB.aNP hl h2,h3,λm e=>aB.aNP hl (h4 m e)⟩
@[go_sem] def a9T:List Nat:=[0,1,4,14]
theorem aYR {ns ng np:Nat} {c:List Int} {pl:Bool} (hc:∀ x∈c,InB x) (hl:c.length<=4096) (hne:¬ns=ng) (vars:Int) (hv:vars<=1000) {B:aB} {a:Nat} {sd L:Int} (hB1:B ns=none) (hB2:B ng=none) (ha:a<=800001000) :
  iV Tryz.prog 192 [.op ng 4 0 0,I vars] (aU (aU B ns (jK c a sd)) ng (kT ns np L pl)) λr h'=>∃ k n a' sd',r=.agg [I k,I n,I 0,I 0,.bS]/\((k=1/\iW n)∨(k=2/\0<=n/\n<vars))/\(a<=a'/\a'<=a+10)/\h'=aU (aU B ns (jK c a' sd')) ng (kT ns np L pl):=by
 obtain⟨sW,bK,bL,kV⟩:=cW (show ¬ns=ng from hne)
 have hg:(aU (aU B ns (jK c a sd)) ng (kT ns np L pl)) ng=some (kT ns np L pl):=aI ..
 unfold kT at hg
 refine aGO 28 a9T cU cF Tryz.func192 ?_
 simp -dsimp -implicitDefEqProofs only[go_sem,↓reduceIte,Tryz.f192]
 intro n4 q4
 have a4:¬n4=ng:=by grind
 have b4:¬n4=ns:=by grind
 have z4:B n4=none:=by grind
 obtain⟨a9U,aA2,aA3,bQL⟩:=cW (show ¬n4=ng from a4)
 obtain⟨aD1,aA4,aA5,a7U⟩:=cW (show ¬n4=ns from b4)
 simp -dsimp -implicitDefEqProofs only[go_sem,↓reduceIte,Tryz.f192,aA2,aA4,aA3,bL,aA5,bK,aC,aP,kT,c8,dA,dB,dC,dD,dS,dP,fL]
 have hle:∀ X Y Z,(aU (aU B ns X) ng Y).le (aU (aU (aU B ns X) ng Y) n4 Z):=λX Y Z=>aB.bM (by rw[aC _ _ _ _ a9U,aC _ _ _ _ aD1];exact z4) (aB.le_refl _)
 refine⟨λhp=>?_,λhp=>?_⟩
 ·refine aH.gV (a5B (a:=a) (sd:=sd) hc hl aA 4 aA aWD) ?_
  rintro r_ h' ⟨b,a1,sd1,rfl,ha1,rfl⟩
  simp only[b5 aD1,b5 kV,aO]
  cases b
  ·simp -dsimp -implicitDefEqProofs only[go_sem,↓reduceIte,Tryz.f192,aA2,aA4,aA3,bL,aA5,bK,aC,aP,c8,dA,dB,dC,dD,dS,dP,fL]
   refine aH.gV (qY (a:=a1) (sd:=sd1) hc hl aA vars aA aWD) ?_
   rintro r_ h' ⟨x,a2,sd2,rfl,x0,x1,-,ha2,rfl⟩
   simp only[b5 aD1,b5 kV,aO]
   simp -dsimp -implicitDefEqProofs only[go_sem,↓reduceIte,Tryz.f192,aA2,aA4,aA3,bL,aA5,bK,aC,aP,aO,c8,dA,dB,dC,dD,dS,dP,fL]
   exact⟨_,hle _ _ _,2,x,a2,sd2,rfl,.inr ⟨rfl,x0,x1 aA⟩,by omega,rfl⟩
  ·simp -dsimp -implicitDefEqProofs only[go_sem,↓reduceIte,Tryz.f192,aA2,aA4,aA3,bL,aA5,bK,aC,aP,c8,dA,dB,dC,dD,dS,dP,fL]
   refine aH.gV (bG0 (a:=a1) (sd:=sd1) hc hl aA aWD) ?_
   rintro r_ h' ⟨x,a2,sd2,rfl,hx,ha2,rfl⟩
   simp only[b5 aD1,b5 kV,aO]
   simp -dsimp -implicitDefEqProofs only[go_sem,↓reduceIte,Tryz.f192,aA2,aA4,aA3,bL,aA5,bK,aC,aP,aO,c8,dA,dB,dC,dD,dS,dP,fL]
   exact⟨_,hle _ _ _,1,x,a2,sd2,rfl,.inl ⟨rfl,hx⟩,by omega,rfl⟩
 ·refine aH.gV (bG0 (a:=a) (sd:=sd) hc hl aA aWD) ?_
  rintro r_ h' ⟨x,a2,sd2,rfl,hx,ha2,rfl⟩
  simp only[b5 aD1,b5 kV,aO]
  simp -dsimp -implicitDefEqProofs only[go_sem,↓reduceIte,Tryz.f192,aA2,aA4,aA3,bL,aA5,bK,aC,aP,aO,c8,dA,dB,dC,dD,dS,dP,fL]
  exact⟨_,hle _ _ _,1,x,a2,sd2,rfl,.inl ⟨rfl,hx⟩,by omega,rfl⟩
theorem Shift.own {h h':aB} (e:List OV) (ho:qH h' (OV.bY e)) (hl:h.le (iL h' (bF (OV.bY e)))):Shift (.agg (e.map OV.val)) h' (.agg (e.map OV.qG)) h:=λE w v R rx =>
 ⟨E,(Ev.iL _).forget hl,(R.iL _).forget hl,(fC.aRO R e v ho (λp hp=>dF.2 ⟨p.2,hp⟩) rx).pD λb hb=>nX.le hl hb⟩
def mE (l:List Int):bV:=.row 1 ((l.map λn=>[I n]).map (List.map .v))
theorem a07 (l:List Int) (x:Int):mE (l++[x])=.row 1 (((l.map λn=>[I n]).map (List.map Cell.v))++[[.v (I x)]]):=by simp[mE]
@[go_sem] def a5E:List Nat:=[0,1,4,5,6,10]
@[go_sem] def bNC:List Nat:=[7,16]
theorem a5F {ns:Nat} {c:List Int} (hc:∀ x∈c,InB x) (hl:c.length<=4096) (size:Int) (hsz:size<=1000) {B:aB} (hB:B ns=none) {a:Nat} (ha:a<=800000000) {sd:Int} :
  iV Tryz.prog 82 [.op ns 3 0 0,I size] (aU B ns (jK c a sd)) λr h'=>∃ l a' sd',l.length=size.toNat/\dW l/\r=ints l/\(a<=a'/\a'<=a+8*size.toNat)/\h'=aU B ns (jK c a' sd'):=by
 refine mC 19 a5E bNC cF Tryz.func82 ?_
 simp -dsimp -implicitDefEqProofs only[go_sem,↓reduceIte,Tryz.f82]
 refine⟨by decide,?_⟩
 refine cM a5E bNC cF (λx:List Int×Option Nat×Nat×Int=>[(0,.op ns 3 0 0),(1,I size),(5,fT 1 x.1.length x.2.1),(6,I x.1.length)]) (λx=>aU (cP B (mE x.1) x.2.1) ns (jK c x.2.2.1 x.2.2.2)) (λx=>(x.1.length<=size.toNat/\dW x.1)/\eM B x.1 x.2.1/\(∀ m,x.2.1=some m->¬m=ns)/\(a<=x.2.2.1/\x.2.2.1<=a+8*x.1.length)) (λx=>size.toNat-x.1.length) ([],none,a,sd) ⟨by simp[cR,b6,fT],aB.le_refl _,⟨eF _,λx hx=>by cases hx⟩,rfl,(λm e=>by cases e),by simp⟩ ?_
 rintro⟨l,o,a1,sd1⟩ ⟨⟨hll,hnl⟩,hos,hon,ha1⟩
 simp only at hll hnl hos hon ha1 ⊢
 simp -dsimp -implicitDefEqProofs only[go_sem,↓reduceIte,Tryz.f82]
 refine⟨λhlt=>?_,λhge=>?_⟩
 ·refine aH.gV (bG0 (a:=a1) (sd:=sd1) hc hl aA (aI ..)) ?_
  rintro r_ h' ⟨x,a2,sd2,rfl,hx,ha2,rfl⟩
  rw[aO]
  simp -dsimp -implicitDefEqProofs only[go_sem,↓reduceIte,Tryz.f82]
  refine⟨by decide,by decide,?_⟩
  have hnx:dW (l++[x]):=λy hy=>by
   rcases oW.1 hy with hy|hy
   ·exact hnl y hy
   ·rw[jL.1 hy];exact hx
  have hstep:(l++[x]).length=l.length+1:=by simp
  cases o with
  |none =>
   rw[aY]at hos
   subst hos
   simp -dsimp -implicitDefEqProofs only[go_sem,↓reduceIte,Tryz.f82,bE,aL]
   refine⟨by decide,λn ⟨d1,z1⟩=>⟨([x],some n,a2,sd2),⟨rfl,IntWalk.i64_in _ aA⟩,?_,⟨⟨by simp only[nA];omega,hnx⟩,z1,λm e=>by cases e;exact d1,by show a<=a2/\a2<=a+8*1;simp only[sB]at ha1;omega⟩,by simp only[nA,sB]at hlt ⊢;omega⟩⟩
   simp only[aJ]
   rw[b5 d1]
   exact aB.le_refl _
  |some m0 =>
   rw[aQ]at hos
   have k1:=hon m0 rfl
   obtain⟨aA6,iG,iH,xM⟩:=cW (show ¬m0=ns from k1)
   simp -dsimp -implicitDefEqProofs only[go_sem,↓reduceIte,Tryz.f82,aR,aJ,iG,iH,aC,aP,mE]
   refine⟨by decide,bX _,by omega,by omega,λb hb=>?_⟩
   have b1:¬b=ns:=by grind
   have b2:¬b=m0:=by grind
   have b3:B b=none:=by grind
   refine⟨(l++[x],some b,a2,sd2),⟨by rw[hstep];rfl,by rw[hstep,IntWalk.i64_in _ aA];rfl⟩,?_,⟨⟨by rw[hstep];omega,hnx⟩,b3,λm e=>by cases e;exact b1,by show a<=a2/\a2<=a+8*(l++[x]).length;rw[hstep];omega⟩,by show size.toNat-(l++[x]).length<_;rw[hstep];omega⟩
   simp only[aJ]
   have hr:=a07 l x
   unfold mE at hr
   rw[nI dG,hr]
   intro q_
   simp only[aP]
   grind
 ·have he:l.length=size.toNat:=by omega
  cases o with
  |none =>
   rw[aY]at hos
   subst hos
   exact⟨ints [],_,Shift.of (Sub.loose _ _ _) (aB.le_refl _),[],a1,sd1,he,hnl,rfl,by omega,rfl⟩
  |some m0 =>
   rw[aQ]at hos
   have k1:=hon m0 rfl
   exact⟨ints l,aU B ns (jK c a1 sd1),eT l (by rw[aC _ _ _ _ k1];exact hos) (by rw[aJ,b5 k1];exact aB.le_refl _) rfl,l,a1,sd1,he,hnl,rfl,by omega,rfl⟩
theorem lI {args dir:List Int} (hd:dir.length=args.length):(dX args dir).length=args.length:=by simp[dX,hd]
@[go_sem] def aYS:List Nat:=[0,1,4,5,6,7,9,10,11,12]
@[go_sem] def bDY:List Nat:=[8,22,23]
theorem lines (args dir:List Int) (hd:dir.length=args.length) (hl:args.length<=1048576):fE Tryz.prog 175 [ints args,ints dir] (bW (dX args dir)):=by
 refine lS 27 aYS bDY cF Tryz.func175 λh=>?_
 simp -dsimp -implicitDefEqProofs only[go_sem,↓reduceIte,Tryz.f175]
 refine⟨bD,λ_=>?_⟩
 have hc:=lI hd
 refine aE8 aYS bDY cF (λx:Nat×Option Nat=>[(1,ints dir),(5,fT 1 ((dX args dir).take x.1).length x.2),(9,ints args),(10,I args.length),(11,I x.1)]) (λx=>cP h (.row 1 ((((dX args dir).take x.1).map λs=>[ints s]).map (List.map .v))) x.2) (λx=>x.1<=args.length/\eM h ((dX args dir).take x.1) x.2) (λx=>args.length-x.1) (0,none) ⟨by simp[cR,b6,fT],by simp only[aL];exact aB.kR (aB.le_refl _),eF _,by simp[eM]⟩ ?_
 rintro⟨k,o⟩ ⟨hk,hos⟩
 simp only at hk hos ⊢
 rcases bT k args.length with hlt|hge
 ·have ea:args[k]?=some args[k]:=eY hlt
  have ed:dir[k]?=some (dir[k]'aA):=eY aA
  have hy:(dX args dir).take (k+1)=(dX args dir).take k++[(dX args dir)[k]'aA]:=jF aA
  have hv:(dX args dir)[k]'aA=[args[k],dir[k]'aA]:=by simp[dX]
  have hlk:((dX args dir).take k).length=k:=by rw[mX];omega
  rw[hv]at hy
  cases o with
  |none =>
   rw[aY]at hos
   rw[hos]at hy ⊢
   simp -dsimp -implicitDefEqProofs only[go_sem,↓reduceIte,Tryz.f175,bE,aL,hlt,ea,ed]
   refine⟨by omega,by decide,by decide,by decide,by decide,by decide,λb hb=>⟨(k+1,some b),?_⟩⟩
   simp only[hy]
   exact⟨⟨rfl,by rw[IntWalk.i64_in _ aA];rfl⟩,aA0 (A:=[]) (x:=.sl 1 [[I args[k]],[I (dir[k]'aA)]] true) (y:=ints [args[k],dir[k]'aA]) (aI _ _ _) (Sub.loose _ _ _) aCX,⟨by omega,hb⟩,by omega⟩
  |some n =>
   rw[aQ]at hos
   simp -dsimp -implicitDefEqProofs only[go_sem,↓reduceIte,Tryz.f175,aR,aJ,hlt,ea,ed]
   refine⟨by omega,by decide,by decide,by decide,by decide,by decide,bX _,by omega,by omega,λb hb=>⟨(k+1,some b),?_⟩⟩
   simp only[hy,aJ,aR,aQ]
   refine⟨⟨by rw[gD];rfl,by rw[IntWalk.i64_in _ aA];rfl⟩,aA0 (x:=.sl 1 [[I args[k]],[I (dir[k]'aA)]] true) (y:=ints [args[k],dir[k]'aA]) (aI _ _ _) (Sub.loose _ _ _) ?_,⟨by omega,hb.2⟩,by omega⟩
   rw[aO,←dZ ints]
   exact jC hos
 ·have hk':k=args.length:=by omega
  subst hk'
  rw[nI aA]at hos ⊢
  cases o with
  |none =>
   rw[aY]at hos
   simp -dsimp -implicitDefEqProofs only[go_sem,↓reduceIte,Tryz.f175,bE,aL,bU,cT]
   rw[hos]
   exact Shift.of (Sub.loose _ _ _) (aB.le_refl _)
  |some n =>
   rw[aQ]at hos
   simp -dsimp -implicitDefEqProofs only[go_sem,↓reduceIte,Tryz.f175,aR,aJ,bU,cT]
   exact lG _ hos (aB.le_refl _) rfl
@[go_sem] def bQM:List Nat:=[0,1,2,4,11,17]
@[go_sem] def bT1:List Nat:=[0,1,4,10]
@[go_sem] def bQN:List Nat:=[0,1,2,3,4,9,14,19,24,30]
@[go_sem] def bQO:List Nat:=[0,1,2,3,4,9,14,20]
@[go_sem] def bT2:List Nat:=[0,1,2,3,4,10]
@[go_sem] def bT3:List Nat:=[0,1,4,5,10,14,25]
@[go_sem] def bYW:Marks:=λid=>match id with|6=>([],(.op 0 (.op 1 (.op 2 (.op 3 (.op 4 (.op 5 (.op 6 (.op 7 (.op 8 .nil))))))))),[])|_=>([],.nil,[])
def aFQ (x:bH) (k inp:Int):Prop :=
 (x.gS=1/\x.fA=0/\x.fB=0/\0<=x.bB/\x.bB<=inp-1)∨(x.gS=2/\x.fA=0/\x.fB=0/\iW x.bB) ∨
 ((3<=x.gS/\x.gS<=6)/\x.bB=0/\(0<=x.fA/\x.fA<=k-1)/\(0<=x.fB/\x.fB<=k-1))∨(x.gS=7/\x.bB=0/\x.fB=0/\0<=x.fA/\x.fA<=k-1)
instance (x:bH) (k inp:Int):Decidable (aFQ x k inp):=by unfold aFQ iW;infer_instance
def aOS (s:Int) (l:List Int):Prop:=∀ r∈l,0<=r/\r<=s-1
instance (s:Int) (l:List Int):Decidable (aOS s l):=by unfold aOS;infer_instance
def aYT (s:Int) (l:List gA):Prop:=∀ g∈l,0<=g.aLG/\g.aLG<=s-1
instance (s:Int) (l:List gA):Decidable (aYT s l):=by unfold aYT;infer_instance
def aD2 (inp:Int) (l:List bH):Prop:=∀ (k:Nat) (h:k<l.length),aFQ l[k] k inp
instance (inp:Int) (l:List bH):Decidable (aD2 inp l):=by unfold aD2;infer_instance
structure iM.ok (t:iM):Prop where
 inp:0<=t.dK/\t.dK<=12
 lens:t.aV.length<=3200/\t.iA.length<=3200/\1<=t.aS.length/\t.aS.length<=12
 code:aD2 t.dK t.aV
 gds:aYT t.aV.length t.iA
 outs:aOS t.aV.length t.aS
theorem iM.eI (t:iM):t.ok↔(0<=t.dK/\t.dK<=12)/\(t.aV.length<=3200/\t.iA.length<=3200/\1<=t.aS.length/\t.aS.length<=12)/\aD2 t.dK t.aV/\aYT t.aV.length t.iA/\aOS t.aV.length t.aS :=
 ⟨λ⟨a,b,c,d,e⟩=>⟨a,b,c,d,e⟩,λ⟨a,b,c,d,e⟩=>⟨a,b,c,d,e⟩⟩
instance (t:iM):Decidable t.ok:=decidable_of_iff _ t.eI.symm
@[go_sem] def a9V:List Nat:=[0,1,2,3,4,6,8,9,27,42,64]
theorem a9W (t:iM) (x:bH) (k:Int) (hk:0<=k/\k<=3200) (hi:0<=t.dK/\t.dK<=12):fE Tryz.prog 231 [.agg t.c,.agg x.c,I k] (.bool (decide (aFQ x k t.dK))):=by
 rw[bH.aZ,iM.aZ]
 have ek:IntKind.i64.wrap (k-1)=k-1:=IntWalk.i64_in _ aA
 have ei:IntKind.i64.wrap (t.dK-1)=t.dK-1:=IntWalk.i64_in _ aA
 refine fU 81 a9V aDK cF Tryz.func231 λh=>?_
 simp -dsimp -implicitDefEqProofs only[go_sem,↓reduceIte,Tryz.f231,ek,ei]
 repeat'(with_reducible first|intro _|refine And.intro ?_ ?_)
 all_goals first
  |exact(decide_eq_false wP).symm
  |skip
   first|refine aH.mk (within x.bB 0 (t.dK-1)) ?_|refine aF.mk (within x.bB 0 (t.dK-1)) ?_|refine aH.bI (within x.bB 0 (t.dK-1)) ?_|refine aF.mk (bC.dI (within x.bB 0 (t.dK-1))) ?_
   simp -dsimp -implicitDefEqProofs only[go_sem,↓reduceIte,Tryz.f231]
   exact decide_eq_decide.2 wP
  |skip
   first|refine aH.mk (mJ x.bB) ?_|refine aF.mk (mJ x.bB) ?_|refine aH.bI (mJ x.bB) ?_|refine aF.mk (bC.dI (mJ x.bB)) ?_
   simp -dsimp -implicitDefEqProofs only[go_sem,↓reduceIte,Tryz.f231]
   exact decide_eq_decide.2 wP
  |skip
   first|refine aH.mk (within x.fA 0 (k-1)) ?_|refine aF.mk (within x.fA 0 (k-1)) ?_|refine aH.bI (within x.fA 0 (k-1)) ?_|refine aF.mk (bC.dI (within x.fA 0 (k-1))) ?_
   simp -dsimp -implicitDefEqProofs only[go_sem,↓reduceIte,Tryz.f231]
   exact decide_eq_decide.2 wP
  |skip
   first|refine aH.mk (within x.fA 0 (k-1)) ?_|refine aF.mk (within x.fA 0 (k-1)) ?_|refine aH.bI (within x.fA 0 (k-1)) ?_|refine aF.mk (bC.dI (within x.fA 0 (k-1))) ?_
   simp -dsimp -implicitDefEqProofs only[go_sem,↓reduceIte,Tryz.f231]
   refine⟨λq=>?_,λq=>(decide_eq_false wP).symm⟩
   rw[ek]
   first|refine aH.mk (within x.fB 0 (k-1)) ?_|refine aF.mk (within x.fB 0 (k-1)) ?_|refine aH.bI (within x.fB 0 (k-1)) ?_|refine aF.mk (bC.dI (within x.fB 0 (k-1))) ?_
   simp -dsimp -implicitDefEqProofs only[go_sem,↓reduceIte,Tryz.f231]
   first
   |exact decide_eq_decide.2 wP
   |exact⟨λq=>decide_eq_decide.2 wP,λq=>(decide_eq_false wP).symm⟩
  |skip
   first|refine aH.mk (within x.fA 0 (k-1)) ?_|refine aF.mk (within x.fA 0 (k-1)) ?_|refine aH.bI (within x.fA 0 (k-1)) ?_|refine aF.mk (bC.dI (within x.fA 0 (k-1))) ?_
   simp -dsimp -implicitDefEqProofs only[go_sem,↓reduceIte,Tryz.f231]
   refine⟨λq=>?_,λq=>(decide_eq_false wP).symm⟩
   first
   |exact decide_eq_decide.2 wP
   |exact⟨λq=>decide_eq_decide.2 wP,λq=>(decide_eq_false wP).symm⟩
  |skip
   first|refine aH.mk (within x.fA 0 (k-1)) ?_|refine aF.mk (within x.fA 0 (k-1)) ?_|refine aH.bI (within x.fA 0 (k-1)) ?_|refine aF.mk (bC.dI (within x.fA 0 (k-1))) ?_
   simp -dsimp -implicitDefEqProofs only[go_sem,↓reduceIte,Tryz.f231]
   refine⟨λq=>?_,λq=>(decide_eq_false wP).symm⟩
   rw[ek]
   first|refine aH.mk (within x.fB 0 (k-1)) ?_|refine aF.mk (within x.fB 0 (k-1)) ?_|refine aH.bI (within x.fB 0 (k-1)) ?_|refine aF.mk (bC.dI (within x.fB 0 (k-1))) ?_
   simp -dsimp -implicitDefEqProofs only[go_sem,↓reduceIte,Tryz.f231]
   trace_state
   sorry
@[go_sem] def a9X:List Nat:=[0,1,3]
theorem aUV (r c:Int) (hc:0<=c/\c<=3200) (n:Nat) {h0:aB} (hn:h0 n=some (.row 1 [[.v (I c)]])):bC Tryz.prog 232 [I r,.op n 1 0 0] (.bool (!decide (0<=r/\r<=c-1))) h0:=by
 have hg (h:aB) (hle:h0.le h):=aB.aNP hle hn
 have e1:IntKind.i64.wrap (c-1)=c-1:=IntWalk.i64_in _ aA
 refine aF6 9 a9X cU cF Tryz.func232 λh hle=>?_
 simp -dsimp -implicitDefEqProofs only[go_sem,↓reduceIte,Tryz.f232]
 have hn':=hg h hle
 simp -dsimp -implicitDefEqProofs only[go_sem,↓reduceIte,Tryz.f232,hn',e1]
 first|refine aH.mk (within r 0 (c-1)) ?_|refine aF.mk (within r 0 (c-1)) ?_|refine aH.bI (within r 0 (c-1)) ?_|refine aF.mk (bC.dI (within r 0 (c-1))) ?_
 simp -dsimp -implicitDefEqProofs only[go_sem,↓reduceIte,Tryz.f232]
@[go_sem] def aOT:List Nat:=[0,1,2,3,4,5,7,30,35,36,37,38,46,49,50,51,52,60]
theorem a08 (t:iM) (hc:t.aV.length<=1048576) (hg:t.iA.length<=1048576) (ho:t.aS.length<=1048576):fE Tryz.prog 224 [.agg t.c] (.bool (decide t.ok)):=by
 have no:¬t.ok->false=decide t.ok:=λq=>(decide_eq_false q).symm
 rw[iM.aZ]
 refine fU 67 aOT aK8 cF Tryz.func224 λh=>?_
 simp -dsimp -implicitDefEqProofs only[go_sem,↓reduceIte,Tryz.f224]
 first|refine aH.mk (within t.dK 0 12) ?_|refine aF.mk (within t.dK 0 12) ?_|refine aH.bI (within t.dK 0 12) ?_|refine aF.mk (bC.dI (within t.dK 0 12)) ?_
 simp -dsimp -implicitDefEqProofs only[go_sem,↓reduceIte,Tryz.f224]
 repeat'(with_reducible first|intro _|refine And.intro ?_ ?_)
 ·first|refine aH.mk (within t.aS.length 1 12) ?_|refine aF.mk (within t.aS.length 1 12) ?_|refine aH.bI (within t.aS.length 1 12) ?_|refine aF.mk (bC.dI (within t.aS.length 1 12)) ?_
  simp -dsimp -implicitDefEqProofs only[go_sem,↓reduceIte,Tryz.f224]
  repeat'(with_reducible first|intro _|refine And.intro ?_ ?_)
  ·exact no λq=>by have:=q.lens;omega
  rename_i n hn _
  have e1:IntKind.i64.wrap ((t.aV.length:Int)-1)=t.aV.length-1:=IntWalk.i64_in _ aA
  rw[aO]
  refine cM aOT aK8 cF (λk:Nat=>[(1,.ip 4 [[I t.dK,gF 4 bH.c t.aV,gF 2 gA.c t.iA,ints t.aS]] 0 0),(3,.op n 1 0 0),(35,gF 4 bH.c t.aV),(36,I t.aV.length),(37,I k)]) (λ_=>aU h n (.row 1 [[.v (I t.aV.length)]])) (λk=>k<=t.aV.length/\∀ (j:Nat) (hj:j<t.aV.length),j<k->aFQ t.aV[j] j t.dK) (λk=>t.aV.length-k) 0 aFP ?_
  intro k ⟨hk,hp⟩
  rcases bT k t.aV.length with hlt|hge
  ·have ea:t.aV[k]?=some t.aV[k]:=eY hlt
   have hins:=a9W t t.aV[k] k aA aA
   rw[bH.aZ,iM.aZ]at hins
   simp -dsimp -implicitDefEqProofs only[go_sem,↓reduceIte,Tryz.f224,ea,bH.aZ]
   repeat'(with_reducible first|intro _|refine And.intro ?_ ?_)
   all_goals try omega
   rename_i b hbb
   have hle:∀ X,(aU h n (.row 1 [[.v (I t.aV.length)]])).le (aU (aU h n (.row 1 [[.v (I t.aV.length)]])) b X):=λX=>aB.bM (by rw[aC _ _ _ _ hbb.1];exact hbb.2) (aB.le_refl _)
   have a09:∀ X,h.le (aU (aU h n (.row 1 [[.v (I t.aV.length)]])) b X):=λX=>aB.le_trans (aB.bM hn (aB.le_refl _)) (hle X)
   rw[aO]
   first|refine aH.mk (hins) ?_|refine aF.mk (hins) ?_|refine aH.bI (hins) ?_|refine aF.mk (bC.dI (hins)) ?_
   simp -dsimp -implicitDefEqProofs only[go_sem,↓reduceIte,Tryz.f224]
   refine⟨λhq=>⟨no λq=>hq (q.code k hlt),a09 _⟩,λhq=>⟨k+1,IntWalk.i64_in _ aA,hle _,⟨by omega,?_⟩,by omega⟩⟩
   intro j hj hjk
   rcases aH0.1 hjk with z|rfl
   ·exact hp j hj z
   ·exact hq
  have hk':k=t.aV.length:=by omega
  subst hk'
  have hcode:aD2 t.dK t.aV:=λj hj=>hp j hj hj
  simp -dsimp -implicitDefEqProofs only[go_sem,↓reduceIte,Tryz.f224,bU]
  intro _
  refine cM aOT aK8 cF (λk:Nat=>[(1,.ip 4 [[I t.dK,gF 4 bH.c t.aV,gF 2 gA.c t.iA,ints t.aS]] 0 0),(3,.op n 1 0 0),(49,gF 2 gA.c t.iA),(50,I t.iA.length),(51,I k)]) (λ_=>aU h n (.row 1 [[.v (I t.aV.length)]])) (λk=>k<=t.iA.length/\∀ g∈t.iA.take k,0<=g.aLG/\g.aLG<=(t.aV.length:Int)-1) (λk=>t.iA.length-k) 0 aFP ?_
  intro k ⟨hk2,hp2⟩
  rcases bT k t.iA.length with hlt|hge
  ·have ea:t.iA[k]?=some t.iA[k]:=eY hlt
   have hins:=within t.iA[k].aLG 0 (t.aV.length-1)
   simp -dsimp -implicitDefEqProofs only[go_sem,↓reduceIte,Tryz.f224,ea,gA.aZ]
   repeat'(with_reducible first|intro _|refine And.intro ?_ ?_)
   all_goals try omega
   rename_i b hbb
   have hle:∀ X,(aU h n (.row 1 [[.v (I t.aV.length)]])).le (aU (aU h n (.row 1 [[.v (I t.aV.length)]])) b X):=λX=>aB.bM (by rw[aC _ _ _ _ hbb.1];exact hbb.2) (aB.le_refl _)
   have a09:∀ X,h.le (aU (aU h n (.row 1 [[.v (I t.aV.length)]])) b X):=λX=>aB.le_trans (aB.bM hn (aB.le_refl _)) (hle X)
   obtain⟨aD3,lY,lZ,aD4⟩:=cW (show ¬b=n from hbb.1)
   rw[aO]
   simp -dsimp -implicitDefEqProofs only[go_sem,↓reduceIte,Tryz.f224,lY,lZ,aC,e1]
   first|refine aH.mk (hins) ?_|refine aF.mk (hins) ?_|refine aH.bI (hins) ?_|refine aF.mk (bC.dI (hins)) ?_
   simp -dsimp -implicitDefEqProofs only[go_sem,↓reduceIte,Tryz.f224]
   refine⟨λhq=>⟨no λq=>hq (q.gds _ (kM hlt)),a09 _⟩,λhq=>⟨k+1,IntWalk.i64_in _ aA,hle _,⟨by omega,qI hlt hp2 hq⟩,by omega⟩⟩
  have hk':k=t.iA.length:=by omega
  subst hk'
  rw[nL]at hp2
  simp -dsimp -implicitDefEqProofs only[go_sem,↓reduceIte,Tryz.f224,bU]
  refine aH.bI (rX t.aS (λr=>!decide (0<=r/\r<=(t.aV.length:Int)-1)) 232 [.op n 1 0 0] λr _=>aUV r t.aV.length aA n (by simp[aP])) ?_
  simp -dsimp -implicitDefEqProofs only[go_sem,↓reduceIte,Tryz.f224]
  refine⟨?_,aB.bM hn (aB.le_refl _)⟩
  rw[aNT,decide_eq_decide]
  exact⟨λq=>⟨by omega,by omega,hcode,hp2,q⟩,λq=>q.outs⟩
 all_goals exact no λq=>by have:=q.lens;have:=q.inp;omega
theorem Shift.bND {x y:aE} {h h':aB} (s:Shift x h' y h) (n:Int):Shift (.gU [x,I n]) h' (.gU [y,I n]) h:=λE w v R r=>by
 cases r with
 |gU _ vs hl hr =>
  match vs,hl with
  | [v0,v1],_ =>
   obtain⟨E',ev,R',r'⟩:=s E w v0 R (hr 0 x v0 rfl rfl)
   have h1:=hr 1 (I n) v1 rfl rfl
   cases h1
   refine⟨E',ev,R',.gU _ _ rfl λi z u hz hu=>?_⟩
   match i with
   |0=>cases hz;cases hu;exact r'
   |1=>cases hz;cases hu;exact .int _ _
   |i+2=>cases hz
def jI (l:List (List Int)):bV:=.row 1 ((l.map λs=>[ints s]).map (List.map .v))
theorem aUW (l:List (List Int)) (s:List Int):jI (l++[s])=.row 1 (((l.map λs=>[ints s]).map (List.map Cell.v))++[[.v (ints s)]]):=by simp[jI]
theorem pN (l:List (List Int)) {k:Nat} (h:l.length=k) (s:List Int):bV.row 1 (List.take k ((l.map λs=>[ints s]).map (List.map Cell.v))++[[.v (aE.sl 1 (s.map λn=>[I n]) false)]])=jI (l++[s]):=by
 rw[aUW,nI (by simp[h])]
@[go_sem] def aYU:List Nat:=[0,1,2,4,6,9,10,11,12,13,20]
theorem bNE (t:iM) (ht:t.ok) (ls:List (List Int)) (hl:ls.length<=100) (hls:∀ l∈ls,(l.length:Int)=t.dK/\dW l):fE Tryz.prog 205 [.agg t.c,bW ls] (I 0):=by
 have hv:=a08 t aWU aWU aWU
 rw[decide_eq_true ht]at hv
 rw[iM.aZ]at hv ⊢
 refine fU 22 aYU a3X cF Tryz.func205 λh=>?_
 simp -dsimp -implicitDefEqProofs only[go_sem,↓reduceIte,Tryz.f205]
 first|refine aH.mk (hv) ?_|refine aF.mk (hv) ?_|refine aH.bI (hv) ?_|refine aF.mk (bC.dI (hv)) ?_
 simp -dsimp -implicitDefEqProofs only[go_sem,↓reduceIte,Tryz.f205]
 refine λ_=>?_
 refine cM aYU a3X cF (λk:Nat=>[(2,.ip 4 [[I t.dK,gF 4 bH.c t.aV,gF 2 gA.c t.iA,ints t.aS]] 0 0),(10,bW ls),(11,I ls.length),(12,I k)]) (λ_=>h) (λk=>k<=ls.length) (λk=>ls.length-k) 0 ⟨by simp[cR,b6],aB.le_refl _,eF _⟩ ?_
 intro k hk
 rcases bT k ls.length with hlt|hge
 ·have ea:ls[k]?=some ls[k]:=eY hlt
  have hn:=pJ ls[k] t.dK
  rw[decide_eq_true (hls _ (kM hlt))]at hn
  simp -dsimp -implicitDefEqProofs only[go_sem,↓reduceIte,Tryz.f205,hlt,ea]
  first|refine aH.mk (hn) ?_|refine aF.mk (hn) ?_|refine aH.bI (hn) ?_|refine aF.mk (bC.dI (hn)) ?_
  simp -dsimp -implicitDefEqProofs only[go_sem,↓reduceIte,Tryz.f205,hlt,ea]
  exact⟨k+1,IntWalk.i64_in _ aA,hlt,by omega⟩
 ·obtain rfl:k=ls.length:=by omega
  simp -dsimp -implicitDefEqProofs only[go_sem,↓reduceIte,Tryz.f205,bU,cT]
@[go_sem] def a9Y:List Nat:=[0,1,3,4]
theorem a5G (n:Int) {sz:Nat} (hsz:1<=sz/\sz<=1048576):fE Tryz.prog 187 [I n,.ip 1 [[I ((sz:Int)-1)]] 0 0] (ints (cS n sz)):=by
 have e1:IntKind.i64.wrap ((sz:Int)-1+1)=(sz:Int):=by rw[IntWalk.i64_in _ aA];omega
 have e2:=aDW (x:=[aE.int .i64 0]) hsz.1
 refine lS 12 a9Y cU cF Tryz.func187 λh=>?_
 simp -dsimp -implicitDefEqProofs only[go_sem,↓reduceIte,Tryz.f187,e1,tX,e2]
 refine⟨bD,by omega,by omega,by omega,λm hm=>⟨by omega,?_⟩⟩
 rw[aO,show Int.toNat 0=0 from rfl,aAD]
 exact eT _ hm (aB.le_refl _) (pL n sz).symm
@[go_sem] def aYV:List Nat:=[0,1,2,3,5,6,7,8,9,11,12,16,17,18,19,27,28,35,48,61,74,82,91]
@[go_sem] def bDZ:List Nat:=[3,5,13,105]
@[go_sem] def bD0:Marks:=λid=>match id with|11=>([2,4,7,9],(.op 0 (.op 1 (.op 5 (.op 6 (.op 2 (.op 3 (.op 4 (.op 7 (.op 8 (.op 9 (.op 10 (.op 11 .nil)))))))))))),[])|13=>([2,4,7,9],(.op 0 (.op 1 (.op 5 (.op 6 (.op 2 (.op 3 (.op 4 (.op 7 (.op 8 (.op 9 (.op 10 (.op 11 .nil)))))))))))),[])|15=>([2,4,7,9],(.op 0 (.op 1 (.op 5 (.op 6 (.op 2 (.op 3 (.op 4 (.op 7 (.op 8 (.op 9 (.op 10 (.op 11 .nil)))))))))))),[])|21=>([2,4,7,9],(.op 0 (.op 1 (.op 5 (.op 6 (.op 2 (.op 3 (.op 4 (.op 7 (.op 8 (.op 9 (.op 10 (.op 11 .nil)))))))))))),[])|_=>([],.nil,[])
theorem aMM (t:iM) {sz:Nat} (hsz:1<=sz/\sz<=1048576) (hins:∀ i c,t.aV[i]?=some c->bZ t.dK i c) (hcl:t.aV.length<=3200) (args:List (List Int)) (ha:∀ s∈args,bJ sz s) (hal:(args.length:Int)=t.dK)
  (hdiv:∀ (i:Nat) (c:bH),t.aV[i]?=some c->c.gS=6->¬(lR sz args t.aV c.fB.toNat).getD 0 0=0):fE Tryz.prog 137 [.agg t.c,bW args,I ((sz:Int)-1)] (.gU [bW (iD sz args t.aV t.aV.length),I 0]):=by
 rw[iM.aZ]
 refine lS 109 aYV bDZ bD0 Tryz.func137 λh=>?_
 simp -dsimp -implicitDefEqProofs only[go_sem,↓reduceIte,Tryz.f137]
 refine⟨by decide,λ_=>?_⟩
 refine cM aYV bDZ bD0 (λx:Nat×Option Nat=>[(1,bW args),(8,fT 1 x.1 x.2),(9,.fn (.func 187) [] [.ip 1 [[I ((sz:Int)-1)]] 0 0]),(16,gF 4 bH.c t.aV),(17,I t.aV.length),(18,I x.1)]) (λx=>cP h (jI (iD sz args t.aV x.1)) x.2) (λx=>x.1<=t.aV.length/\eM h (iD sz args t.aV x.1) x.2) (λx=>t.aV.length-x.1) (0,none) ⟨by simp[cR,b6,fT],aB.le_refl _,eF _,rfl⟩ ?_
 rintro⟨k,o⟩ ⟨hk,hos⟩
 simp only at hk hos ⊢
 have hml:=lC sz args t.aV k
 rcases bT k t.aV.length with hlt|hge
 ·have ek:t.aV[k]?=some t.aV[k]:=eY hlt
  have hin:=hins k _ ek
  have hdk:=hdiv k _ ek
  have hst:iD sz args t.aV (k+1)=iD sz args t.aV k++[opS sz args (iD sz args t.aV k) t.aV[k]]:=by
   rw[iD,show t.aV.getD k ⟨0,0,0,0⟩=t.aV[k]by rw[gG,ek];rfl]
  generalize hc:t.aV[k]=c at *
  have hconst:=a5G c.bB hsz
  generalize hR:iD sz args t.aV k=R at *
  have hgR:∀ i:Int,0<=i/\i<k->R[i.toNat]?=some (R.getD i.toNat [])/\bJ sz (R.getD i.toNat []):=λi hi=>by
   refine⟨s6 aA,?_⟩
   have h1:=s9 (sz:=sz) hins ha hal i.toNat aA
   rwa [lR,xJ sz args t.aV (k:=k) aA _ aA,hR]at h1
  cases o with
  |none =>
   rw[aY]at hos
   subst hos
   obtain rfl:k=0:=hml.symm
   simp -dsimp -implicitDefEqProofs only[go_sem,↓reduceIte,Tryz.f137,bE,aL,hlt,ek,bH.aZ]
   intro m hm
   rw[aO]
   first|refine aH.mk (hconst) ?_|refine aF.mk (hconst) ?_|refine aH.bI (hconst) ?_|refine aF.mk (bC.dI (hconst)) ?_
   simp -dsimp -implicitDefEqProofs only[go_sem,↓reduceIte,Tryz.f137]
   have hnext:∀ (g:aB) (b:Nat) (s:List Int),s=opS sz args [] c->h b=none->(aU h b (jI [s])).le g->∃ x':Nat×Option Nat,(aE.os b 1 0 1=fT 1 x'.1 x'.2/\IntKind.i64.wrap (((0:Nat):Int)+1)=(x'.1:Int))/\(cP h (jI (iD sz args t.aV x'.1)) x'.2).le g/\(x'.1<=t.aV.length/\eM h (iD sz args t.aV x'.1) x'.2)/\t.aV.length-x'.1<t.aV.length-0:=λg b s e z l=>by
    subst e
    exact⟨(1,some b),⟨rfl,IntWalk.i64_in _ aA⟩,by simp only[aJ,hst];exact l,⟨hlt,z⟩,by simp only;omega⟩
   rcases(show c.gS=1∨c.gS=2 by unfold bZ at hin;omega)with h1|h1
   ·have hn:0<=c.bB/\c.bB<args.length:=by unfold bZ at hin;omega
    have ea:args[c.bB.toNat]?=some (args.getD c.bB.toNat []):=s6 aA
    simp -dsimp -implicitDefEqProofs only[go_sem,↓reduceIte,Tryz.f137,h1,ea]
    refine⟨hn.1,hn.2,by decide,by decide,by decide,λb ⟨b1,b2⟩=>hnext _ b _ (by rw[opS,if_pos h1]) b2 (aB.oB (aB.bM hm (aB.le_refl _)))⟩
   ·simp -dsimp -implicitDefEqProofs only[go_sem,↓reduceIte,Tryz.f137,h1]
    refine⟨by decide,by decide,by decide,λb ⟨b1,b2⟩=>hnext _ b _ (by rw[opS,if_neg aA,if_pos h1]) b2 (aB.oB (aB.bM hm (aB.le_refl _)))⟩
  |some n =>
   rw[aQ]at hos
   simp -dsimp -implicitDefEqProofs only[go_sem,↓reduceIte,Tryz.f137,aR,aJ,hlt,ek,bH.aZ]
   refine λm ⟨dm,zm⟩=>?_
   obtain⟨yZ,kW,kX,aGA⟩:=cW (show ¬m=n from dm)
   rw[aO]
   first|refine aH.mk (hconst) ?_|refine aF.mk (hconst) ?_|refine aH.bI (hconst) ?_|refine aF.mk (bC.dI (hconst)) ?_
   simp -dsimp -implicitDefEqProofs only[go_sem,↓reduceIte,Tryz.f137]
   have hnext:∀ (g:aB) (b:Nat) (s:List Int),s=opS sz args R c->h b=none->(aU h b (jI (R++[s]))).le g->∃ x':Nat×Option Nat,(aE.os b 1 0 (k+1)=fT 1 x'.1 x'.2/\IntKind.i64.wrap ((k:Int)+1)=(x'.1:Int))/\(cP h (jI (iD sz args t.aV x'.1)) x'.2).le g/\(x'.1<=t.aV.length/\eM h (iD sz args t.aV x'.1) x'.2)/\t.aV.length-x'.1<t.aV.length-k:=λg b s e z l=>by
    subst e
    exact⟨(k+1,some b),⟨rfl,IntWalk.i64_in _ aA⟩,by simp only[aJ,hst];exact l,⟨hlt,z⟩,by simp only;omega⟩
   have aUX:∀ X Y,h.le (aU (aU (aU h n X) m Y) n .gone):=λX Y q=>by
    by_cases e1:q=n
    ·subst e1;exact .inl hos
    by_cases e2:q=m
    ·subst e2;exact .inl zm
    rw[aC _ _ _ _ e1,aC _ _ _ _ e2,aC _ _ _ _ e1];exact .inr rfl
   rcases(show c.gS=1∨c.gS=2∨c.gS=3∨c.gS=4∨c.gS=5∨c.gS=6∨c.gS=7 by unfold bZ at hin;omega)with h1|h1|h1|h1|h1|h1|h1
   ·have hn:0<=c.bB/\c.bB<args.length:=by unfold bZ at hin;omega
    have ea:args[c.bB.toNat]?=some (args.getD c.bB.toNat []):=s6 aA
    simp -dsimp -implicitDefEqProofs only[go_sem,↓reduceIte,Tryz.f137,h1,ea,kW,kX,aC,jI]
    refine⟨hn.1,hn.2,by decide,by decide,by decide,by omega,by omega,by omega,λb ⟨b1,b2,b3⟩=>hnext _ b _ (by rw[opS,if_pos h1]) b3 ?_⟩
    rw[pN R hml]
    exact aB.oB (aUX _ _)
   ·simp -dsimp -implicitDefEqProofs only[go_sem,↓reduceIte,Tryz.f137,h1,kW,kX,aC,jI]
    refine⟨by decide,by decide,by decide,by omega,by omega,by omega,λb ⟨b1,b2,b3⟩=>hnext _ b _ (by rw[opS,if_neg aA,if_pos h1]) b3 ?_⟩
    rw[pN R hml]
    exact aB.oB (aUX _ _)
   ·have na:=hgR c.fA aCY
    have nb:=hgR c.fB aCY
    have i0:(0<=c.fA/\c.fA<k)/\0<=c.fB/\c.fB<k:=by unfold bZ at hin;omega
    have hop:3<=c.gS->opS sz args R c=opW c.gS (R.getD c.fA.toNat []) (R.getD c.fB.toNat []):=λq=>by rw[opS,if_neg aA,if_neg aA]
    have hcall:=aF9 (added (R.getD c.fA.toNat []) (R.getD c.fB.toNat []) aWW aLU (vJ na.2.2) (vJ nb.2.2))
    simp -dsimp -implicitDefEqProofs only[go_sem,↓reduceIte,Tryz.f137,h1,jI,na.1,nb.1,kW,kX,aC]
    refine⟨by omega,by omega,by omega,by omega,aF.mk hcall ?_⟩
    simp -dsimp -implicitDefEqProofs only[go_sem,↓reduceIte,Tryz.f137,h1,jI,kW,kX,aC]
    refine⟨by decide,by decide,by decide,by omega,by omega,by omega,λb ⟨b1,b2,b3⟩=>hnext _ b _ aQE b3 ?_⟩
    rw[pN R hml]
    exact aB.oB (aUX _ _)
   ·have na:=hgR c.fA aCY
    have nb:=hgR c.fB aCY
    have i0:(0<=c.fA/\c.fA<k)/\0<=c.fB/\c.fB<k:=by unfold bZ at hin;omega
    have hop:3<=c.gS->opS sz args R c=opW c.gS (R.getD c.fA.toNat []) (R.getD c.fB.toNat []):=λq=>by rw[opS,if_neg aA,if_neg aA]
    have hcall:=reduced (R.getD c.fA.toNat []) (R.getD c.fB.toNat []) aWW aLU na.2.2 nb.2.2
    simp -dsimp -implicitDefEqProofs only[go_sem,↓reduceIte,Tryz.f137,h1,jI,na.1,nb.1,kW,kX,aC]
    refine⟨by omega,by omega,by omega,by omega,aF.mk hcall ?_⟩
    simp -dsimp -implicitDefEqProofs only[go_sem,↓reduceIte,Tryz.f137,h1,jI,kW,kX,aC]
    refine⟨by decide,by decide,by decide,by omega,by omega,by omega,λb ⟨b1,b2,b3⟩=>hnext _ b _ aQE b3 ?_⟩
    rw[pN R hml]
    exact aB.oB (aUX _ _)
   ·have na:=hgR c.fA aCY
    have nb:=hgR c.fB aCY
    have i0:(0<=c.fA/\c.fA<k)/\0<=c.fB/\c.fB<k:=by unfold bZ at hin;omega
    have hop:3<=c.gS->opS sz args R c=opW c.gS (R.getD c.fA.toNat []) (R.getD c.fB.toNat []):=λq=>by rw[opS,if_neg aA,if_neg aA]
    have hcall:=product (R.getD c.fA.toNat []) (R.getD c.fB.toNat []) aWW aLU na.2.2 nb.2.2
    simp -dsimp -implicitDefEqProofs only[go_sem,↓reduceIte,Tryz.f137,h1,jI,na.1,nb.1,kW,kX,aC]
    refine⟨by omega,by omega,by omega,by omega,aF.mk hcall ?_⟩
    simp -dsimp -implicitDefEqProofs only[go_sem,↓reduceIte,Tryz.f137,h1,jI,kW,kX,aC]
    refine⟨by decide,by decide,by decide,by omega,by omega,by omega,λb ⟨b1,b2,b3⟩=>hnext _ b _ aQE b3 ?_⟩
    rw[pN R hml]
    exact aB.oB (aUX _ _)
   ·have na:=hgR c.fA aCY
    have nb:=hgR c.fB aCY
    have i0:(0<=c.fA/\c.fA<k)/\0<=c.fB/\c.fB<k:=by unfold bZ at hin;omega
    have hop:3<=c.gS->opS sz args R c=opW c.gS (R.getD c.fA.toNat []) (R.getD c.fB.toNat []):=λq=>by rw[opS,if_neg aA,if_neg aA]
    have hcall:=quotient (R.getD c.fA.toNat []) (R.getD c.fB.toNat []) aWW aLU aLU na.2.2 nb.2.2
    have hz:¬(R.getD c.fB.toNat []).getD 0 0=0:=by
     have h2:=hdk h1
     rwa [lR,xJ sz args t.aV (k:=k) aA _ aA,hR]at h2
    have gz:(R.getD c.fB.toNat [])[Int.toNat 0]?=some ((R.getD c.fB.toNat []).getD 0 0):=cQ (by rw[nb.2.1];exact hsz.1)
    have lz:=nb.2.1
    simp -dsimp -implicitDefEqProofs only[go_sem,↓reduceIte,Tryz.f137,h1,jI,na.1,nb.1,gz,hz,kW,kX,aC]
    refine⟨by omega,by omega,by rw[lz];omega,by omega,by omega,by omega,by omega,aF.mk hcall ?_⟩
    simp -dsimp -implicitDefEqProofs only[go_sem,↓reduceIte,Tryz.f137,h1,jI,kW,kX,aC]
    refine⟨by decide,by decide,by decide,by omega,by omega,by omega,λb ⟨b1,b2,b3⟩=>hnext _ b _ aQE b3 ?_⟩
    rw[pN R hml]
    exact aB.oB (aUX _ _)
   ·have na:=hgR c.fA aCY
    have hop:3<=c.gS->opS sz args R c=opW c.gS (R.getD c.fA.toNat []) (R.getD c.fB.toNat []):=λq=>by rw[opS,if_neg aA,if_neg aA]
    have i0:0<=c.fA/\c.fA<k:=by unfold bZ at hin;omega
    have hcall:=scaled (R.getD c.fA.toNat []) 1000002 nD aLU na.2.2
    simp -dsimp -implicitDefEqProofs only[go_sem,↓reduceIte,Tryz.f137,h1,jI,na.1,kW,kX,aC]
    refine⟨by omega,by omega,aH.mk hcall ?_⟩
    simp -dsimp -implicitDefEqProofs only[go_sem,↓reduceIte,Tryz.f137,h1,jI,kW,kX,aC]
    refine⟨by decide,by decide,by decide,by omega,by omega,by omega,λb ⟨b1,b2,b3⟩=>hnext _ b _ aQE b3 ?_⟩
    rw[pN R hml]
    exact aB.oB (aUX _ _)
 ·have hk':k=t.aV.length:=by omega
  subst hk'
  cases o with
  |none =>
   rw[aY]at hos
   simp -dsimp -implicitDefEqProofs only[go_sem,↓reduceIte,Tryz.f137,bE,aL,bU,cT]
   rw[hos]
   exact Shift.of (Sub.gU (.cons (Sub.loose _ _ _) (.cons (.refl _) .nil))) (aB.le_refl _)
  |some n =>
   rw[aQ]at hos
   simp -dsimp -implicitDefEqProofs only[go_sem,↓reduceIte,Tryz.f137,aR,aJ,bU,cT]
   have h1:=lG (iD sz args t.aV t.aV.length) hos (aB.le_refl _) hml.symm
   exact h1.bND 0
def u3 (sz:Nat):List Int:=List.replicate sz 0
def pO (r:Int) (s:List Int) (A:List (List Int)):List (List Int):=A.set r.toNat (jJ (A.getD r.toNat []) s)
def jR (c:bH) (rg:List (List Int)) (k:Nat) (A:List (List Int)):List (List Int) :=
 if c.gS=3 then pO c.fB (A.getD k []) (pO c.fA (A.getD k []) A)
 else if c.gS=4 then pO c.fB (gW (A.getD k []) 1000002) (pO c.fA (A.getD k []) A)
 else if c.gS=5 then pO c.fB (mulL (A.getD k []) (rg.getD c.fA.toNat [])) (pO c.fA (mulL (A.getD k []) (rg.getD c.fB.toNat [])) A)
 else if c.gS=6 then pO c.fB (gW (mulL (fZ (A.getD k []) (rg.getD c.fB.toNat [])) (rg.getD k [])) 1000002) (pO c.fA (fZ (A.getD k []) (rg.getD c.fB.toNat [])) A)
 else if c.gS=7 then pO c.fA (gW (A.getD k []) 1000002) A
 else A
def mG (code:List bH) (rg A:List (List Int)):Nat->Nat->List (List Int)
 |0,_=>A
 |n+1,j=>jR (code.getD j ⟨0,0,0,0⟩) rg j (mG code rg A n (j+1))
def pA (outs ws:List Int) (A:List (List Int)):Nat->List (List Int)
 |0=>A
 |k+1=>(pA outs ws A k).set (outs.getD k 0).toNat (((pA outs ws A k).getD (outs.getD k 0).toNat []).set 0 ((((pA outs ws A k).getD (outs.getD k 0).toNat []).getD 0 0+ws.getD k 0)%1000003))
def dH (sz n:Nat) (A:List (List Int)):Prop:=A.length=n/\∀ s∈A,bJ sz s
theorem dH.get {sz n:Nat} {A:List (List Int)} (h:dH sz n A) {i:Nat} (hi:i<n):A[i]?=some (A.getD i [])/\bJ sz (A.getD i []):=by
 have h1:=s6 (env:=A) (i:=i) (by rw[h.1];exact hi)
 exact⟨h1,h.2 _ (rS h1)⟩
theorem dH.set {sz n:Nat} {A:List (List Int)} (h:dH sz n A) {s:List Int} (hs:bJ sz s) (i:Nat):dH sz n (A.set i s):=⟨by rw[tW];exact h.1,λx hx=>by
 rcases wJ hx with hx|rfl
 ·exact h.2 x hx
 ·exact hs⟩
theorem dH.put {sz n:Nat} {A:List (List Int)} (h:dH sz n A) {r:Int} (hr:r.toNat<n) {s:List Int} (hs:bJ sz s):dH sz n (pO r s A):=h.set (mT (h.get hr).2 hs) _
theorem aMN (A:List (List Int)) (k:Nat) (s:List Int):bV.row 1 (((A.map λs=>[ints s]).map (List.map Cell.v)).set k [.v (ints s)])=jI (A.set k s):=by
 rw[jI,aHZ,aHZ];rfl
@[go_sem] def a9Z:List Nat:=[0,1,2]
@[go_sem] def bNF:Marks:=λid=>match id with|0=>([0,2,5,9],(.op 1 (.op 3 (.op 6 (.op 0 (.op 2 (.op 4 (.op 5 (.op 7 (.op 8 (.op 9 .nil)))))))))),[])|_=>([],.nil,[])
theorem aOU {sz n:Nat} (hsz:1<=sz/\sz<=1048576) {A:List (List Int)} (hA:dH sz n A) {r:Int} (hr:0<=r/\r<n) {s:List Int} (hs:bJ sz s) {g:aB} {nb b:Nat} (hb:g nb=some (.row 1 [[.v (.os b 1 0 n)]])) (hg:g b=some (jI A)) :
  iV Tryz.prog 188 [I r,ints s,.op nb 1 0 0] g λr_ h'=>h'=aU g b (jI (pO r s A)):=by
 have hq:=hA.get (i:=r.toNat) aA
 have hcall:=aF9 (added (A.getD r.toNat []) s (by rw[hs.1,hq.2.1]) (by rw[hq.2.1];omega) (vJ hq.2.2) (vJ hs.2))
 unfold jI at hg
 refine aGO 14 a9Z cU bNF Tryz.func188 ?_
 simp -dsimp -implicitDefEqProofs only[go_sem,↓reduceIte,Tryz.f188,hb,hg,hq.1]
 refine⟨hr.1,hr.2,aF.mk hcall ?_⟩
 simp -dsimp -implicitDefEqProofs only[go_sem,↓reduceIte,Tryz.f188,hb,hg,hq.1]
 exact⟨hr.1,hr.2,_,by have h1:=aMN A r.toNat (jJ (A.getD r.toNat []) s);rw[h1];exact aB.le_refl _,rfl⟩
theorem a5H {b sz:Nat}:∀ (N:List Nat) (A pre:List (List Int)) (g:aB),N.length=A.length->N.Nodup->(∀ k n,N[k]?=some n->g n=some (mE (A.getD k []))/\¬n=b)->(∀ s∈A,s.length=sz)->g b=some (.row 1 ((pre.map λs=>[ints s]).map (List.map .v)++(N.map λn=>[aE.os n 1 0 sz]).map (List.map .v))) ->
  ∃ g':aB,g'.wk g/\g' b=some (jI (pre++A))/\∀ q,¬q=b->q∉N->g' q=g q
 | [],[],pre,g,_,_,_,_,hb=>⟨g,aB.kR (aB.le_refl _),by rw[hb,dP,v7,v7,dP];rfl,λ_ _ _=>rfl⟩
 | [],_::_,_,_,h,_,_,_,_=>by simp at h
 | _::_,[],_,_,h,_,_,_,_=>by simp at h
 |n::N,s::A,pre,g,hl,hnd,hN,hs,hb=>by
  obtain⟨hn,hnb⟩:=hN 0 n rfl
  rw[show(s::A).getD 0 []=s from rfl]at hn
  have hsl:=hs s (.head _)
  have hnn:n∉N:=(aFN.1 hnd).1
  have hat:∀ (es:List (List Cell)) i j x,iJ es i j=some x->∃ e∈es,x∈e:=λes i j x hx=>by
   obtain⟨e,h1,h2⟩:=kP hx
   exact⟨e,rS h1,rS h2⟩
  have hw:=aB.aYI (m:=n) (b:=b) hn hb (iK hnb) (λi j x hx=>by
   obtain⟨e,he,hxe⟩:=hat _ i j _ hx
   rcases oW.1 he with he|he
   ·obtain⟨e1,h1,rfl⟩:=lA.1 he
    obtain⟨r,_,rfl⟩:=lA.1 h1
    simp only[p5,v7,jL,Cell.v.injEq]at hxe
    subst hxe;rfl
   ·obtain⟨e1,h1,rfl⟩:=lA.1 he
    obtain⟨r,_,rfl⟩:=lA.1 h1
    simp only[p5,v7,jL,Cell.v.injEq]at hxe
    subst hxe
    simp[jB,hsl])
  have hrow:(((pre.map λs=>[ints s]).map (List.map Cell.v)++((n::N).map λn=>[aE.os n 1 0 sz]).map (List.map Cell.v))).map (List.map (Cell.yX n (eU ((s.map λn=>[I n]).map (List.map Cell.v)))))=((pre++[s]).map λs=>[ints s]).map (List.map .v)++(N.map λn=>[aE.os n 1 0 sz]).map (List.map .v):=by
   rw[aR5,lT,lT,lT,aNB]
   congr 1
   ·simp only[yS]
    exact zE λr _=>rfl
   ·rw[p5,p5,p5]
    show _::_=[_]++_
    rw[List.singleton_append]
    congr 1
    ·simp only[p5,v7,Cell.yX,aE.fG,if_true,aP0]
     rw[nI (by rw[gT,hsl];exact bX _)]
    ·simp only[yS]
     refine zE λr hr=>?_
     have h1:¬r=n:=λe=>hnn (e▸hr)
     simp[Cell.yX,aE.fG,h1]
  rw[hrow]at hw
  obtain⟨g',w1,w2,w3⟩:=a5H N A (pre++[s]) (aU (aU g n .gone) b (.row 1 (((pre++[s]).map λs=>[ints s]).map (List.map Cell.v)++(N.map λn=>[aE.os n 1 0 sz]).map (List.map Cell.v)))) aQG (aFN.1 hnd).2 (λk m hm=>by
   have h1:=hN (k+1) m (by simpa using hm)
   have h2:¬m=n:=λe=>hnn (e▸rS hm)
   refine⟨?_,h1.2⟩
   rw[aC _ _ _ _ h1.2,aC _ _ _ _ h2]
   simpa using h1.1) (λx hx=>hs x (.tail _ hx)) (aI _ _ _)
  refine⟨g',w1.trans hw,by rw[w2,aNB];rfl,λq h1 h2=>?_⟩
  have h3:¬q=n:=λe=>h2 (e▸.head _)
  rw[w3 q h1 λh=>h2 (.tail _ h),aC _ _ _ _ h1,aC _ _ _ _ h3]
theorem a1A {sz n:Nat} (hsz:1<=sz) {inp:Int} {k:Nat} (hk:k<n) {c:bH} (hc:bZ inp k c) {rg:List (List Int)} (hrg:dH sz n rg) {A:List (List Int)} (hA:dH sz n A):dH sz n (jR c rg k A):=by
 have h0:=(hA.get hk).2
 unfold bZ at hc
 unfold jR
 have hr:∀ x:Int,0<=x/\x<k->bJ sz (rg.getD x.toNat []):=λx hx=>(hrg.get aA).2
 by_cases h3:c.gS=3
 ·rw[if_pos h3];exact(hA.put aA h0).put aA h0
 rw[if_neg h3]
 by_cases h4:c.gS=4
 ·rw[if_pos h4];exact(hA.put aA h0).put aA (eJ _ h0)
 rw[if_neg h4]
 by_cases h5:c.gS=5
 ·rw[if_pos h5];exact(hA.put aA (c6 _ h0)).put aA (c6 _ h0)
 rw[if_neg h5]
 by_cases h6:c.gS=6
 ·rw[if_pos h6];exact(hA.put aA (k8 _ h0)).put aA (eJ _ (c6 _ (k8 _ h0)))
 rw[if_neg h6]
 by_cases h7:c.gS=7
 ·rw[if_pos h7];exact hA.put aA (eJ _ h0)
 ·rw[if_neg h7];exact hA
theorem pB {sz:Nat} (hsz:1<=sz/\sz<=1048576) {inp:Int} {code:List bH} (hins:∀ i c,code[i]?=some c->bZ inp i c) {rg:List (List Int)} (hrg:dH sz code.length rg) {A:List (List Int)} (hA:dH sz code.length A):∀ n j,n+j=code.length->dH sz code.length (mG code rg A n j)
 |0,_,_=>hA
 |n+1,j,h=>by
  have ec:code[j]?=some code[j]:=eY aA
  rw[mG,show code.getD j ⟨0,0,0,0⟩=code[j]by rw[gG,ec];rfl]
  exact a1A hsz.1 aA (hins j _ ec) hrg (pB hsz hins hrg hA n (j+1) aA)
structure aCF (h:aB) (nb b sz:Nat) (N:List Nat) (A:List (List Int)) (g:aB):Prop where
 ser:dH sz N.length A
 nodup:N.Nodup
 out:∀ n∈N,¬n=nb/\¬n=b/\h n=none
 get:∀ k n,N[k]?=some n->g n=some (mE (A.getD k []))
 bk:g b=some (.row 1 ((N.map λn=>[aE.os n 1 0 sz]).map (List.map .v)))
 nbk:g nb=some (.row 1 [[.v (.os b 1 0 N.length)]])
 keep:∀ q o,h q=some o->g q=some o
 bn:h b=none/\h nb=none/\¬b=nb
theorem aFH (sz:Nat):bJ sz (u3 sz):=⟨by simp[u3],λx hx=>by rw[(aH1.1 hx).2];unfold iW;omega⟩
theorem aOV (sz:Nat):bV.row 1 ((List.replicate sz [aE.int IntKind.i64 0]).map (List.map .v))=mE (u3 sz):=by rw[mE,u3];simp[List.map_replicate]
theorem aCF.first {h:aB} {nb n b sz:Nat} (hn:h nb=none) (n1:¬n=nb) (n2:h n=none) (b1:¬b=n) (b2:¬b=nb) (b3:h b=none) {X:bV} :
  aCF h nb b sz [n] [u3 sz] (aU (aU (aU (aU h nb X) n (mE (u3 sz))) b (.row 1 [[.v (.os n 1 0 sz)]])) nb (.row 1 [[.v (.os b 1 0 1)]])):=by
 refine⟨⟨rfl,λs hs=>by rw[jL.1 hs];exact aFH sz⟩,by simp,λm hm=>by rw[jL.1 hm];exact⟨n1,iK b1,n2⟩,λk m hk=>?_,?_,aI _ _ _,λq o hq=>?_,b3,hn,b2⟩
 ·match k with
  |0 =>
   cases hk
   rw[aC _ _ _ _ n1,aC _ _ _ _ (iK b1),aI];rfl
  |k+1=>cases hk
 ·rw[aC _ _ _ _ b2,aI];rfl
 ·rw[aC _ _ _ _ (λe=>by rw[e,hn]at hq;cases hq),aC _ _ _ _ (λe=>by rw[e,b3]at hq;cases hq),aC _ _ _ _ (λe=>by rw[e,n2]at hq;cases hq),aC _ _ _ _ (λe=>by rw[e,hn]at hq;cases hq)];exact hq
theorem aCF.free {h g:aB} {nb b sz:Nat} {N:List Nat} {A:List (List Int)} (H:aCF h nb b sz N A g) {n:Nat} (hn:g n=none):¬n=nb/\¬n=b/\n∉N/\h n=none:=by
 refine⟨(λe=>by rw[e,H.nbk]at hn;cases hn),(λe=>by rw[e,H.bk]at hn;cases hn),λe=>?_,?_⟩
 ·obtain⟨k,hk,ek⟩:=wM.1 e
  have:=H.get k n (by rw[eY hk,ek])
  rw[this]at hn;cases hn
 ·cases hq:h n with
  |none=>rfl
  |some o=>rw[H.keep n o hq]at hn;cases hn
theorem aCF.more {h g:aB} {nb b sz:Nat} {N:List Nat} {A:List (List Int)} (H:aCF h nb b sz N A g) {n b':Nat} (hn:g n=none) (b1:¬b'=n) (hb:g b'=none) :
  aCF h nb b' sz (N++[n]) (A++[u3 sz]) (aU (aU (aU (aU g n (mE (u3 sz))) b .gone) b' (.row 1 ((N.map λn=>[aE.os n 1 0 sz]).map (List.map .v)++[[.v (.os n 1 0 sz)]]))) nb (.row 1 [[.v (.os b' 1 0 (N.length+1))]])):=by
 obtain⟨f1,f2,f3,f4⟩:=H.free hn
 obtain⟨e1,e2,e3,e4⟩:=H.free hb
 obtain⟨g1,g2,g3⟩:=H.bn
 have hl:=H.ser.1
 refine⟨⟨by simp[hl],λs hs=>?_⟩,?_,λm hm=>?_,λk m hk=>?_,?_,?_,λq o hq=>?_,e4,g2,e1⟩
 ·rcases oW.1 hs with hs|hs
  ·exact H.ser.2 s hs
  ·rw[jL.1 hs];exact aFH sz
 ·rw[wK]
  exact⟨H.nodup,by simp,λx hx y hy e=>by rw[jL.1 hy]at e;exact f3 (e▸hx)⟩
 ·rcases oW.1 hm with hm|hm
  ·have:=H.out m hm
   exact⟨this.1,λe=>e3 (e▸hm),this.2.2⟩
  ·rw[jL.1 hm]
   exact⟨f1,iK b1,f4⟩
 ·rcases bT k N.length with h1|h1
  ·rw[tU h1]at hk
   have hmem:=rS hk
   have ho:=H.out m hmem
   rw[aC _ _ _ _ ho.1,aC _ _ _ _ (λe=>e3 (by rw[←e];exact hmem)),aC _ _ _ _ ho.2.1,aC _ _ _ _ (λe=>f3 (by rw[←e];exact hmem)),H.get k m hk,gG,gG,tU aA]
  ·rw[v8 h1]at hk
   have h2:k-N.length=0:=by
    rcases a0A (k-N.length)with q|q
    ·exact q
    ·rw[aNC (by rw[nA];exact q)]at hk;cases hk
   rw[h2]at hk
   cases hk
   rw[aC _ _ _ _ f1,aC _ _ _ _ (iK b1),aC _ _ _ _ f2,aI,gG,v8 aA,show k-A.length=0 by omega];rfl
 ·rw[aC _ _ _ _ e1,aI,lT,lT];rfl
 ·rw[aI,gD];rfl
 ·have hgq:=H.keep q o hq
  rw[aC _ _ _ _ (λe=>by rw[e,g2]at hq;cases hq),aC _ _ _ _ (λe=>by rw[e,e4]at hq;cases hq),aC _ _ _ _ (λe=>by rw[e,g1]at hq;cases hq),aC _ _ _ _ (λe=>by rw[e,f4]at hq;cases hq)];exact hgq
theorem aCF.set {h g:aB} {nb b sz:Nat} {N:List Nat} {A:List (List Int)} (H:aCF h nb b sz N A g) {r n:Nat} (hr:N[r]?=some n) {s:List Int} (hs:bJ sz s):aCF h nb b sz N (A.set r s) (aU g n (mE s)):=by
 have hrl:r<N.length:=(iO.1 hr).1
 have hl:=H.ser.1
 have ho:=H.out n (rS hr)
 refine⟨H.ser.set hs r,H.nodup,H.out,λk m hk=>?_,?_,?_,λq o hq=>?_,H.bn⟩
 ·by_cases e:k=r
  ·subst e
   rw[hr]at hk
   cases hk
   rw[aI,gG,qT aA];rfl
  ·have hne:¬m=n:=λq=>by
    subst q
    have hkl:k<N.length:=(iO.1 hk).1
    exact e ((aV6 hkl H.nodup).1 (hk.trans hr.symm))
   rw[aC _ _ _ _ hne,H.get k m hk,gG,gG,rT (iK e)]
 ·rw[aC _ _ _ _ (iK ho.2.1)];exact H.bk
 ·rw[aC _ _ _ _ (iK ho.1)];exact H.nbk
 ·rw[aC _ _ _ _ (λe=>by rw[e,ho.2.2]at hq;cases hq)];exact H.keep q o hq
theorem aCF.seal {h g:aB} {nb b sz:Nat} {N:List Nat} {A:List (List Int)} (H:aCF h nb b sz N A g):(aU (aU h nb (.row 1 [[.v (.os b 1 0 N.length)]])) b (jI A)).wk g:=by
 obtain⟨g',w1,w2,w3⟩:=a5H (b:=b) (sz:=sz) N A [] g H.ser.1.symm H.nodup (λk n hk=>⟨H.get k n hk,(H.out n (rS hk)).2.1⟩) (λs hs=>(H.ser.2 s hs).1) H.bk
 refine aB.wk.trans (aB.kR λq=>?_) w1
 by_cases e:q=b
 ·subst e;rw[aI];exact .inr w2.symm
 rw[aC _ _ _ _ e]
 by_cases e2:q=nb
 ·subst e2
  rw[aI,w3 q e λhq=>(H.out q hq).1 rfl];exact .inr H.nbk.symm
 rw[aC _ _ _ _ e2]
 cases hq:h q with
 |none=>exact .inl rfl
 |some o =>
  right
  rw[w3 q e λhn=>by rw[(H.out q hn).2.2]at hq;cases hq]
  exact(H.keep q o hq).symm
@[go_sem] def aHG:List Nat:=[0,1,2,3,6,7,9,10,11,12,13,14,15,16,18,19,20,21,32,33,34,35,61,75,76,88,101,125,150]
@[go_sem] def aYW:List Nat:=[3,17,28]
@[go_sem] def aYX:Marks:=λid=>match id with|5=>([0,2,3,5,6],(.op 1 (.op 0 (.op 2 (.op 3 (.op 4 (.op 5 (.op 6 .nil))))))),[(0,2),(0,3)])|10=>([0,3,4,7,9,13,14,16],(.op 1 (.op 5 (.op 10 (.op 11 (.op 12 (.op 0 (.op 2 (.op 3 (.op 4 (.op 6 (.op 7 (.op 8 (.op 9 (.op 13 (.op 14 (.op 15 (.op 16 .nil))))))))))))))))),[(0,14),(3,14)])|15=>([1,4,5,8,9,10],(.op 0 (.op 2 (.op 6 (.op 1 (.op 3 (.op 4 (.op 5 (.op 7 (.op 8 (.op 9 (.op 10 (.op 11 .nil)))))))))))),[(1,9),(4,9),(5,9),(5,10),(8,9),(8,10)])|23=>([2,4,5],(.op 0 (.op 1 (.op 3 (.op 2 (.op 4 (.op 5 .nil)))))),[(2,4)])|25=>([2,6,8,9,10],(.op 0 (.op 1 (.op 3 (.op 4 (.op 5 (.op 2 (.op 6 (.op 7 (.op 8 (.op 9 (.op 10 .nil))))))))))),[(2,9)])|26=>([2,6,8,9,10],(.op 0 (.op 1 (.op 3 (.op 4 (.op 5 (.op 2 (.op 6 (.op 7 (.op 8 (.op 9 (.op 10 .nil))))))))))),[(2,9)])|30=>([2,7,8,9,10],(.op 0 (.op 1 (.op 3 (.op 4 (.op 5 (.op 6 (.op 2 (.op 7 (.op 8 (.op 9 (.op 10 .nil))))))))))),[(2,8),(2,9)])|32=>([2,4,5],(.op 0 (.op 1 (.op 3 (.op 2 (.op 4 (.op 5 .nil)))))),[(2,4)])|_=>([],.nil,[])
set_option maxHeartbeats 4000000 in
theorem aSF (t:iM) {sz:Nat} (hsz:1<=sz/\sz<=1048576) (hins:∀ i c,t.aV[i]?=some c->bZ t.dK i c) (hcl:1<=t.aV.length/\t.aV.length<=3200) (rg:List (List Int)) (hrg:dH sz t.aV.length rg) (ws:List Int) (hws:ws.length=t.aS.length) (hwn:dW ws) (hol:t.aS.length<=100) (ho:∀ r∈t.aS,0<=r/\r<t.aV.length) :
  fE Tryz.prog 138 [.agg t.c,bW rg,ints ws] (bW (mG t.aV rg (pA t.aS ws (List.replicate t.aV.length (u3 sz)) t.aS.length) t.aV.length 0)):=by
 rw[iM.aZ]
 refine lS 159 aHG aYW aYX Tryz.func138 λh=>?_
 simp -dsimp -implicitDefEqProofs only[go_sem,↓reduceIte,Tryz.f138]
 refine⟨by decide,λnb hnb hlc=>?_⟩
 rw[aO]
 have hrl:rg.length=t.aV.length:=hrg.1
 refine cM aHG aYW aYX (λx:Nat×aB=>[(1,bW rg),(2,ints ws),(3,.ip 4 [[I t.dK,gF 4 bH.c t.aV,gF 2 gA.c t.iA,ints t.aS]] 0 0),(7,.op nb 1 0 0),(18,bW rg),(19,I rg.length),(20,I x.1)]) (λx=>x.2) (λx=>x.1<=t.aV.length/\((x.1=0/\x.2=aU h nb (.row 1 [[.v (.sl 1 [] true)]]))∨∃ b N,N.length=x.1/\aCF h nb b sz N (List.replicate x.1 (u3 sz)) x.2)) (λx=>t.aV.length-x.1) (0,aU h nb (.row 1 [[.v (.sl 1 [] true)]])) ⟨by simp[cR,b6],aB.le_refl _,eF _,.inl ⟨rfl,rfl⟩⟩ ?_
 rintro⟨k,g⟩ ⟨hk,hg⟩
 simp only at hk hg ⊢
 rcases bT k t.aV.length with hlt|hge
 ·have er:=hrg.get hlt
  have lr:=er.2.1
  rcases hg with⟨rfl,rfl⟩|⟨b,N,hN,H⟩
  ·simp -dsimp -implicitDefEqProofs only[go_sem,↓reduceIte,Tryz.f138,er.1,hrl,hlt,lr]
   refine λ_=>⟨by decide,bX _,by omega,by omega,λn ⟨n1,n2⟩=>?_⟩
   obtain⟨aCD,iP,iQ,rK⟩:=cW (show ¬n=nb from n1)
   refine⟨by rw[aC _ _ _ _ rK,aI],by decide,by decide,by decide,λb ⟨b1,b2,b3⟩=>?_⟩
   obtain⟨nP,gJ,gI,nQ⟩:=cW (show ¬b=nb from b2)
   obtain⟨aD3,lY,lZ,aD4⟩:=cW (show ¬b=n from b1)
   simp -dsimp -implicitDefEqProofs only[go_sem,↓reduceIte,Tryz.f138,iP,lZ,iQ,gI,lY,gJ,aC,aP,aOV]
   exact⟨(1,_),⟨hrl.symm,IntWalk.i64_in _ aA⟩,aB.le_refl _,⟨hlt,.inr ⟨b,[n],rfl,aCF.first hnb n1 n2 b1 b2 b3⟩⟩,by simp only;omega⟩
  ·have hb:=H.bk
   have hnb:=H.nbk
   simp -dsimp -implicitDefEqProofs only[go_sem,↓reduceIte,Tryz.f138,er.1,hrl,hlt,lr,hnb,hb]
   refine λ_=>⟨by decide,bX _,by omega,by omega,λn n2=>?_⟩
   obtain⟨f1,f2,f3,f4⟩:=H.free n2
   obtain⟨aCD,iP,iQ,rK⟩:=cW (show ¬n=nb from f1)
   obtain⟨aD4,lZ,lY,aD3⟩:=cW (show ¬n=b from f2)
   refine⟨by rw[aC _ _ _ _ rK];exact hnb,by decide,by decide,by decide,?_⟩
   obtain⟨nP,gJ,gI,nQ⟩:=cW (show ¬b=nb from H.bn.2.2)
   simp -dsimp -implicitDefEqProofs only[go_sem,↓reduceIte,Tryz.f138,iP,lZ,iQ,gI,lY,gJ,aC,hnb,hb]
   refine⟨bX _,by omega,by omega,λc ⟨c1,c2⟩=>?_⟩
   obtain⟨x1,x2,x3,x4⟩:=H.free c2
   obtain⟨bT5,bG1,bG2,bT6⟩:=cW (show ¬c=nb from x1)
   obtain⟨bNH,bD1,bD2,bNI⟩:=cW (show ¬c=b from x2)
   obtain⟨bXB,bNJ,bNK,bXC⟩:=cW (show ¬c=n from c1)
   simp -dsimp -implicitDefEqProofs only[go_sem,↓reduceIte,Tryz.f138,iP,lZ,bNK,iQ,gI,bG2,lY,gJ,bD2,bNJ,bG1,bD1,aC,hnb,hb,aOV]
   rw[nI dG]
   exact⟨(k+1,_),⟨hrl.symm,IntWalk.i64_in _ aA⟩,aB.le_refl _,⟨hlt,.inr ⟨c,N++[n],by rw[gD,hN];rfl,by rw[a2M];exact H.more n2 c1 c2⟩⟩,by simp only;omega⟩
 ·have hk':k=t.aV.length:=by omega
  subst hk'
  rcases hg with⟨h0,_⟩|⟨b,N,hN,H⟩
  ·omega
  simp -dsimp -implicitDefEqProofs only[go_sem,↓reduceIte,Tryz.f138,hrl,bU,cT]
  refine λ_=>?_
  clear hk hge
  have hsw:∀ k,k<=t.aS.length->dH sz t.aV.length (pA t.aS ws (List.replicate t.aV.length (u3 sz)) k):=λk=>by
   induction k with
   |zero=>exact λ_=>hN▸H.ser
   |succ k ih =>
    intro hk
    have h1:=ih aA
    have hr:=ho (t.aS.getD k 0) a7T
    have h2:=(h1.get (i:=(t.aS.getD k 0).toNat) aA).2
    refine h1.set ⟨by rw[tW];exact h2.1,λx hx=>?_⟩ _
    rcases wJ hx with hx|rfl
    ·exact h2.2 x hx
    ·exact eO _
  refine cM aHG aYW aYX (λx:Nat×aB=>[(1,bW rg),(2,ints ws),(3,.ip 4 [[I t.dK,gF 4 bH.c t.aV,gF 2 gA.c t.iA,ints t.aS]] 0 0),(7,.op nb 1 0 0),(32,ints t.aS),(33,I t.aS.length),(34,I x.1)]) (λx=>x.2) (λx=>x.1<=t.aS.length/\aCF h nb b sz N (pA t.aS ws (List.replicate t.aV.length (u3 sz)) x.1) x.2) (λx=>t.aS.length-x.1) (0,g) ⟨by simp[cR,b6],aB.le_refl _,eF _,H⟩ ?_
  clear H g
  rintro⟨k,g⟩ ⟨hk,H⟩
  simp only at hk H ⊢
  have hb:=H.bk
  have aUY:=H.nbk
  rcases bT k t.aS.length with hlt|hge
  ·have eo:t.aS[k]?=some (t.aS.getD k 0):=cQ hlt
   have ew:ws[k]?=some (ws.getD k 0):=cQ aA
   have hr:=ho _ (rS eo)
   have hsn:=hsw (k+1) hlt
   have hs0:=hsw k aA
   have hst:pA t.aS ws (List.replicate t.aV.length (u3 sz)) (k+1)=(pA t.aS ws (List.replicate t.aV.length (u3 sz)) k).set (t.aS.getD k 0).toNat (((pA t.aS ws (List.replicate t.aV.length (u3 sz)) k).getD (t.aS.getD k 0).toNat []).set 0 ((((pA t.aS ws (List.replicate t.aV.length (u3 sz)) k).getD (t.aS.getD k 0).toNat []).getD 0 0+ws.getD k 0)%1000003)):=rfl
   generalize hA1:pA t.aS ws (List.replicate t.aV.length (u3 sz)) (k+1)=A1 at *
   generalize pA t.aS ws (List.replicate t.aV.length (u3 sz)) k=A at *
   generalize t.aS.getD k 0=r at *
   have er:N[r.toNat]?=some (N[r.toNat]'aA):=eY aA
   generalize N[r.toNat]'aA=n at er
   have hgn:=H.get _ _ er
   have hq:=hs0.get (i:=r.toNat) aA
   have e0:(A.getD r.toNat [])[Int.toNat 0]?=some ((A.getD r.toNat []).getD 0 0):=cQ (by rw[hq.2.1];exact hsz.1)
   have hout:=H.out n (rS er)
   obtain⟨aCD,iP,iQ,rK⟩:=cW (show ¬n=nb from hout.1)
   obtain⟨aD4,lZ,lY,aD3⟩:=cW (show ¬n=b from hout.2.1)
   obtain⟨nP,gJ,gI,nQ⟩:=cW (show ¬b=nb from H.bn.2.2)
   unfold mE at hgn
   simp -dsimp -implicitDefEqProofs only[go_sem,↓reduceIte,Tryz.f138,eo,ew,hlt,aUY,hb,er,hgn,e0,iP,lZ,iQ,gI,lY,gJ,aC]
   have n1:=hq.2.2.get 0
   have n2:=hwn.get k
   refine⟨by omega,hr.1,by omega,hr.1,by omega,by omega,aH.mk (aOC _ _) ?_⟩
   simp -dsimp -implicitDefEqProofs only[go_sem,↓reduceIte,Tryz.f138,eo,ew,hlt,aUY,hb,er,hgn,e0,iP,lZ,iQ,gI,lY,gJ,aC]
   have hrow:bV.row 1 ((((A.getD r.toNat []).map λn=>[I n]).map (List.map Cell.v)).set (Int.toNat 0) [Cell.v (I (((A.getD r.toNat []).getD 0 0+ws.getD k 0)%1000003))])=mE ((A.getD r.toNat []).set 0 (((A.getD r.toNat []).getD 0 0+ws.getD k 0)%1000003)):=by
    rw[show Int.toNat 0=0 from rfl,qM I];rfl
   have hset:=H.set er (s:=(A.getD r.toNat []).set 0 (((A.getD r.toNat []).getD 0 0+ws.getD k 0)%1000003)) ⟨by rw[tW];exact hq.2.1,λx hx=>by
    rcases wJ hx with hx|rfl
    ·exact hq.2.2 x hx
    ·exact eO _⟩
   rw[←hst]at hset
   refine⟨by omega,(k+1,_),IntWalk.i64_in _ aA,by rw[hrow];exact aB.le_refl _,⟨hlt,?_⟩,by simp only;omega⟩
   simp only[hA1]
   exact hset
  ·have hk':k=t.aS.length:=by omega
   subst hk'
   simp -dsimp -implicitDefEqProofs only[go_sem,↓reduceIte,Tryz.f138,bU,cT]
   refine λ_=>?_
   have hs0:=hsw _ (bX _)
   have hsl:=H.seal
   generalize pA t.aS ws (List.replicate t.aV.length (u3 sz)) t.aS.length=A0 at *
   clear hb aUY
   rw[hN]at hsl
   refine aE8 aHG aYW aYX (λx:Nat=>[(1,bW rg),(3,.ip 4 [[I t.dK,gF 4 bH.c t.aV,gF 2 gA.c t.iA,ints t.aS]] 0 0),(7,.op nb 1 0 0),(12,I ((x:Int)-1))]) (λx=>aU (aU h nb (.row 1 [[.v (.os b 1 0 t.aV.length)]])) b (jI (mG t.aV rg A0 (t.aV.length-x) x))) (λx=>x<=t.aV.length) (λx=>x) t.aV.length ⟨?_,?_,bX _⟩ ?_
   ·have wl:IntKind.i64.wrap ((t.aV.length:Int)-1)=t.aV.length-1:=IntWalk.i64_in _ aA
    simp[cR,b6,wl]
   ·rw[sU];exact hsl
   obtain⟨bn1,bn2,bn3⟩:=H.bn
   obtain⟨nP,gJ,gI,nQ⟩:=cW (show ¬b=nb from bn3)
   intro x hx
   cases x with
   |zero =>
    simp -dsimp -implicitDefEqProofs only[go_sem,↓reduceIte,Tryz.f138,gJ,gI,aC]
    refine⟨λq=>absurd q aA,λ_=>?_⟩
    exact lG _ bn1 (by
     intro q_
     simp only[aP,a2F]
     by_cases e1:q_=b
     ·rw[if_pos e1,if_pos e1];exact .inr rfl
     ·rw[if_neg e1,if_neg e1]
      by_cases e2:q_=nb
      ·subst e2;exact .inl hnb
      ·rw[if_neg e2];exact .inr rfl) (pB hsz hins hrg hs0 t.aV.length 0 rfl).1.symm
   |succ y =>
    have hst:mG t.aV rg A0 (t.aV.length-y) y=jR (t.aV.getD y ⟨0,0,0,0⟩) rg y (mG t.aV rg A0 (t.aV.length-(y+1)) (y+1)):=by
     rw[show t.aV.length-y=(t.aV.length-(y+1))+1 by omega,mG]
    have hA:=pB hsz hins hrg hs0 (t.aV.length-(y+1)) (y+1) aA
    generalize mG t.aV rg A0 (t.aV.length-(y+1)) (y+1)=A at *
    have ec:t.aV[y]?=some t.aV[y]:=eY aA
    have hin:=hins y _ ec
    rw[show t.aV.getD y ⟨0,0,0,0⟩=t.aV[y]by rw[gG,ec];rfl]at hst
    generalize t.aV[y]=c at *
    have eA:=hA.get (i:=y) aA
    have wy:((y+1:Nat):Int)-1=(y:Int):=by omega
    have wy2:IntKind.i64.wrap ((y:Int)-1)=(y:Int)-1:=IntWalk.i64_in _ aA
    rw[wy]
    simp -dsimp -implicitDefEqProofs only[go_sem,↓reduceIte,Tryz.f138,ec,jI,eA.1,gJ,gI,aC,wy2,bH.aZ]
    refine⟨by omega,by omega,λn ⟨n1,n2,n3⟩=>?_⟩
    obtain⟨aD4,lZ,lY,aD3⟩:=cW (show ¬n=b from n1)
    obtain⟨aCD,iP,iQ,rK⟩:=cW (show ¬n=nb from n2)
    refine⟨⟨by rw[aC _ _ _ _ aD3,aI],by rw[aC _ _ _ _ rK,aC _ _ _ _ nQ,aI]⟩,⟨by rw[aC _ _ _ _ aD3],by rw[aC _ _ _ _ rK]⟩,?_⟩
    simp only[aO]
    have hnext:∀ g:aB,(aU (aU h nb (.row 1 [[.v (.os b 1 0 t.aV.length)]])) b (jI (jR c rg y A))).le g->∃ x':Nat,(y:Int)-1=(x':Int)-1/\(aU (aU h nb (.row 1 [[.v (.os b 1 0 t.aV.length)]])) b (jI (mG t.aV rg A0 (t.aV.length-x') x'))).wk g/\x'<=t.aV.length/\x'<y+1:=λg l=>⟨y,rfl,by rw[hst];exact aB.kR l,by omega,wN _⟩
    have a5I:∀ (X Y R Z:bV),(aU (aU h nb X) b Y).le (aU (aU (aU (aU h nb X) b Z) n R) b Y):=λX Y R Z q_=>by
     by_cases e1:q_=b
     ·rw[e1,aI,aI];exact .inr rfl
     rw[aC _ _ _ _ e1,aC _ _ _ _ e1]
     by_cases e2:q_=n
     ·rw[e2,aC _ _ _ _ n2];exact .inl n3
     ·rw[aC _ _ _ _ e2,aC _ _ _ _ e1];exact .inr rfl
    have a09:∀ (X Y R:bV),(aU (aU h nb X) b Y).le (aU (aU (aU h nb X) b Y) n R):=λX Y R=>aB.bM (by rw[aC _ _ _ _ n1,aC _ _ _ _ n2];exact n3) (aB.le_refl _)
    have hown:=eA.2
    have gnb:∀ (X Y R:bV),(aU (aU (aU h nb X) b Y) n R) nb=some X:=λX Y R=>by rw[aC _ _ _ _ rK,aC _ _ _ _ nQ,aI]
    have a90:∀ (X Y R W:bV),(aU (aU (aU (aU h nb X) b Y) n R) b W) nb=some X:=λX Y R W=>by rw[aC _ _ _ _ nQ,aC _ _ _ _ rK,aC _ _ _ _ nQ,aI]
    have gb1:∀ (X Y R:bV),(aU (aU (aU h nb X) b Y) n R) b=some Y:=λX Y R=>by rw[aC _ _ _ _ aD3,aI]
    rcases(show c.gS=1∨c.gS=2∨c.gS=3∨c.gS=4∨c.gS=5∨c.gS=6∨c.gS=7 by unfold bZ at hin;omega)with h1|h1|h1|h1|h1|h1|h1
    ·simp -dsimp -implicitDefEqProofs only[go_sem,↓reduceIte,Tryz.f138,h1]
     refine hnext _ ?_
     rw[jR,if_neg aA,if_neg aA,if_neg aA,if_neg aA,if_neg aA]
     exact a09 _ _ _
    ·simp -dsimp -implicitDefEqProofs only[go_sem,↓reduceIte,Tryz.f138,h1]
     refine hnext _ ?_
     rw[jR,if_neg aA,if_neg aA,if_neg aA,if_neg aA,if_neg aA]
     exact a09 _ _ _
    ·have i0:(0<=c.fA/\c.fA<y)/\0<=c.fB/\c.fB<y:=by unfold bZ at hin;omega
     have era:=hrg.get (i:=c.fA.toNat) aA
     have erb:=hrg.get (i:=c.fB.toNat) aA
     have ery:=hrg.get (i:=y) aA
     simp -dsimp -implicitDefEqProofs only[go_sem,↓reduceIte,Tryz.f138,h1]
     refine aH.gV (aOU hsz hA (r:=c.fA) ⟨i0.1.1,by omega⟩ hown (gnb _ _ _) (gb1 _ _ _)) ?_
     rintro r_ h' rfl
     simp -dsimp -implicitDefEqProofs only[go_sem,↓reduceIte,Tryz.f138,h1,lZ,iP,lY,gJ,iQ,gI,aC]
     refine aH.gV (aOU hsz (hA.put (r:=c.fA) aA hown) (r:=c.fB) ⟨i0.2.1,by omega⟩ hown (a90 _ _ _ _) (aI _ _ _)) ?_
     rintro r_ h' rfl
     rw[aO]
     simp -dsimp -implicitDefEqProofs only[go_sem,↓reduceIte,Tryz.f138,wy2]
     refine hnext _ ?_
     rw[jR,if_pos h1]
     exact a5I _ _ _ _
    ·have i0:(0<=c.fA/\c.fA<y)/\0<=c.fB/\c.fB<y:=by unfold bZ at hin;omega
     have era:=hrg.get (i:=c.fA.toNat) aA
     have erb:=hrg.get (i:=c.fB.toNat) aA
     have ery:=hrg.get (i:=y) aA
     simp -dsimp -implicitDefEqProofs only[go_sem,↓reduceIte,Tryz.f138,h1]
     refine aH.gV (aOU hsz hA (r:=c.fA) ⟨i0.1.1,by omega⟩ hown (gnb _ _ _) (gb1 _ _ _)) ?_
     rintro r_ h' rfl
     simp -dsimp -implicitDefEqProofs only[go_sem,↓reduceIte,Tryz.f138,h1,lZ,iP,lY,gJ,iQ,gI,aC]
     refine aH.mk (scaled _ 1000002 nD aLV hown.2) ?_
     simp -dsimp -implicitDefEqProofs only[go_sem,↓reduceIte,Tryz.f138,h1,lZ,iP,lY,gJ,iQ,gI,aC]
     refine aH.gV (aOU hsz (hA.put (r:=c.fA) aA hown) (r:=c.fB) ⟨i0.2.1,by omega⟩ (eJ _ hown) (a90 _ _ _ _) (aI _ _ _)) ?_
     rintro r_ h' rfl
     rw[aO]
     simp -dsimp -implicitDefEqProofs only[go_sem,↓reduceIte,Tryz.f138,wy2]
     refine hnext _ ?_
     rw[jR,if_neg aA,if_pos h1]
     exact a5I _ _ _ _
    ·have i0:(0<=c.fA/\c.fA<y)/\0<=c.fB/\c.fB<y:=by unfold bZ at hin;omega
     have era:=hrg.get (i:=c.fA.toNat) aA
     have erb:=hrg.get (i:=c.fB.toNat) aA
     have ery:=hrg.get (i:=y) aA
     simp -dsimp -implicitDefEqProofs only[go_sem,↓reduceIte,Tryz.f138,h1,era.1,erb.1,hrl]
     simp only[aO]
     refine⟨i0.2.1,by omega,aH.mk (product _ _ (by rw[erb.2.1,hown.1]) aLV hown.2 erb.2.2) ?_⟩
     simp -dsimp -implicitDefEqProofs only[go_sem,↓reduceIte,Tryz.f138,h1]
     refine aH.gV (aOU hsz hA (r:=c.fA) ⟨i0.1.1,by omega⟩ (c6 _ hown) (gnb _ _ _) (gb1 _ _ _)) ?_
     rintro r_ h' rfl
     simp -dsimp -implicitDefEqProofs only[go_sem,↓reduceIte,Tryz.f138,h1,lZ,iP,lY,gJ,iQ,gI,aC,era.1,hrl]
     refine⟨i0.1.1,by omega,aH.mk (product _ _ (by rw[era.2.1,hown.1]) aLV hown.2 era.2.2) ?_⟩
     simp -dsimp -implicitDefEqProofs only[go_sem,↓reduceIte,Tryz.f138,h1,lZ,iP,lY,gJ,iQ,gI,aC]
     refine aH.gV (aOU hsz (hA.put (r:=c.fA) aA (c6 _ hown)) (r:=c.fB) ⟨i0.2.1,by omega⟩ (c6 _ hown) (a90 _ _ _ _) (aI _ _ _)) ?_
     rintro r_ h' rfl
     rw[aO]
     simp -dsimp -implicitDefEqProofs only[go_sem,↓reduceIte,Tryz.f138,wy2]
     refine hnext _ ?_
     rw[jR,if_neg aA,if_neg aA,if_pos h1]
     exact a5I _ _ _ _
    ·have i0:(0<=c.fA/\c.fA<y)/\0<=c.fB/\c.fB<y:=by unfold bZ at hin;omega
     have era:=hrg.get (i:=c.fA.toNat) aA
     have erb:=hrg.get (i:=c.fB.toNat) aA
     have ery:=hrg.get (i:=y) aA
     simp -dsimp -implicitDefEqProofs only[go_sem,↓reduceIte,Tryz.f138,h1,era.1,erb.1,hrl]
     simp only[aO]
     have hpart:=k8 (rg.getD c.fB.toNat []) hown
     refine⟨i0.2.1,by omega,aH.mk (quotient _ _ (by rw[erb.2.1,hown.1]) aLV aLV hown.2 erb.2.2) ?_⟩
     simp -dsimp -implicitDefEqProofs only[go_sem,↓reduceIte,Tryz.f138,h1]
     refine aH.gV (aOU hsz hA (r:=c.fA) ⟨i0.1.1,by omega⟩ hpart (gnb _ _ _) (gb1 _ _ _)) ?_
     rintro r_ h' rfl
     simp -dsimp -implicitDefEqProofs only[go_sem,↓reduceIte,Tryz.f138,h1,lZ,iP,lY,gJ,iQ,gI,aC,ery.1,hrl]
     refine⟨by omega,aH.mk (product _ _ (by rw[ery.2.1,hpart.1]) (by rw[hpart.1];omega) hpart.2 ery.2.2) ?_⟩
     simp -dsimp -implicitDefEqProofs only[go_sem,↓reduceIte,Tryz.f138,h1,lZ,iP,lY,gJ,iQ,gI,aC]
     refine aH.mk (scaled _ 1000002 nD (by rw[(c6 _ hpart).1];omega) (c6 _ hpart).2) ?_
     simp -dsimp -implicitDefEqProofs only[go_sem,↓reduceIte,Tryz.f138,h1,lZ,iP,lY,gJ,iQ,gI,aC]
     refine aH.gV (aOU hsz (hA.put (r:=c.fA) aA hpart) (r:=c.fB) ⟨i0.2.1,by omega⟩ (eJ _ (c6 _ hpart)) (a90 _ _ _ _) (aI _ _ _)) ?_
     rintro r_ h' rfl
     rw[aO]
     simp -dsimp -implicitDefEqProofs only[go_sem,↓reduceIte,Tryz.f138,wy2]
     refine hnext _ ?_
     rw[jR,if_neg aA,if_neg aA,if_neg aA,if_pos h1]
     exact a5I _ _ _ _
    ·have i0:0<=c.fA/\c.fA<y:=by unfold bZ at hin;omega
     simp -dsimp -implicitDefEqProofs only[go_sem,↓reduceIte,Tryz.f138,h1]
     refine aH.mk (scaled _ 1000002 nD aLV hown.2) ?_
     simp -dsimp -implicitDefEqProofs only[go_sem,↓reduceIte,Tryz.f138,h1,lZ,iP,lY,gJ,iQ,gI,aC]
     refine aH.gV (aOU hsz hA (r:=c.fA) ⟨i0.1,by omega⟩ (eJ _ hown) (gnb _ _ _) (gb1 _ _ _)) ?_
     rintro r_ h' rfl
     simp -dsimp -implicitDefEqProofs only[go_sem,↓reduceIte,Tryz.f138,wy2]
     refine hnext _ ?_
     rw[jR,if_neg aA,if_neg aA,if_neg aA,if_neg aA,if_pos h1]
     exact a5I _ _ _ _
def byK (code:List bH) (L:List (List Int)) (sz inp:Nat):Nat->List (List Int)
 |0=>List.replicate inp (u3 sz)
 |k+1=>if (code.getD k ⟨0,0,0,0⟩).gS=1 then(byK code L sz inp k).set (code.getD k ⟨0,0,0,0⟩).bB.toNat (jJ ((byK code L sz inp k).getD (code.getD k ⟨0,0,0,0⟩).bB.toNat []) (L.getD k []))else byK code L sz inp k
theorem vR {sz:Nat} {code:List bH} {inp:Nat} (hins:∀ i c,code[i]?=some c->bZ inp i c) {L:List (List Int)} (hL:dH sz code.length L):∀ k,k<=code.length->dH sz inp (byK code L sz inp k)
 |0,_=>⟨by simp[byK],λs hs=>by rw[(aH1.1 hs).2];exact aFH sz⟩
 |k+1,h=>by
  have ih:=vR hins hL k aA
  have ec:code[k]?=some code[k]:=eY aA
  have hc:=hins k _ ec
  rw[byK,show code.getD k ⟨0,0,0,0⟩=code[k]by rw[gG,ec];rfl]
  split
  ·rename_i h1
   unfold bZ at hc
   exact ih.set (mT (ih.get aA).2 (hL.get aA).2) _
  ·exact ih
@[go_sem] def aOW:List Nat:=[0,1,2,4,5,6,7,8,12,18,19,20,28,29,30,31,37]
@[go_sem] def a5J:List Nat:=[2,24]
@[go_sem] def a5K:Marks:=λid=>match id with|12=>([2,5,7,14],(.op 0 (.op 1 (.op 3 (.op 4 (.op 8 (.op 9 (.op 10 (.op 11 (.op 2 (.op 5 (.op 6 (.op 7 (.op 12 (.op 13 (.op 14 .nil))))))))))))))),[])|_=>([],.nil,[])
set_option maxHeartbeats 4000000 in
theorem aSG (t:iM) {sz inp:Nat} (hsz:1<=sz/\sz<=1048576) (hinp:t.dK=inp) (bNM:inp<=12) (hins:∀ i c,t.aV[i]?=some c->bZ inp i c) (hcl:1<=t.aV.length/\t.aV.length<=3200) (L:List (List Int)) (hL:dH sz t.aV.length L) :
  fE Tryz.prog 104 [.agg t.c,bW L] (bW (byK t.aV L sz inp t.aV.length)):=by
 rw[iM.aZ,hinp]
 have e0:=hL.get (i:=0) aA
 have ll:=hL.1
 have e00:L[Int.toNat 0]?=some (L.getD 0 []):=e0.1
 have l0:=e0.2.1
 refine lS 54 aOW a5J a5K Tryz.func104 λh=>?_
 simp -dsimp -implicitDefEqProofs only[go_sem,↓reduceIte,Tryz.f104,e00,ll,l0]
 refine⟨by decide,λb0 hb0 _=>⟨λ_=>⟨by omega,λ_=>?_⟩,λq=>absurd aA q⟩⟩
 refine aE8 aOW a5J a5K (λx:Nat×Nat=>[(1,bW L),(2,.ip 4 [[I inp,gF 4 bH.c t.aV,gF 2 gA.c t.iA,ints t.aS]] 0 0),(5,.os x.2 1 0 x.1),(6,I sz),(18,I inp),(19,I x.1)]) (λx=>aU h x.2 (jI (List.replicate x.1 (u3 sz)))) (λx=>x.1<=inp/\h x.2=none) (λx=>inp-x.1) (0,b0) ⟨by simp[cR,b6],aB.kR (aB.le_refl _),eF _,hb0⟩ ?_
 rintro⟨k,b⟩ ⟨hk,hb⟩
 simp only at hk hb ⊢
 rcases bT k inp with hlt|hge
 ·simp -dsimp -implicitDefEqProofs only[go_sem,↓reduceIte,Tryz.f104,hlt,jI,aGI]
  refine⟨by decide,bX _,by omega,by omega,λm ⟨m1,m2⟩=>?_⟩
  obtain⟨uN,nC,nB,vM⟩:=cW (show ¬m=b from m1)
  refine⟨by decide,by decide,by decide,?_⟩
  simp -dsimp -implicitDefEqProofs only[go_sem,↓reduceIte,Tryz.f104,nC,nB,aC]
  rw[aGI]
  refine⟨bX _,by omega,by omega,λc ⟨c1,c2,c3⟩=>?_⟩
  obtain⟨bNN,bXD,bXE,bNO⟩:=cW (show ¬c=m from c1)
  obtain⟨bNH,bD1,bD2,bNI⟩:=cW (show ¬c=b from c2)
  have hzl:(u3 sz).length=sz:=(aFH sz).1
  refine⟨(k+1,c),⟨rfl,IntWalk.i64_in _ aA⟩,?_,⟨hlt,c3⟩,by simp only;omega⟩
  refine aOM (m:=m) (b:=c) (List.replicate k (u3 sz)) (u3 sz) ?_ ?_ bNN ?_
  ·rw[aC _ _ _ _ bNO,aC _ _ _ _ uN,aI];exact congrArg some (aOV sz)
  ·rw[aI,nI dG,hzl]
  ·rw[a2M]
   intro q_
   by_cases e1:q_=c
   ·rw[e1,aI,aI];exact .inr rfl
   rw[aC _ _ _ _ e1,aC _ _ _ _ e1]
   by_cases e2:q_=m
   ·rw[e2];exact .inl m2
   by_cases e3:q_=b
   ·rw[e3];exact .inl hb
   rw[aC _ _ _ _ e2,aC _ _ _ _ e1,aC _ _ _ _ e3,aC _ _ _ _ e2,aC _ _ _ _ e3];exact .inr rfl
 ·have hk':k=inp:=by omega
  subst hk'
  simp -dsimp -implicitDefEqProofs only[go_sem,↓reduceIte,Tryz.f104,cT,bU]
  refine λ_=>?_
  refine cM aOW a5J a5K (λx:Nat=>[(1,bW L),(5,.os b 1 0 k),(28,gF 4 bH.c t.aV),(29,I t.aV.length),(30,I x)]) (λx=>aU h b (jI (byK t.aV L sz k x))) (λx=>x<=t.aV.length) (λx=>t.aV.length-x) 0 ⟨by simp[cR,b6],aB.le_refl _,eF _⟩ ?_
  intro x hx
  have hB:=vR hins hL x hx
  rcases bT x t.aV.length with hlt|aFB
  ·have ec:t.aV[x]?=some t.aV[x]:=eY hlt
   have hc:=hins x _ ec
   have hst:byK t.aV L sz k (x+1)=if t.aV[x].gS=1 then(byK t.aV L sz k x).set t.aV[x].bB.toNat (jJ ((byK t.aV L sz k x).getD t.aV[x].bB.toNat []) (L.getD x []))else byK t.aV L sz k x:=by
    rw[byK,show t.aV.getD x ⟨0,0,0,0⟩=t.aV[x]by rw[gG,ec];rfl]
   generalize byK t.aV L sz k x=A at *
   generalize t.aV[x]=c at *
   have eL:=hL.get hlt
   simp -dsimp -implicitDefEqProofs only[go_sem,↓reduceIte,Tryz.f104,hlt,ec,bH.aZ]
   refine λn ⟨n1,n2⟩=>?_
   obtain⟨aD4,lZ,lY,aD3⟩:=cW (show ¬n=b from n1)
   simp only[aO]
   refine⟨λh1=>?_,λh1=>⟨x+1,IntWalk.i64_in _ aA,?_,hlt,by omega⟩⟩
   ·have hn:0<=c.bB/\c.bB<k:=by unfold bZ at hc;omega
    have eA:=hB.get (i:=c.bB.toNat) aA
    have hcall:=aF9 (added (A.getD c.bB.toNat []) (L.getD x []) (by rw[eL.2.1,eA.2.1]) (by rw[eA.2.1];omega) (vJ eA.2.2) (vJ eL.2.2))
    simp -dsimp -implicitDefEqProofs only[go_sem,↓reduceIte,Tryz.f104,jI,lZ,lY,aC,eA.1,eL.1,ll]
    refine⟨hlt,hn.1,hn.2,aF.mk hcall ?_⟩
    simp -dsimp -implicitDefEqProofs only[go_sem,↓reduceIte,Tryz.f104,jI,lZ,lY,aC,eA.1,eL.1,ll]
    refine⟨hn.1,hn.2,x+1,IntWalk.i64_in _ aA,?_,hlt,by omega⟩
    rw[hst,if_pos h1]
    have hr:=aMN A c.bB.toNat (jJ (A.getD c.bB.toNat []) (L.getD x []))
    intro q_
    by_cases e1:q_=b
    ·rw[e1,aI,aI];exact .inr (congrArg some hr.symm)
    rw[aC _ _ _ _ e1,aC _ _ _ _ e1]
    by_cases e2:q_=n
    ·rw[e2];exact .inl n2
    rw[aC _ _ _ _ e2,aC _ _ _ _ e2,aC _ _ _ _ e1];exact .inr rfl
   ·rw[hst,if_neg h1]
    exact aB.bM (by rw[aC _ _ _ _ n1];exact n2) (aB.le_refl _)
  ·have hx':x=t.aV.length:=by omega
   subst hx'
   simp -dsimp -implicitDefEqProofs only[go_sem,↓reduceIte,Tryz.f104,cT,bU]
   exact lG _ hb (aB.le_refl _) hB.1.symm
theorem r7 {sz n:Nat} (hsz:1<=sz) {outs ws:List Int} (ho:∀ r∈outs,0<=r/\r<n) (hwn:dW ws):∀ k,k<=outs.length->dH sz n (pA outs ws (List.replicate n (u3 sz)) k)
 |0,_=>⟨by simp[pA],λs hs=>by rw[(aH1.1 hs).2];exact aFH sz⟩
 |k+1,hk=>by
  have h1:=r7 hsz ho hwn k aA
  have hr:=ho (outs.getD k 0) a7T
  have h2:=(h1.get (i:=(outs.getD k 0).toNat) aA).2
  refine h1.set ⟨by rw[tW];exact h2.1,λx hx=>?_⟩ _
  rcases wJ hx with hx|rfl
  ·exact h2.2 x hx
  ·exact eO _
@[go_sem] def a91:List Nat:=[0,1,2,3,4,8,9,24]
@[go_sem] def bNP:List Nat:=[4,13]
theorem a92 (t:iM) (ht:t.ok) (args ws dir:List Int) (h1:(args.length:Int)=t.dK/\dW args) (h2:(dir.length:Int)=t.dK/\dW dir) (h3:ws.length=t.aS.length/\dW ws):fE Tryz.prog 174 [.agg t.c,ints args,ints ws,ints dir] (I 0):=by
 have hr:=bNE t ht [args,dir] dG (λl hl=>by
  simp only[mW,aP4,or_false]at hl
  rcases hl with rfl|rfl
  ·exact h1
  ·exact h2)
 have hn:=pJ ws t.aS.length
 rw[decide_eq_true ⟨by omega,h3.2⟩]at hn
 rw[iM.aZ]at hr ⊢
 refine fU 26 a91 bNP cF Tryz.func174 λh=>?_
 simp -dsimp -implicitDefEqProofs only[go_sem,↓reduceIte,Tryz.f174]
 refine⟨by decide,by decide,aH.mk (fE.sub (.cons (.refl _) (.cons (Sub.loose 1 [[ints args],[ints dir]] true) .nil)) hr) ?_⟩
 simp -dsimp -implicitDefEqProofs only[go_sem,↓reduceIte,Tryz.f174]
 refine λ_=>?_
 first|refine aH.mk (hn) ?_|refine aF.mk (hn) ?_|refine aH.bI (hn) ?_|refine aF.mk (bC.dI (hn)) ?_
 simp -dsimp -implicitDefEqProofs only[go_sem,↓reduceIte,Tryz.f174]
@[go_sem] def a93:List Nat:=[0,1,2,3,4,8,9,10,11,12,19,30]
@[go_sem] def bNQ:Marks:=λid=>match id with|4=>([3,4],(.op 0 (.op 1 (.op 2 (.op 3 (.op 4 (.op 5 (.op 6 (.op 7 (.op 8 (.op 9 .nil)))))))))),[])|_=>([],.nil,[])
theorem bNR (t:iM) (ht:t.ok) (hins:∀ i c,t.aV[i]?=some c->bZ t.dK i c) (args ws dir:List Int) (h1:(args.length:Int)=t.dK/\dW args) (h2:(dir.length:Int)=t.dK/\dW dir) (h3:ws.length=t.aS.length/\dW ws) (hc1:1<=t.aV.length)
  (hdiv:∀ (i:Nat) (c:bH),t.aV[i]?=some c->c.gS=6->¬(lR 2 (dX args dir) t.aV c.fB.toNat).getD 0 0=0) :
  fE Tryz.prog 102 [.agg t.c,ints args,ints ws,ints dir] (.gU [bW (mG t.aV (iD 2 (dX args dir) t.aV t.aV.length) (pA t.aS ws (List.replicate t.aV.length (u3 2)) t.aS.length) t.aV.length 0),I 0]):=by
 have bNM:=ht.inp
 have hlen:=lI (args:=args) (dir:=dir) aA
 have hser:=oC h1.2 h2.2
 have hsw:=a92 t ht args ws dir h1 h2 h3
 have hl:=lines args dir aA aA
 have hrg:=aMM t (sz:=2) ⟨by decide,by decide⟩ hins ht.lens.1 (dX args dir) hser (by rw[hlen];exact h1.1) hdiv
 have hsr:dH 2 t.aV.length (iD 2 (dX args dir) t.aV t.aV.length):=⟨lC _ _ _ _,λs hs=>by
  obtain⟨i,hi,rfl⟩:=wM.1 hs
  rw[lC]at hi
  have h:=s9 (sz:=2) hins hser (by rw[hlen];exact h1.1) i hi
  rwa [lR,gG,eY aWT]at h⟩
 have had:=aSF t (sz:=2) ⟨by decide,by decide⟩ hins ⟨hc1,ht.lens.1⟩ _ hsr ws h3.1 h3.2 aWU (λr hr=>by have:=ht.outs r hr;omega)
 rw[show(((2:Nat):Int)-1)=1 from rfl]at hrg
 rw[iM.aZ]at hsw hrg had ⊢
 refine fU 36 a93 aXJ bNQ Tryz.func102 λh=>?_
 simp -dsimp -implicitDefEqProofs only[go_sem,↓reduceIte,Tryz.f102]
 first|refine aH.mk (hsw) ?_|refine aF.mk (hsw) ?_|refine aH.bI (hsw) ?_|refine aF.mk (bC.dI (hsw)) ?_
 simp -dsimp -implicitDefEqProofs only[go_sem,↓reduceIte,Tryz.f102]
 first|refine aH.mk (hl) ?_|refine aF.mk (hl) ?_|refine aH.bI (hl) ?_|refine aF.mk (bC.dI (hl)) ?_
 simp -dsimp -implicitDefEqProofs only[go_sem,↓reduceIte,Tryz.f102]
 first|refine aH.mk (hrg) ?_|refine aF.mk (hrg) ?_|refine aH.bI (hrg) ?_|refine aF.mk (bC.dI (hrg)) ?_
 simp -dsimp -implicitDefEqProofs only[go_sem,↓reduceIte,Tryz.f102]
 first|refine aH.mk (had) ?_|refine aF.mk (had) ?_|refine aH.bI (had) ?_|refine aF.mk (bC.dI (had)) ?_
 simp -dsimp -implicitDefEqProofs only[go_sem,↓reduceIte,Tryz.f102]
@[go_sem] def bG3:List Nat:=[0,1,2,3,6,7,8,9,19]
theorem aSH (t:iM) {inp:Nat} (hinp:t.dK=inp) (ht:t.ok) (hins:∀ i c,t.aV[i]?=some c->bZ inp i c) (args ws:List Int) (h1:args.length=inp/\dW args) (h3:ws.length=t.aS.length/\dW ws) (hc1:1<=t.aV.length)
  (hdiv:∀ (i:Nat) (c:bH),t.aV[i]?=some c->c.gS=6->¬(lR 2 (dX args args) t.aV c.fB.toNat).getD 0 0=0) :
  fE Tryz.prog 31 [.agg t.c,ints args,ints ws] (.gU [ints ((byK t.aV (mG t.aV (iD 2 (dX args args) t.aV t.aV.length) (pA t.aS ws (List.replicate t.aV.length (u3 2)) t.aS.length) t.aV.length 0) 2 inp t.aV.length).map (·.getD 0 0)),I 0]):=by
 have bNM:=ht.inp
 have ha1:(args.length:Int)=t.dK/\dW args:=⟨by omega,h1.2⟩
 have bNS:∀ i c,t.aV[i]?=some c->bZ t.dK i c:=by rw[hinp];exact hins
 have hsw:=bNR t ht bNS args ws args ha1 ha1 h3 hc1 hdiv
 have hser:=oC (args:=args) (dir:=args) h1.2 h1.2
 have hlen:=lI (args:=args) (dir:=args) rfl
 have hsr:dH 2 t.aV.length (iD 2 (dX args args) t.aV t.aV.length):=⟨lC _ _ _ _,λs hs=>by
  obtain⟨i,hi,rfl⟩:=wM.1 hs
  rw[lC]at hi
  have h:=s9 (sz:=2) hins hser (by rw[hlen,h1.1]) i hi
  rwa [lR,gG,eY aWT]at h⟩
 generalize iD 2 (dX args args) t.aV t.aV.length=rg at *
 have hA0:dH 2 t.aV.length (pA t.aS ws (List.replicate t.aV.length (u3 2)) t.aS.length):=r7 bO (λr hr=>by have:=ht.outs r hr;omega) h3.2 _ (bX _)
 generalize pA t.aS ws (List.replicate t.aV.length (u3 2)) t.aS.length=A0 at *
 have hA:=pB (sz:=2) ⟨by decide,by decide⟩ hins hsr hA0 t.aV.length 0 rfl
 generalize mG t.aV rg A0 t.aV.length 0=A at *
 have hby:=aSG t (sz:=2) ⟨by decide,by decide⟩ hinp aA hins ⟨hc1,ht.lens.1⟩ A hA
 have hB:=vR hins hA t.aV.length (bX _)
 generalize byK t.aV A 2 inp t.aV.length=B at *
 have hf:=aUL B (by have:=hB.1;omega) (λs hs=>by have:=(hB.2 s hs).1;omega)
 rw[iM.aZ]at hsw hby ⊢
 refine fU 25 bG3 a0S cF Tryz.func31 λh=>?_
 simp -dsimp -implicitDefEqProofs only[go_sem,↓reduceIte,Tryz.f31]
 first|refine aH.mk (hsw) ?_|refine aF.mk (hsw) ?_|refine aH.bI (hsw) ?_|refine aF.mk (bC.dI (hsw)) ?_
 simp -dsimp -implicitDefEqProofs only[go_sem,↓reduceIte,Tryz.f31]
 first|refine aH.mk (hby) ?_|refine aF.mk (hby) ?_|refine aH.bI (hby) ?_|refine aF.mk (bC.dI (hby)) ?_
 simp -dsimp -implicitDefEqProofs only[go_sem,↓reduceIte,Tryz.f31]
 first|refine aH.mk (hf) ?_|refine aF.mk (hf) ?_|refine aH.bI (hf) ?_|refine aF.mk (bC.dI (hf)) ?_
 simp -dsimp -implicitDefEqProofs only[go_sem,↓reduceIte,Tryz.f31]
end Go.Hl

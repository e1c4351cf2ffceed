/-
  Contracts of functions and laws of the layer over the walk.
-/
import Derived.Test.YtoomflalicffnaaGreatHlC
import Derived.KernelRfl
namespace Go.Hl
set_option linter.unusedVariables false
set_option linter.unusedSimpArgs false
inductive OV where
 |v (x:aE)
 |nil (sz:Nat)
 |sl (n sz:Nat) (es:List (List OV))
def OV.val:OV->aE
 | .v x=>x
 | .nil sz=>.sl sz [] true
 | .sl n sz es=>.os n sz 0 es.length
mutual
def OV.pX:OV->aE
 | .v x=>x
 | .nil sz=>.sl sz [] false
 | .sl n sz es=>.sl sz (OV.lQ es) false
def OV.lQ:List (List OV)->List (List aE)
 | []=>[]
 |e::es=>OV.aOW e::OV.lQ es
def OV.aOW:List OV->List aE
 | []=>[]
 |x::e=>x.pX::OV.aOW e
end
theorem OV.yQ:∀ (e:List OV),OV.aOW e=e.map OV.pX
 | []=>rfl
 |x::e=>by rw[OV.aOW,OV.yQ e];rfl
theorem OV.jS:∀ (es:List (List OV)),OV.lQ es=es.map (List.map OV.pX)
 | []=>rfl
 |e::es=>by rw[OV.lQ,OV.jS es,OV.yQ];rfl
def OV.cells (es:List (List OV)):List (List Cell):=es.map (List.map λc=>Cell.v c.val)
mutual
def OV.rows:OV->List (Nat×bU)
 | .v _=>[]
 | .nil _=>[]
 | .sl n sz es=>(n,.row sz (OV.cells es))::OV.bF es
def OV.bF:List (List OV)->List (Nat×bU)
 | []=>[]
 |e::es=>OV.b5 e++OV.bF es
def OV.b5:List OV->List (Nat×bU)
 | []=>[]
 |x::e=>x.rows++OV.b5 e
end
theorem OV.aCM:∀ {es:List (List OV)} {e:List OV} {p:Nat×bU},e∈es->p∈OV.b5 e->p∈OV.bF es
 |y::es,e,p,he,hp=>by
  rw[OV.bF]
  rcases pP.1 he with rfl|he
  ·exact aAK _ hp
  ·exact xA _ (OV.aCM he hp)
def qO (h:aB) (l:List (Nat×bU)):Prop:=∀ p∈l,h p.1=some p.2
def iX (h:aB) (S:List Nat):aB:=λm=>if m∈S then(h m).map λ_=>.gone else h m
theorem uL {h:aB} {S:List Nat} {m:Nat} {o:bU} (hm:m∈S) (ho:iX h S m=some o):o=.gone:=by
 simp only[iX,if_pos hm,r7]at ho
 obtain⟨_,_,rfl⟩:=ho;rfl
theorem kY {h:aB} {S:List Nat} {m:Nat} (hm:m∉S):iX h S m=h m:=by simp only[iX,if_neg hm]
theorem qK {E:Env} {h:aB} {w:World} (S:List Nat) (b:Nat) (i:oU E h w b):oU E (iX h S) w b :=
 ⟨i.1,λm o hm ho=>by
  by_cases e:m∈S
  ·rw[uL e hm]at ho;exact ho.elim
  ·rw[kY e]at hm;exact i.2 m o hm ho⟩
theorem aOX {E:Env} {h:aB} {w:World} (R:Rel E h w) {S:List Nat} {n:Nat} (hS:n∈S) {x:bU} (hn:h n=some x) (hx:x.live) (b:Nat) (hb:E.fp n b):oU E (iX h S) w b :=
 ⟨R.lt n x b hn hx hb,λm o hm ho hf=>by
  by_cases e:m∈S
  ·rw[uL e hm]at ho;exact ho.elim
  ·rw[kY e]at hm
   have:=R.apart m o n x b hm ho hn hx hf hb
   exact e (this▸hS)⟩
theorem Rel.iX {E:Env} {h:aB} {w:World} (R:Rel E h w) (S:List Nat):Rel E (iX h S) w:=by
 refine⟨R.fin,λm hm=>?_,?_,?_,?_,R.laid.pV (qK S)⟩
 ·by_cases e:m∈S
  ·refine R.dom m λq=>hm ?_
   simp only[Hl.iX,if_pos e,q,a4A]
  ·rw[kY e]at hm;exact R.dom m hm
 ·intro m o b hm ho
  by_cases e:m∈S
  ·rw[uL e hm]at ho;exact ho.elim
  ·rw[kY e]at hm;exact R.lt m o b hm ho
 ·intro m o m' o' b hm ho hm' ho'
  by_cases e:m∈S
  ·rw[uL e hm]at ho;exact ho.elim
  ·by_cases e':m'∈S
   ·rw[uL e' hm']at ho';exact ho'.elim
   ·rw[kY e]at hm;rw[kY e']at hm';exact R.apart m o m' o' b hm ho hm' ho'
 ·intro m o hm
  by_cases e:m∈S
  ·rw[uL e hm];trivial
  ·rw[kY e]at hm;exact(R.obj m o hm).pV λb=>qK S b
theorem Ev.iX {E:Env} {h:aB} {w:World} (S:List Nat):Ev E h w E (iX h S) w :=
 ⟨bY _,λb hb=>⟨rfl,qK S b hb⟩,λ_ _=>rfl,λ_ hn=>⟨rfl,hn⟩,rfl,rfl⟩
mutual
theorem fG.aCN {E:Env} {h:aB} {w:World} (R:Rel E h w) {S:List Nat}:∀ (x:OV),qO h x.rows->(∀ p∈x.rows,p.1∈S)->∀ v,fG E h w x.val v->fG E (Hl.iX h S) w x.pX v
 | .v x,_,_,v,r=>fG.pV (λb=>qK S b) r
 | .nil sz,_,_,v,r=>Sub.loose sz [] true _ _ _ _ (fG.pV (λb=>qK S b) (show fG E h w (.sl sz [] true) v from r))
 | .sl n sz es,ho,hS,v,r=>by
  have hn:h n=some (.row sz (OV.cells es)):=ho (n,_) (by rw[OV.rows];exact aAL)
  have hnS:n∈S:=hS (n,_) (by rw[OV.rows];exact aAL)
  simp only[OV.val]at r
  simp only[OV.pX]
  have hcells:∀ i j y,iU (OV.cells es) i j=some y->∃ c,iU es i j=some c/\y=.v c.val:=by
   intro i j y hy
   rw[OV.cells,nQ]at hy
   obtain⟨c,hc,rfl⟩:=r7.1 hy
   exact⟨c,hc,rfl⟩
  have hdat:∀ i j y,iU (OV.lQ es) i j=some y->∃ c,iU es i j=some c/\y=c.pX:=by
   intro i j y hy
   rw[OV.jS,nQ]at hy
   obtain⟨c,hc,rfl⟩:=r7.1 hy
   exact⟨c,hc,rfl⟩
  have hlen:(OV.lQ es).length=es.length:=by rw[OV.jS,gX]
  have key:∀ L,L=es.length->fG E h w (.os n sz 0 L) v->fG E (Hl.iX h S) w (.sl sz (OV.lQ es) false) v:=by
   intro L hL r
   cases r with
   |os0 _ _ hd hl =>
    have:es=[]:=bGU hL.symm
    subst this
    exact .sl0 sz false none 0 (λ_=>rfl) (by simp[maxLen]) trivial
   |os _ _ _ _ b o cap t m hd hl hlc hmax hsh hm =>
    obtain⟨b',o',hl',hbS,hs,cs,ct,cv,T,hh,hm',hT,hD,hc,hrr⟩:=aAR R hn (.inr ⟨_,hl⟩)
    rw[hl]at hl'
    obtain⟨rfl,rfl⟩:=aOI (gO hl')
    have himm:∀ c,E.fp n c->oU E (Hl.iX h S) w c:=λc hc=>aOX R hnS hn trivial c hc
    have hcs:∀ i j y,iU (OV.lQ es) i j=some y->∃ c,iU es i j=some c/\y=c.pX/\cs[o+i*sz+j]?=some (cv i j)/\(cv i j).oneCell'=true/\fG E h w c.val (cv i j):=by
     intro i j y hy
     obtain⟨c,hc1,rfl⟩:=hdat i j y hy
     have hcell:iU (OV.cells es) i j=some (.v c.val):=by rw[OV.cells,nQ,hc1];rfl
     have h2:=hrr i j _ hcell
     cases h2 with
     |v x c' S' h1 hx=>exact⟨c,hc1,rfl,hc i j _ hcell,h1,hx⟩
    have:=fG.sl (E:=E) (h:=Hl.iX h S) (w:=w) sz (OV.lQ es) false b (o+0*sz) cap cv (himm b hbS) (by rw[hlen,←hL];exact hlc) hmax (λe=>by simp at e)
     (λe he=>by
      rw[OV.jS,lZ]at he
      obtain⟨e',he',rfl⟩:=he
      have:=hs (e'.map λc=>Cell.v c.val) (lZ.2 ⟨e',he',rfl⟩)
      simpa using this)
     (λi j y hy=>by
      obtain⟨c,_,_,h1,_,_⟩:=hcs i j y hy
      simp only[World.cell?,hh]
      rw[←h1]
      simp)
     (λi j y hy=>by obtain⟨c,_,_,_,h1,_⟩:=hcs i j y hy;exact h1)
     (λi j y hy=>by
      obtain⟨c,hc1,rfl,_,_,h1⟩:=hcs i j y hy
      obtain⟨e,he,hj⟩:=lC hc1
      exact aF7 R es (λp hp=>ho p (by rw[OV.rows];exact wN _ hp)) (λp hp=>hS p (by rw[OV.rows];exact wN _ hp)) e (s5 he) c (s5 hj) _ h1)
    rw[hlen,←hL]at this
    exact this
  exact key _ rfl r
theorem aF7 {E:Env} {h:aB} {w:World} (R:Rel E h w) {S:List Nat}:∀ (es:List (List OV)),qO h (OV.bF es)->(∀ p∈OV.bF es,p.1∈S)->∀ e∈es,∀ c∈e,∀ v,fG E h w c.val v->fG E (Hl.iX h S) w c.pX v
 | [],_,_,e,he,_,_,_,_=>by simp at he
 |a::es,ho,hS,e,he,c,hc,v,r=>by
  rcases pP.1 he with h1|h1
  ·rw[h1]at hc
   exact aSV R a (λp hp=>ho p (by rw[OV.bF];exact aAK _ hp)) (λp hp=>hS p (by rw[OV.bF];exact aAK _ hp)) c hc v r
  ·exact aF7 R es (λp hp=>ho p (by rw[OV.bF];exact xA _ hp)) (λp hp=>hS p (by rw[OV.bF];exact xA _ hp)) e h1 c hc v r
theorem aSV {E:Env} {h:aB} {w:World} (R:Rel E h w) {S:List Nat}:∀ (e:List OV),qO h (OV.b5 e)->(∀ p∈OV.b5 e,p.1∈S)->∀ c∈e,∀ v,fG E h w c.val v->fG E (Hl.iX h S) w c.pX v
 | [],_,_,c,hc,_,_=>by simp at hc
 |a::e,ho,hS,c,hc,v,r=>by
  rcases pP.1 hc with h1|h1
  ·rw[h1]at r ⊢
   exact fG.aCN R a (λp hp=>ho p aXV) (λp hp=>hS p aXV) v r
  ·exact aSV R e (λp hp=>ho p aXU) (λp hp=>hS p aXU) c h1 v r
end
mutual
def aE.gY:aE->Bool
 | .any | .bool _ | .int _ _ | .str _ | .j8 | .bS | .tN | .l7 | .pK=>true
 | .os _ _ _ _ | .op _ _ _ _ | .mp _=>true
 | .sl _ es _=>es.isEmpty
 | .agg cs=>aE.aF8 cs
 | .gK cs=>aE.aF8 cs
 | _=>false
def aE.aF8:List aE->Bool
 | []=>true
 |x::xs=>x.gY && aE.aF8 xs
end
theorem aE.aC5:∀ {l:List aE},aE.aF8 l=true->∀ (i:Nat) x,l[i]?=some x->x.gY=true
 |y::l,h,0,x,hx=>by simp only[aE.aF8,mK]at h;simp at hx;subst hx;exact h.1
 |y::l,h,i+1,x,hx=>by simp only[aE.aF8,mK]at h;exact aE.aC5 h.2 i x aRU
 | [],_,i,x,hx=>by simp at hx
def Cell.gY:Cell->Bool
 | .v x=>x.gY
 | .own _ _=>false
def bU.gY:bU->Bool
 | .row _ es=>es.all λe=>e.all Cell.gY
 | .map _ _ _=>false
 | .raw _ _=>true
 | .abs _=>true
 | .gone=>true
theorem fG.gY {E E':Env} {h h':aB} {w w':World} (hl:∀ n,E.used n->E'.loc n=E.loc n/\E'.used n) (hs:∀ b,b<w.heap.size->w'.shape? b=w.shape? b) {x:aE} {v:Value} (r:fG E h w x v) (hx:x.gY=true):fG E' h' w' x v:=by
 induction r with
 |any v=>exact .any v
 |bool b=>exact .bool b
 |int k n=>exact .int k n
 |str s hl=>exact .str s hl
 |j8=>exact .j8
 |bS=>exact .bS
 |tN=>exact .tN
 |l7=>exact .l7
 |pK=>exact .pK
 |sl0 sz t a cap ht hmax ha=>exact .sl0 sz t a cap ht hmax ha
 |sl sz es t b o cap cv hi hcap hmax ht hs' hc h1 hr ih =>
  simp only[aE.gY,List.isEmpty_iff]at hx
  subst hx
  exact .sl0 sz t _ cap (λe=>by have:=ht e;simpa using this) hmax trivial
 |ip sz es i off b o cv hi hs' hc h1 hr ih=>simp[aE.gY]at hx
 |os n sz i len b o cap t m hd hl' hlc hmax hsh hm=>exact .os n sz i len b o cap t m (hl n hd).2 ((hl n hd).1.trans hl') hlc hmax ((hs b (aJQ hsh)).trans hsh) hm
 |os0 n sz hd hl'=>exact .os0 n sz (hl n hd).2 ((hl n hd).1.trans hl')
 |op n sz i off b o hd hl'=>exact .op n sz i off b o (hl n hd).2 ((hl n hd).1.trans hl')
 |agg cs vs hle hr ih=>exact .agg cs vs hle λi x v a b=>ih i x v a b (aE.aC5 (by simpa only[aE.gY]using hx) i x a)
 |gK cs vs hle hr ih=>exact .gK cs vs hle λi x v a b=>ih i x v a b (aE.aC5 (by simpa only[aE.gY]using hx) i x a)
 |fn f cs ds vs us hle hr hle' hr' ih ih'=>simp[aE.gY]at hx
 |iface t x v hr ih=>simp[aE.gY]at hx
 |mp n b o hd hl'=>exact .mp n b o (hl n hd).2 ((hl n hd).1.trans hl')
theorem aD8.gY {E E':Env} {h h':aB} {w w':World} (hl:∀ n,E.used n->E'.loc n=E.loc n/\E'.used n) (hs:∀ b,b<w.heap.size->w'.shape? b=w.shape? b) {n:Nat} {o:bU} (hn:E'.loc n=E.loc n) (hfp:E'.fp n=E.fp n)
  (hm:∀ b,E.fp n b->w'.heap[b]?=w.heap[b]?) (ho:o.gY=true) (r:aD8 E h w n o):aD8 E' h' w' n o:=by
 cases o with
 |gone=>trivial
 |raw t cs=>obtain⟨b,hb,hf,hr⟩:=r;exact⟨b,hn.trans hb,by rw[hfp];exact hf,(hm b hf).trans hr⟩
 |abs Q=>obtain⟨b,hb,hf,w0,hq,ha⟩:=r;exact⟨b,hn.trans hb,by rw[hfp];exact hf,w0,by rw[hfp];exact hq,λc hc=>by rw[hfp]at hc;exact(hm c hc).trans (ha c hc)⟩
 |map _ _ _=>simp[bU.gY]at ho
 |row sz es =>
  rcases r with⟨b,o',h1,h2⟩|⟨h1,h2⟩
  ·refine .inl ⟨b,o',hn.trans h1,?_⟩
   obtain⟨hb,hsz,cs,t,cv,T,hh,hle,hT,hD,hc,hr⟩:=h2
   rw[hfp]
   refine⟨hb,hsz,cs,t,cv,T,(hm b hb).trans hh,hle,hT,hD,hc,λi j x hx=>?_⟩
   have hsx:x.gY=true:=by
    obtain⟨e,he,hj⟩:=lC hx
    have h3:=vF.1 ho e (s5 he)
    exact vF.1 h3 x (s5 hj)
   have hx':=hr i j x hx
   cases x with
   |own _ _=>simp[Cell.gY]at hsx
   |v y =>
    generalize cv i j=cc at hx'
    cases hx' with
    |v _ _ _ h1' hy=>exact .v y _ _ h1' (hy.gY hl hs hsx)
  ·exact .inr ⟨h1,hn.trans h2⟩
def OR {α:Type} (R:α->List OV->Prop):List α->List (List OV)->Prop
 | [],[]=>True
 |x::l,e::es=>R x e/\OR R l es
 | _,_=>False
def OS {α:Type} (R:α->List OV->Prop) (sz:Nat) (l:List α) (y:OV):Prop:=(y=.nil sz/\l=[])∨∃ n es,y=.sl n sz es/\OR R l es
def oP {α:Type} (c:α->aE) (x:α) (e:List OV):Prop:=e=[.v (c x)]
theorem OR.length {α:Type} {R:α->List OV->Prop}:∀ {l:List α} {es:List (List OV)},OR R l es->l.length=es.length
 | [],[],_=>rfl
 |x::l,e::es,h=>by simpa using OR.length h.2
 | [],_::_,h=>h.elim
 | _::_,[],h=>h.elim
theorem OR.get {α:Type} {R:α->List OV->Prop}:∀ {l:List α} {es:List (List OV)},OR R l es->∀ (i:Nat) x e,l[i]?=some x->es[i]?=some e->R x e
 |x::l,e::es,h,0,y,d,hy,hd=>by simp at hy hd;subst hy;subst hd;exact h.1
 |x::l,e::es,h,i+1,y,d,hy,hd=>OR.get h.2 i y d (by simpa using hy) (by simpa using hd)
 | [],[],_,i,y,d,hy,_=>by simp at hy
 | [],_::_,h,_,_,_,_,_=>h.elim
 | _::_,[],h,_,_,_,_,_=>h.elim
theorem OR.append {α:Type} {R:α->List OV->Prop}:∀ {l l':List α} {es es':List (List OV)},OR R l es->OR R l' es'->OR R (l++l') (es++es')
 | [],_,[],_,_,h=>h
 |x::l,_,e::es,_,a,h=>⟨a.1,OR.append a.2 h⟩
 | [],_,_::_,_,a,_=>a.elim
 | _::_,_,[],_,a,_=>a.elim
theorem OR.pX {α:Type} {R:α->List OV->Prop} {c:α->List aE} (hR:∀ x e,R x e->e.map OV.pX=c x):∀ {l:List α} {es:List (List OV)},OR R l es->OV.lQ es=l.map c
 | [],[],_=>rfl
 |x::l,e::es,h=>by rw[OV.lQ,OR.pX hR h.2,OV.yQ,hR x e h.1];rfl
 | [],_::_,h=>h.elim
 | _::_,[],h=>h.elim
theorem OS.pX {α:Type} {R:α->List OV->Prop} {c:α->List aE} {sz:Nat} {l:List α} {y:OV} (hR:∀ x e,R x e->e.map OV.pX=c x) (h:OS R sz l y):y.pX=.sl sz (l.map c) false:=by
 rcases h with⟨rfl,rfl⟩|⟨n,es,rfl,h⟩
 ·rfl
 ·simp only[OV.pX,OR.pX hR h]
def bC (l:List (Nat×bU)):List Nat:=l.map (·.1)
def bHS (S:List Nat) (h h':aB):Prop:=∀ m,m∉S->h' m=h m
open Go.ChangeShapes Go.WideShapes
def rX {α:Type} (s:α->Nat) (l:List α):Nat:=l.length+(l.map s).sum
theorem tD {α:Type} (s:α->Nat) (l:List α):rX s l=l.length+(l.map s).sum:=rfl
theorem OV.qZ:∀ (a b:List OV),OV.b5 (a++b)=OV.b5 a++OV.b5 b
 | [],b=>rfl
 |x::a,b=>by rw[aU9,OV.b5,OV.qZ a b,OV.b5,aOJ]
theorem OV.lK:∀ (a b:List (List OV)),OV.bF (a++b)=OV.bF a++OV.bF b
 | [],b=>rfl
 |x::a,b=>by rw[aU9,OV.bF,OV.lK a b,OV.bF,aOJ]
theorem dO (a b:List (Nat×bU)):bC (a++b)=bC a++bC b:=mY
theorem dH {l:List (Nat×bU)} {m:Nat}:m∈bC l↔∃ o,(m,o)∈l:=by
 simp[bC]
structure fI (h:aB) (l:List (Nat×bU)) (h':aB):Prop where
 nodup:(bC l).Nodup
 fresh:∀ m∈bC l,h m=none
 oC:qO h' l
 upto:bHS (bC l) h h'
theorem fI.nil (h:aB):fI h [] h:=⟨List.nodup_nil,by simp[bC],by simp[qO],λm _=>rfl⟩
theorem fI.one {h:aB} {n:Nat} {o:bU} (hn:h n=none):fI h [(n,o)] (aT h n o) :=
 ⟨by simp[bC],by simpa[bC]using hn,by simp[qO],λm hm=>aD _ _ _ _ (by simpa[bC]using hm)⟩
theorem fI.append {h h1 h2:aB} {a b:List (Nat×bU)} (x:fI h a h1) (y:fI h1 b h2):fI h (a++b) h2:=by
 have dis:∀ m∈bC a,m∉bC b:=λm hm hb=>by
  obtain⟨o,ho⟩:=dH.1 hm
  have:=y.fresh m hb
  rw[x.oC _ ho]at this;cases this
 refine⟨?_,?_,?_,?_⟩
 ·rw[dO]
  exact xB.2 ⟨x.nodup,y.nodup,λp hp q hq e=>dis p hp (e▸hq)⟩
 ·intro m hm
  rw[dO,nY]at hm
  by_cases hb:m∈bC a
  ·exact x.fresh m hb
  ·rcases hm with hm|hm
   ·exact absurd hm hb
   ·rw[←x.upto m hb];exact y.fresh m hm
 ·intro p hp
  rcases nY.1 hp with hp|hp
  ·have:p.1∈bC a:=dH.2 ⟨p.2,hp⟩
   rw[y.upto p.1 (dis _ this)];exact x.oC p hp
  ·exact y.oC p hp
 ·intro m hm
  rw[dO,nY]at hm
  rw[y.upto m λq=>hm (.inr q),x.upto m λq=>hm (.inl q)]
theorem fI.perm {h h':aB} {a b:List (Nat×bU)} (x:fI h a h') (p:a.Perm b):fI h b h' :=
 ⟨(p.map _).nodup_iff.1 x.nodup,λm hm=>x.fresh m (((p.map (·.1)).mem_iff).2 hm),λq hq=>x.oC q (p.mem_iff.2 hq),λm hm=>x.upto m λq=>hm (((p.map (·.1)).mem_iff).1 q)⟩
theorem fI.set {h h':aB} {n:Nat} {o o':bU} {l:List (Nat×bU)} (x:fI h ((n,o)::l) h'):fI h ((n,o')::l) (aT h' n o'):=by
 have hnd:=x.nodup
 have hn:n∉bC l:=by
  have:(bC ((n,o)::l)).Nodup:=hnd
  simp only[bC,qR,aD0]at this
  exact this.1
 refine⟨hnd,x.fresh,?_,λm hm=>?_⟩
 ·intro p hp
  rcases pP.1 hp with rfl|hp
  ·exact aI _ _ _
  ·have:p.1≠n:=λe=>hn (e▸dH.2 ⟨p.2,hp⟩)
   rw[aD _ _ _ _ this];exact x.oC p (wN _ hp)
 ·have:m≠n:=λe=>hm (by subst e;simp[bC])
  rw[aD _ _ _ _ this];exact x.upto m hm
def rY (h:aB) (S:List Nat):aB:=λm=>if m∈S then none else h m
theorem a5R (h:aB) (S:List Nat):(rY h S).le h:=λm=>by
 by_cases e:m∈S
 ·exact .inl (if_pos e)
 ·exact .inr (if_neg e)
theorem fI.drop {h h':aB} {a b:List (Nat×bU)} (x:fI h (a++b) h'):fI h b (rY h' (bC a)):=by
 have hnd:=x.nodup
 rw[dO]at hnd
 obtain⟨_,nb,dis⟩:=xB.1 hnd
 refine⟨nb,λm hm=>x.fresh m (by rw[dO];exact xA _ hm),λp hp=>?_,λm hm=>?_⟩
 ·have:p.1∉bC a:=λq=>dis _ q _ (dH.2 ⟨p.2,hp⟩) rfl
  simp only[rY,if_neg this]
  exact x.oC p (xA _ hp)
 ·by_cases e:m∈bC a
  ·simp only[rY,if_pos e]
   exact(x.fresh m (by rw[dO];exact aAK _ e)).symm
  ·simp only[rY,if_neg e]
   exact x.upto m (by rw[dO];simp[e,hm])
theorem aSW {P:Program} {f:FuncId} {args:List aE} {r:aE} {K:aE->aB->Prop} (h:aB) (a:iD P f args h K)
  (hk:∀ r' h',K r' h'->∃ l,fI h l h'/\∀ E w v,Rel E h' w->fG E h' w r' v->fG E (iX h' (bC l)) w r v):iD P f args h λr' h'=>r'=r/\h'=h :=
 ⟨a.1,λE w vs R hv=>Calls.mono (a.2 E w vs R hv) λe w' he=>by
  cases e <;> try exact he
  obtain⟨r',h',E',k,ev,R',rx⟩:=he
  obtain⟨l,nw,hr⟩:=hk r' h' k
  have hle:h.le (iX h' (bC l)):=λm=>by
   by_cases e:m∈bC l
   ·exact .inl (nw.fresh m e)
   ·rw[kY e,nw.upto m e];exact .inr rfl
  refine⟨r,h,E',⟨rfl,rfl⟩,ev.trans ((Ev.iX _).forget hle),(R'.iX _).forget hle,?_⟩
  refine fG.pV (λb hb=>oU.le hle hb) (hr E' w' _ R' rx)⟩
theorem eF.aCN {E:Env} {h:aB} {w:World} (R:Rel E h w) {S:List Nat}:∀ (e:List OV) (vs:List Value),qO h (OV.b5 e)->(∀ p∈OV.b5 e,p.1∈S)->eF E h w (e.map OV.val) vs->eF E (iX h S) w (e.map OV.pX) vs
 | [],[],_,_,_=>trivial
 |x::e,v::vs,ho,hS,hr=>⟨fG.aCN R x (λp hp=>ho p aXV) (λp hp=>hS p aXV) v hr.1,
   eF.aCN R e vs (λp hp=>ho p aXU) (λp hp=>hS p aXU) hr.2⟩
 | [],_::_,_,_,hr=>hr.elim
 | _::_,[],_,_,hr=>hr.elim
theorem fG.aSX {E:Env} {h:aB} {w:World} (R:Rel E h w) {S:List Nat} (e:List OV) (v:Value) (ho:qO h (OV.b5 e)) (hS:∀ p∈OV.b5 e,p.1∈S) (hr:fG E h w (.agg (e.map OV.val)) v):fG E (iX h S) w (.agg (e.map OV.pX)) v:=by
 cases hr with
 |agg _ vs hl hr =>
  have:=eF.aCN R e vs ho hS (eF.mk hl hr)
  exact .agg _ vs this.length this.get
theorem aC6 {α:Type} {c:α->aE} {x:α} {e:List OV} (h:oP c x e):e.map OV.pX=[c x]:=by
 unfold oP at h;subst h;rfl
structure aF9 (h:aB) (T:List Nat) (l:List (Nat×bU)) (h':aB):Prop where
 nodup:(T++bC l).Nodup
 fresh:∀ m∈T++bC l,h m=none
 there:∀ m∈T,h' m≠none
 oC:qO h' l
 upto:bHS (T++bC l) h h'
theorem aF9.bOH {h h':aB} {l:List (Nat×bU)} (x:aF9 h [] l h'):fI h l h':=⟨x.nodup,x.fresh,x.oC,x.upto⟩
theorem fI.toT {h h':aB} {l:List (Nat×bU)} (x:fI h l h'):aF9 h [] l h':=⟨x.nodup,x.fresh,by simp,x.oC,x.upto⟩
theorem aF9.drop {h h':aB} {T:List Nat} {l:List (Nat×bU)} (x:aF9 h T l h'):fI h l (rY h' T):=by
 obtain⟨_,nb,dis⟩:=xB.1 x.nodup
 refine⟨nb,λm hm=>x.fresh m (xA _ hm),λp hp=>?_,λm hm=>?_⟩
 ·have:p.1∉T:=λq=>dis _ q _ (dH.2 ⟨p.2,hp⟩) rfl
  simp only[rY,if_neg this]
  exact x.oC p hp
 ·by_cases e:m∈T
  ·simp only[rY,if_pos e]
   exact(x.fresh m (aAK _ e)).symm
  ·simp only[rY,if_neg e]
   exact x.upto m (by simp[e,hm])
theorem aF9.some {h h':aB} {T:List Nat} {l:List (Nat×bU)} (x:aF9 h T l h') {m:Nat} (hm:m∈T++bC l):h' m≠none:=by
 rcases nY.1 hm with hm|hm
 ·exact x.there m hm
 ·obtain⟨o,ho⟩:=dH.1 hm
  rw[x.oC _ ho];simp
theorem aF9.row {h h':aB} {T:List Nat} {l:List (Nat×bU)} (x:aF9 h T l h') {n:Nat} {o:bU} (hn:h' n=none):aF9 h T ((n,o)::l) (aT h' n o):=by
 have hn1:n∉T++bC l:=λq=>x.some q hn
 have nd:=xB.1 x.nodup
 refine⟨xB.2 ⟨nd.1,?_,?_⟩,?_,?_,λp hp=>?_,λm hm=>?_⟩
 ·show(n::bC l).Nodup
  exact aD0.2 ⟨λq=>hn1 (xA _ q),nd.2.1⟩
 ·intro a ha b hb e
  have hb':b∈n::bC l:=hb
  rcases pP.1 hb' with rfl|hb'
  ·exact hn1 (e▸aAK _ ha)
  ·exact nd.2.2 a ha b hb' e
 ·intro m hm
  rcases nY.1 hm with hm|hm
  ·exact x.fresh m (aAK _ hm)
  ·have hm':m∈n::bC l:=hm
   rcases pP.1 hm' with rfl|hm'
   ·rw[←x.upto m hn1];exact hn
   ·exact x.fresh m (xA _ hm')
 ·intro m hm
  have:m≠n:=λe=>hn1 (e▸aAK _ hm)
  rw[aD _ _ _ _ this];exact x.there m hm
 ·rcases pP.1 hp with rfl|hp
  ·exact aI _ _ _
  ·have:p.1≠n:=λe=>hn1 (e▸xA _ (dH.2 ⟨p.2,hp⟩))
   rw[aD _ _ _ _ this];exact x.oC p hp
 ·have h1:m≠n:=λe=>hm (e▸xA _ (by simp[bC]))
  rw[aD _ _ _ _ h1]
  refine x.upto m λq=>hm ?_
  rcases nY.1 q with q|q
  ·exact aAK _ q
  ·exact xA _ (wN _ q)
theorem fI.keep {h h':aB} {l:List (Nat×bU)} (x:fI h l h') {n:Nat} {o:bU} (hn:h n=some o):h' n=some o:=by
 rw[x.upto n λq=>by rw[x.fresh n q]at hn;cases hn];exact hn
theorem aF9.set {h h':aB} {T:List Nat} {n:Nat} {o o':bU} {l:List (Nat×bU)} (x:aF9 h T ((n,o)::l) h'):aF9 h T ((n,o')::l) (aT h' n o'):=by
 have nd:=xB.1 x.nodup
 have nd2:(n::bC l).Nodup:=nd.2.1
 refine⟨x.nodup,x.fresh,λm hm=>?_,λp hp=>?_,λm hm=>?_⟩
 ·by_cases e:m=n
  ·subst e;simp
  ·rw[aD _ _ _ _ e];exact x.there m hm
 ·rcases pP.1 hp with rfl|hp
  ·exact aI _ _ _
  ·have:p.1≠n:=λe=>(aD0.1 nd2).1 (e▸dH.2 ⟨p.2,hp⟩)
   rw[aD _ _ _ _ this];exact x.oC p (wN _ hp)
 ·have h1:m≠n:=λe=>hm (e▸xA _ (by simp[bC]))
  rw[aD _ _ _ _ h1];exact x.upto m hm
theorem wU {α:Type} {c:α->aE}:∀ (l:List α),OR (oP c) l (l.map λx=>[.v (c x)])
 | []=>trivial
 |x::l=>⟨rfl,wU l⟩
theorem fP {α:Type} (c:α->aE) (l:List α):OV.cells (l.map λx=>[OV.v (c x)])=(l.map λx=>[c x]).map (List.map .v):=by
 simp[OV.cells,OV.val]
theorem gL {α:Type} (c:α->aE):∀ (l:List α),OV.bF (l.map λx=>[OV.v (c x)])=[]
 | []=>rfl
 |x::l=>by rw[qR,OV.bF,gL c l];rfl
theorem OV.nR (x:aE):(OV.v x).val=x:=rfl
theorem OS.flat {α:Type} {R:α->List OV->Prop} {sz:Nat} {l:List α} {y:OV} (h:OS R sz l y):y.val.flat=true:=by
 rcases h with⟨rfl,_⟩|⟨n,es,rfl,_⟩ <;> rfl
theorem OS.one {α:Type} {R:α->List OV->Prop} {sz:Nat} {l:List α} {y:OV} (h:OS R sz l y):y.val.cells=[y.val]:=by
 rcases h with⟨rfl,_⟩|⟨n,es,rfl,_⟩ <;> rfl
theorem aMM (es:List (List OV)) (e:List OV):OV.bF (es++[e])=OV.bF es++OV.b5 e:=by
 rw[OV.lK];simp only[OV.bF,dR]
def yR (P:Program) (f:FuncId) (args:List aE) (Q:aE->List (Nat×bU)->Prop):Prop:=∀ h:aB,iD P f args h λr h'=>∃ l,Q r l/\fI h l h'
theorem fI.under {g h':aB} {n:Nat} {o:bU} {l:List (Nat×bU)} (hg:g n=none) (x:fI (aT g n o) l h'):∃ g',h'=aT g' n o/\fI g l g'/\g' n=none:=by
 have hn:n∉bC l:=λq=>by have:=x.fresh n q;simp at this
 have hk:h' n=some o:=x.keep (aI _ _ _)
 refine⟨rY h' [n],?_,⟨x.nodup,λm hm=>?_,λp hp=>?_,λm hm=>?_⟩,by simp[rY]⟩
 ·funext m
  by_cases e:m=n
  ·subst e;rw[aI,hk]
  ·rw[aD _ _ _ _ e];simp[rY,e]
 ·have e:m≠n:=λe=>hn (e▸hm)
  have:=x.fresh m hm
  rwa [aD _ _ _ _ e]at this
 ·have e:p.1≠n:=λe=>hn (e▸dH.2 ⟨p.2,hp⟩)
  have:rY h' [n] p.1=h' p.1:=by simp[rY,e]
  rw[this];exact x.oC p hp
 ·by_cases e:m=n
  ·subst e;rw[hg];simp[rY]
  ·have:rY h' [n] m=h' m:=by simp[rY,e]
   rw[this,x.upto m hm,aD _ _ _ _ e]
theorem fI.aC7 {g h':aB} {n m:Nat} {x y:bU} {l:List (Nat×bU)} (hn:g n=none) (hm:aT g n x m=none) (q:fI (aT (aT g n x) m y) l h'):∃ g',h'=aT (aT g' n x) m y/\fI g l g'/\g' n=none/\aT g' n x m=none:=by
 obtain⟨g1,rfl,q1,h1⟩:=q.under hm
 obtain⟨g2,rfl,q2,h2⟩:=q1.under hn
 exact⟨g2,rfl,q2,h2,h1⟩
theorem fI.aOY {g h':aB} {n m k:Nat} {x y z:bU} {l:List (Nat×bU)} (hn:g n=none) (hm:aT g n x m=none) (hk:aT (aT g n x) m y k=none) (q:fI (aT (aT (aT g n x) m y) k z) l h') :
  ∃ g',h'=aT (aT (aT g' n x) m y) k z/\fI g l g'/\g' n=none/\aT g' n x m=none/\aT (aT g' n x) m y k=none:=by
 obtain⟨g1,rfl,q1,h1⟩:=q.under hk
 obtain⟨g2,rfl,q2,h2,h3⟩:=q1.aC7 hn hm
 exact⟨g2,rfl,q2,h2,h3,h1⟩
section
variable {P:Program} {f:FuncId} {args:List aE} {Q:aE->List (Nat×bU)->Prop} {K:aE->aB->Prop} {t:Tag K}
end
theorem bVP {P:Program} {f:FuncId} {fn:Func} {c:Code} (N:Nat) (keep ib:List Nat) (mk:Marks) {args:List aE} {Q:aE->List (Nat×bU)->Prop} (hmix:P.follows .mixedOrders=true) (hf:P.funcs[f]?=some fn) (hb:fn.body=some c)
  (hck:(jF P f && decide (fn.ntmps=N) && gR N mk c)=true) (hl:args.length<=N)
  (hw:∀ h,nV P N keep ib mk c (λτ h'=>l9 P fn.results (λr h'=>∃ r1 g l,Shift r h' r1 g/\Q r1 l/\fI h l g) () .normal τ h') (l9 P fn.results (λr h'=>∃ r1 g l,Shift r h' r1 g/\Q r1 l/\fI h l g) ()) (pQ 0 args) h ()):yR P f args Q:=by
 intro h
 have h1:iD P f args h (λr h'=>∃ r1 g l,Shift r h' r1 g/\Q r1 l/\fI h l g) :=
  iD.mono (bOF (K:=λr h'=>∃ r1 g l,Shift r h' r1 g/\Q r1 l/\fI h l g) N keep ib mk hmix hf hb hck hl (by
   have:=hw h
   refine Eq.mp ?_ this
   have e:(λr h'=>∃ r1 g l,Shift r h' r1 g/\Q r1 l/\fI h l g)=(λr h'=>∃ g':aB,g'.le h'/\∃ r1 g l,Shift r g' r1 g/\Q r1 l/\fI h l g):=by
    funext r h'
    refine propext ⟨λ⟨r1,g,l,s,q⟩=>⟨h',aB.le_refl _,r1,g,l,s,q⟩,λ⟨g',hl,r1,g,l,s,q⟩=>⟨r1,g,l,(Shift.of (Sub.refl _) hl).trans s,q⟩⟩
   rw[e])) λr h' q=>q
 exact uZ (fn:=fn) (c:=c) (N:=N) h1 λr h' ⟨r1,g,l,s,q,n⟩=>⟨r1,g,s,l,q,n⟩
theorem yR.dI {P:Program} {f:FuncId} {args:List aE} {Q:aE->List (Nat×bU)->Prop} {r:aE} (a:yR P f args Q)
  (hk:∀ r' l,Q r' l->∀ E w v h',qO h' l->Rel E h' w->fG E h' w r' v->fG E (iX h' (bC l)) w r v):fR P f args r:=λh =>
 aSW h (a h) λr' h' ⟨l,q,hn⟩=>⟨l,hn,λE w v R rx=>hk r' l q E w v h' hn.oC R rx⟩
def sU (h:aB):aB:=λm=>(h m).map λ_=>.gone
theorem yS {h:aB} {m:Nat} {o:bU} (ho:sU h m=some o):o=.gone:=by
 simp only[sU,r7]at ho
 obtain⟨_,_,rfl⟩:=ho;rfl
theorem xM {E:Env} {h:aB} {w:World} {b:Nat} (hb:b<w.heap.size):oU E (sU h) w b:=⟨hb,λm o hm ho=>by rw[yS hm]at ho;exact ho.elim⟩
theorem Rel.sU {E:Env} {h:aB} {w:World} (R:Rel E h w):Rel E (sU h) w:=by
 refine⟨R.fin,λm hm=>R.dom m λq=>hm (by simp[Hl.sU,q]),?_,?_,?_,R.laid.pV λb hb=>xM hb.1⟩
 ·intro m o b hm ho;rw[yS hm]at ho;exact ho.elim
 ·intro m o m' o' b hm ho;rw[yS hm]at ho;exact ho.elim
 ·intro m o hm;rw[yS hm];trivial
theorem iD.bOI {P:Program} {f:FuncId} {args args':List aE} {h:aB} {K:aE->aB->Prop} {K':aE->List (Nat×bU)->Prop}
  (hview:∀ E w vs,Rel E h w->eF E h w args vs->eF E (sU h) w args' vs) (a:iD P f args' (sU h) K)
  (hK:∀ r h',K r h'->∃ l,K' r l/\fI (sU h) l h'/\r.gY=true/\∀ p∈l,p.2.gY=true) :
  iD P f args h λr h'=>∃ l,K' r l/\fI h l h':=by
 refine⟨a.1,λE w vs R hv=>Calls.mono (a.2 E w vs R.sU (hview E w vs R hv)) λe w' he=>?_⟩
 cases e <;> try exact he
 obtain⟨r,h',E',k,ev,R',rx⟩:=he
 obtain⟨l,k',nw,hr,hsol⟩:=hK r h' k
 have hnew:∀ m∈bC l,h m=none:=λm hm=>by
  have:=nw.fresh m hm
  simpa[sU]using this
 let h2:aB:=λm=>if m∈bC l then h' m else h m
 have e1:∀ m,m∈bC l->h2 m=h' m:=λm hm=>if_pos hm
 have e2:∀ m,m∉bC l->h2 m=h m:=λm hm=>if_neg hm
 let E2:Env:={ loc:=E'.loc,fp:=λn=>if n∈bC l then E'.fp n else E.fp n,used:=E'.used }
 have f1:∀ m,m∈bC l->E2.fp m=E'.fp m:=λm hm=>if_pos hm
 have f2:∀ m,m∉bC l->E2.fp m=E.fp m:=λm hm=>if_neg hm
 have aVR:∀ b,b<w.heap.size->oU E (sU h) w b:=λb hb=>xM hb
 have solL:∀ m o,m∈bC l->h' m=some o->o.gY=true:=λm o hm ho=>by
  obtain⟨o',ho'⟩:=dH.1 hm
  have:=nw.oC _ ho'
  rw[ho]at this
  obtain rfl:=gO this
  exact hsol _ ho'
 have evA:Ev E h w E2 h2 w':=by
  refine⟨ev.size,λb hb=>?_,ev.shape,ev.loc,ev.os,ev.out⟩
  have h1:=ev.keep b (aVR b hb.1)
  refine⟨h1.1,h1.2.1,λm o hm ho hf=>?_⟩
  by_cases e:m∈bC l
  ·rw[e1 m e]at hm;rw[f1 m e]at hf;exact h1.2.2 m o hm ho hf
  ·rw[e2 m e]at hm;rw[f2 m e]at hf;exact hb.2 m o hm ho hf
 have R2:Rel E2 h2 w':=by
  refine⟨R'.fin,λm hm=>?_,?_,?_,?_,R.laid.ev evA⟩
  ·by_cases e:m∈bC l
   ·rw[e1 m e]at hm;exact R'.dom m hm
   ·rw[e2 m e]at hm;exact(ev.loc m (R.dom m hm)).2
  ·intro m o b hm ho hf
   by_cases e:m∈bC l
   ·rw[e1 m e]at hm;rw[f1 m e]at hf;exact R'.lt m o b hm ho hf
   ·rw[e2 m e]at hm;rw[f2 m e]at hf;exact Nat.lt_of_lt_of_le (R.lt m o b hm ho hf) ev.size
  ·intro m o m' o' b hm ho hm' ho' hf hf'
   by_cases e:m∈bC l
   ·rw[e1 m e]at hm;rw[f1 m e]at hf
    by_cases e':m'∈bC l
    ·rw[e1 m' e']at hm';rw[f1 m' e']at hf';exact R'.apart m o m' o' b hm ho hm' ho' hf hf'
    ·rw[e2 m' e']at hm';rw[f2 m' e']at hf'
     exact absurd hf ((ev.keep b (aVR b (R.lt m' o' b hm' ho' hf'))).2.2 m o hm ho)
   ·rw[e2 m e]at hm;rw[f2 m e]at hf
    by_cases e':m'∈bC l
    ·rw[e1 m' e']at hm';rw[f1 m' e']at hf'
     exact absurd hf' ((ev.keep b (aVR b (R.lt m o b hm ho hf))).2.2 m' o' hm' ho')
    ·rw[e2 m' e']at hm';rw[f2 m' e']at hf';exact R.apart m o m' o' b hm ho hm' ho' hf hf'
  ·intro m o hm
   by_cases e:m∈bC l
   ·rw[e1 m e]at hm
    exact aD8.gY (E:=E') (E':=E2) (λn hn=>⟨rfl,hn⟩) (λ_ _=>rfl) rfl (f1 m e) (λ_ _=>rfl) (solL m o e hm) (R'.obj m o hm)
   ·rw[e2 m e]at hm
    cases o with
    |gone=>trivial
    |row sz es=>exact(R.obj m _ hm).ev evA (ev.loc m (R.dom m (by simp[hm]))).1 (f2 m e) λb _ hb=>(ev.keep b (aVR b (R.lt m _ b hm trivial hb))).1
    |abs Q=>exact(R.obj m _ hm).ev evA (ev.loc m (R.dom m (by simp[hm]))).1 (f2 m e) λb _ hb=>(ev.keep b (aVR b (R.lt m _ b hm trivial hb))).1
    |raw t cs=>exact(R.obj m _ hm).ev evA (ev.loc m (R.dom m (by simp[hm]))).1 (f2 m e) λb _ hb=>(ev.keep b (aVR b (R.lt m _ b hm trivial hb))).1
    |map kt et l'=>exact(R.obj m _ hm).ev evA (ev.loc m (R.dom m (by simp[hm]))).1 (f2 m e) λb _ hb=>(ev.keep b (aVR b (R.lt m _ b hm trivial hb))).1
 refine⟨r,h2,E2,⟨l,k',⟨nw.nodup,hnew,λp hp=>?_,λm hm=>e2 m hm⟩⟩,evA,R2,fG.gY (E:=E') (E':=E2) (λn hn=>⟨rfl,hn⟩) (λ_ _=>rfl) rx hr⟩
 rw[e1 p.1 (dH.2 ⟨p.2,hp⟩)];exact nw.oC p hp
def View (h:aB) (x x':aE):Prop:=∀ E w v,Rel E h w->fG E h w x v->fG E (sU h) w x' v
def mA (h:aB):List aE->List aE->Prop
 | [],[]=>True
 |x::xs,y::ys=>View h x y/\mA h xs ys
 | _,_=>False
theorem bHT {E:Env} {h:aB} {w:World} {b:Nat} (i:oU E h w b):oU E (sU h) w b:=xM i.1
theorem View.same (h:aB) (x:aE):View h x x:=λE w v R r=>r.pV λb i=>bHT i
theorem aKN {E:Env} {h:aB} {w:World} {S:List Nat}:∀ b,oU E (Hl.iX h S) w b->oU E (sU h) w b:=λb i=>xM i.1
theorem View.ov {h:aB} (y:OV) (ho:qO h y.rows):View h y.val y.pX:=λE w v R r =>
 (fG.aCN R (S:=bC y.rows) y ho (λp hp=>dH.2 ⟨p.2,hp⟩) v r).pV aKN
theorem View.op {h:aB} {n sz i off:Nat} (es:List (List OV)) (hn:h n=some (.row sz (OV.cells es))) (hne:es≠[]) (ho:qO h (OV.bF es)):View h (.op n sz i off) (.ip sz (OV.lQ es) i off):=by
 intro E w v R r
 cases v <;> try(cases r;done)
 cases r with
 |op _ _ _ _ b o hd hl =>
  obtain⟨b',o',hl',hbS,hs,cs,ct,cv,T,hh,hm',hT,hD,hc,hrr⟩:=aAR R hn (.inr ⟨_,hl⟩)
  rw[hl]at hl'
  obtain⟨rfl,rfl⟩:=aOI (gO hl')
  have hcs:∀ i j y,iU (OV.lQ es) i j=some y->∃ c,iU es i j=some c/\y=c.pX/\cs[o+i*sz+j]?=some (cv i j)/\(cv i j).oneCell'=true/\fG E h w c.val (cv i j):=by
   intro i j y hy
   rw[OV.jS,nQ]at hy
   obtain⟨c,hc1,rfl⟩:=r7.1 hy
   have hcell:iU (OV.cells es) i j=some (.v c.val):=by rw[OV.cells,nQ,hc1];rfl
   have h2:=hrr i j _ hcell
   generalize hcv:cv i j=z at h2
   cases h2 with
   |v x c' S' h1 hx=>exact⟨c,hc1,rfl,hcv▸hc i j _ hcell,h1,hx⟩
  refine .ip sz (OV.lQ es) i off b o cv (xM (R.lt n _ b hn trivial hbS)) ?_ ?_ ?_ ?_
  ·intro e he
   rw[OV.jS,lZ]at he
   obtain⟨e',he',rfl⟩:=he
   have:=hs (e'.map λc=>Cell.v c.val) (lZ.2 ⟨e',he',rfl⟩)
   simpa using this
  ·intro i j y hy
   obtain⟨c,_,_,h1,_,_⟩:=hcs i j y hy
   simp only[World.cell?,hh]
   rw[←h1]
   simp
  ·intro i j y hy;obtain⟨c,_,_,_,h1,_⟩:=hcs i j y hy;exact h1
  ·intro i j y hy
   obtain⟨c,hc1,rfl,_,_,h1⟩:=hcs i j y hy
   obtain⟨e,he,hj⟩:=lC hc1
   exact(aF7 R (S:=bC (OV.bF es)) es ho (λp hp=>dH.2 ⟨p.2,hp⟩) e (s5 he) c (s5 hj) _ h1).pV aKN
theorem mA.aVK {h:aB}:∀ {xs ys:List aE},mA h xs ys->∀ E w vs,Rel E h w->eF E h w xs vs->eF E (sU h) w ys vs
 | [],[],_,E,w,[],R,r=>trivial
 |x::xs,y::ys,hv,E,w,v::vs,R,r=>⟨hv.1 E w v R r.1,mA.aVK hv.2 E w vs R r.2⟩
 | [],[],_,E,w,_::_,R,r=>r.elim
 |x::xs,y::ys,hv,E,w,[],R,r=>r.elim
 | [],_::_,h,_,_,_,_,_=>h.elim
 | _::_,[],h,_,_,_,_,_=>h.elim
theorem mA.nil {h:aB}:mA h [] []:=trivial
theorem mA.cons {h:aB} {x y:aE} {xs ys:List aE} (a:View h x y) (b:mA h xs ys):mA h (x::xs) (y::ys):=⟨a,b⟩
def aOZ (Q:aE->List (Nat×bU)->Prop):Prop:=∀ r l,Q r l->r.gY=true/\∀ p∈l,p.2.gY=true
theorem yR.bHU {P:Program} {f:FuncId} {args args':List aE} {Q:aE->List (Nat×bU)->Prop} {h:aB} (a:yR P f args' Q) (hv:mA h args args') (hQ:aOZ Q):iD P f args h λr h'=>∃ l,Q r l/\fI h l h' :=
 iD.bOI hv.aVK (a (sU h)) λr h' ⟨l,q,n⟩=>⟨l,q,n,(hQ r l q).1,(hQ r l q).2⟩
section
variable {P:Program} {f:FuncId} {args args':List aE} {Q:aE->List (Nat×bU)->Prop} {K:aE->aB->Prop} {t:Tag K} {g:aB}
theorem aH.ln1 {n:Nat} {x:bU} (a:yR P f args' Q) (hv:mA (aT g n x) args args') (hQ:aOZ Q) (hn:g n=none) (k:∀ r l g',Q r l->fI g l g'->g' n=none->K r (aT g' n x)):aH P f args (aT g n x) K t :=
 aH.fX (a.bHU hv hQ) λr h' ⟨l,q,hq⟩=>by obtain⟨g',rfl,q2,h1⟩:=hq.under hn;exact k r l g' q q2 h1
end
mutual
def OV.sol:OV->Bool
 | .v x=>x.gY
 | .nil _=>true
 | .sl _ _ es=>OV.tT es
def OV.tT:List (List OV)->Bool
 | []=>true
 |e::es=>OV.tE e && OV.tT es
def OV.tE:List OV->Bool
 | []=>true
 |x::e=>x.sol && OV.tE e
end
theorem OV.aND:∀ {x:OV},x.sol=true->x.val.gY=true
 | .v x,h=>by simpa only[OV.sol,OV.val]using h
 | .nil _,_=>by simp[OV.val,aE.gY]
 | .sl _ _ _,_=>by simp[OV.val,aE.gY]
theorem OV.aKP:∀ (e:List OV),OV.tE e=e.all OV.sol
 | []=>rfl
 |x::e=>by rw[OV.tE,OV.aKP e];rfl
theorem OV.aHF:∀ (es:List (List OV)),OV.tT es=es.all (λe=>e.all OV.sol)
 | []=>rfl
 |e::es=>by rw[OV.tT,OV.aHF es,OV.aKP];rfl
theorem OV.aSY {sz:Nat} {es:List (List OV)} (h:OV.tT es=true):(bU.row sz (OV.cells es)).gY=true:=by
 rw[OV.aHF]at h
 simp only[bU.gY,OV.cells,List.all_map,vF,Function.comp_apply]at h ⊢
 intro e he c hc
 exact OV.aND (h e he c hc)
mutual
theorem OV.aKQ:∀ {x:OV},x.sol=true->∀ p∈x.rows,p.2.gY=true
 | .v _,_=>by simp[OV.rows]
 | .nil _,_=>by simp[OV.rows]
 | .sl n sz es,h=>λp hp=>by
  rw[OV.rows]at hp
  rcases pP.1 hp with rfl|hp
  ·exact OV.aSY (by simpa only[OV.sol]using h)
  ·exact OV.aA5 (by simpa only[OV.sol]using h) p hp
theorem OV.aA5:∀ {es:List (List OV)},OV.tT es=true->∀ p∈OV.bF es,p.2.gY=true
 | [],_=>by simp[OV.bF]
 |e::es,h=>λp hp=>by
  simp only[OV.tT,mK]at h
  rw[OV.bF]at hp
  rcases nY.1 hp with hp|hp
  ·exact OV.aCO h.1 p hp
  ·exact OV.aA5 h.2 p hp
theorem OV.aCO:∀ {e:List OV},OV.tE e=true->∀ p∈OV.b5 e,p.2.gY=true
 | [],_=>by simp[OV.b5]
 |x::e,h=>λp hp=>by
  simp only[OV.tE,mK]at h
  rw[OV.b5]at hp
  rcases nY.1 hp with hp|hp
  ·exact OV.aKQ h.1 p hp
  ·exact OV.aCO h.2 p hp
end
theorem OR.sol {α:Type} {R:α->List OV->Prop} (hR:∀ x e,R x e->OV.tE e=true):∀ {l:List α} {es:List (List OV)},OR R l es->OV.tT es=true
 | [],[],_=>rfl
 |x::l,e::es,h=>by rw[OV.tT,hR x e h.1,OR.sol hR h.2];rfl
 | [],_::_,h=>h.elim
 | _::_,[],h=>h.elim
theorem OS.sol {α:Type} {R:α->List OV->Prop} {sz:Nat} {l:List α} {y:OV} (hR:∀ x e,R x e->OV.tE e=true) (h:OS R sz l y):y.sol=true:=by
 rcases h with⟨rfl,_⟩|⟨n,es,rfl,h⟩
 ·rfl
 ·simp only[OV.sol];exact h.sol hR
theorem aO0 {α:Type} {c:α->aE} (hc:∀ x,(c x).gY=true) {x:α} {e:List OV} (h:oP c x e):OV.tE e=true:=by
 unfold oP at h;subst h;simp[OV.tE,OV.sol,hc]
theorem yT {P:Program} {f:FuncId} {fn:Func} {c:Code} (N:Nat) (keep ib:List Nat) (mk:Marks) {args:List aE} {Q:aE->List (Nat×bU)->Prop} (hf:P.funcs[f]?=some fn) (hw:∀ h,nV P N keep ib mk c (λτ h'=>l9 P fn.results (λr h'=>∃ r1 g l,Shift r h' r1 g/\Q r1 l/\fI h l g) () .normal τ h') (l9 P fn.results (λr h'=>∃ r1 g l,Shift r h' r1 g/\Q r1 l/\fI h l g) ()) (pQ 0 args) h ()) (hmix:P.follows .mixedOrders=true:=by exact mix) (hb:fn.body=some c:=by rfl) (hck:(jF P f && decide (fn.ntmps=N) && gR N mk c)=true:=by kernel_rfl) (hl:args.length<=N:=by simp):yR P f args Q :=
 bVP N keep ib mk hmix hf hb hck hl hw
def QS (R:OV->Prop) (w:aE->aE:=λx=>x):aE->List (Nat×bU)->Prop:=λr l=>∃ y,R y/\r=w y.val/\l=y.rows
theorem fI.row {h h':aB} {l:List (Nat×bU)} (x:fI h l h') {n:Nat} {o:bU} (hn:h' n=none):fI h ((n,o)::l) (aT h' n o):=(x.toT.row hn).bOH
theorem QS.gY {R:OV->Prop} {w:aE->aE} (hR:∀ y,R y->y.sol=true) (hw:∀ x:aE,x.gY=true->(w x).gY=true):aOZ (QS R w):=λr l ⟨y,hy,e1,e2⟩=>by
 subst e1 e2
 exact⟨hw _ (OV.aND (hR y hy)),OV.aKQ (hR y hy)⟩
theorem QS.dI {P:Program} {f:FuncId} {args:List aE} {R:OV->Prop} {d:aE} (a:yR P f args (QS R)) (hd:∀ y,R y->y.pX=d):fR P f args d :=
 a.dI λr' l ⟨y,hy,e1,e2⟩ E w v h' ho R rx=>by
  subst e1 e2
  rw[←hd y hy]
  exact fG.aCN R y ho (λp hp=>dH.2 ⟨p.2,hp⟩) v rx
theorem OS.nil {α:Type} {R:α->List OV->Prop} {sz:Nat}:OS R sz [] (.nil sz):=.inl ⟨rfl,rfl⟩
theorem OS.mk {α:Type} {R:α->List OV->Prop} {sz n:Nat} {l:List α} {es:List (List OV)} (h:OR R l es):OS R sz l (.sl n sz es):=.inr ⟨n,es,rfl,h⟩
theorem OV.sV (sz:Nat):(OV.nil sz).rows=[]:=by rw[OV.rows]
theorem OV.aA6 (x:aE):(OV.v x).rows=[]:=by rw[OV.rows]
theorem OV.eK (n sz:Nat) (es:List (List OV)):(OV.sl n sz es).rows=(n,.row sz (OV.cells es))::OV.bF es:=by rw[OV.rows]
theorem OV.iQ:OV.b5 []=[]:=by rw[OV.b5]
theorem OV.eP (x:OV) (e:List OV):OV.b5 (x::e)=x.rows++OV.b5 e:=by rw[OV.b5]
theorem OV.aYX (sz:Nat):(OV.nil sz).val=.sl sz [] true:=rfl
theorem OV.wV (n sz:Nat) (es:List (List OV)):(OV.sl n sz es).val=.os n sz 0 es.length:=rfl
theorem OV.dP:List.map OV.val []=[]:=rfl
theorem OV.iR (x:OV) (e:List OV):List.map OV.val (x::e)=x.val::e.map OV.val:=rfl
structure Chg (h h':aB) (l l':List (Nat×bU)):Prop where
 names:bC l'=bC l
 oC:qO h' l'
 upto:bHS (bC l) h h'
theorem Chg.trans {h h1 h2:aB} {a b c:List (Nat×bU)} (x:Chg h h1 a b) (y:Chg h1 h2 b c):Chg h h2 a c :=
 ⟨y.names.trans x.names,y.oC,λm hm=>(y.upto m (by rw[x.names];exact hm)).trans (x.upto m hm)⟩
theorem qO.left {h:aB} {a b:List (Nat×bU)} (o:qO h (a++b)):qO h a:=λp hp=>o p (aAK _ hp)
theorem qO.right {h:aB} {a b:List (Nat×bU)} (o:qO h (a++b)):qO h b:=λp hp=>o p (xA _ hp)
theorem Chg.mid {h h':aB} {a l l' b:List (Nat×bU)} (o:qO h (a++(l++b))) (nd:(bC (a++(l++b))).Nodup) (c:Chg h h' l l'):Chg h h' (a++(l++b)) (a++(l'++b)):=by
 have nd':=nd
 rw[dO,dO]at nd'
 obtain⟨_,n2,d1⟩:=xB.1 nd'
 obtain⟨_,_,d2⟩:=xB.1 n2
 refine⟨by rw[dO,dO,dO,dO,c.names],λp hp=>?_,λm hm=>c.upto m λq=>hm ?_⟩
 ·rcases nY.1 hp with hp|hp
  ·have hm:p.1∈bC a:=dH.2 ⟨p.2,hp⟩
   rw[c.upto p.1 λq=>d1 _ hm _ (aAK _ q) rfl]
   exact o p (aAK _ hp)
  ·rcases nY.1 hp with hp|hp
   ·exact c.oC p hp
   ·have hm:p.1∈bC b:=dH.2 ⟨p.2,hp⟩
    rw[c.upto p.1 λq=>d2 _ q _ hm rfl]
    exact o p (xA _ (xA _ hp))
 ·rw[dO,dO]
  exact xA _ (aAK _ q)
theorem Chg.set {h:aB} {n:Nat} {o o':bU} {l:List (Nat×bU)} (ow:qO h ((n,o)::l)) (nd:(bC ((n,o)::l)).Nodup):Chg h (aT h n o') ((n,o)::l) ((n,o')::l):=by
 have hn:n∉bC l:=(aD0.1 (show(n::bC l).Nodup from nd)).1
 refine⟨rfl,λp hp=>?_,λm hm=>?_⟩
 ·rcases pP.1 hp with rfl|hp
  ·exact aI _ _ _
  ·have:p.1≠n:=λe=>hn (e▸dH.2 ⟨p.2,hp⟩)
   rw[aD _ _ _ _ this];exact ow p (wN _ hp)
 ·have:m≠n:=λe=>hm (by rw[e];exact aAL)
  exact aD _ _ _ _ this
theorem Chg.nodup {h h':aB} {a b:List (Nat×bU)} (c:Chg h h' a b) (nd:(bC a).Nodup):(bC b).Nodup:=by rw[c.names];exact nd
theorem fI.chg {h h1 h2:aB} {l l':List (Nat×bU)} (x:fI h l h1) (c:Chg h1 h2 l l'):fI h l' h2 :=
 ⟨c.nodup x.nodup,λm hm=>x.fresh m (c.names▸hm),c.oC,λm hm=>(c.upto m (c.names▸hm)).trans (x.upto m (c.names▸hm))⟩
theorem a2M {a l b:List (Nat×bU)} (nd:(bC (a++(l++b))).Nodup):(bC l).Nodup:=by
 rw[dO,dO]at nd
 exact(xB.1 (xB.1 nd).2.1).1
theorem q0 (a b:List (List OV)):OV.cells (a++b)=OV.cells a++OV.cells b:=by simp[OV.cells]
theorem tU (a b:List (List OV)):OV.bF (a++b)=OV.bF a++OV.bF b:=OV.lK a b
theorem nD (e:List OV) (b:List (List OV)):OV.bF (e::b)=OV.b5 e++OV.bF b:=by rw[OV.bF]
theorem qO.up {g:aB} {l:List (Nat×bU)} {n:Nat} {o:bU} (ow:qO g l) (hn:g n=none):qO (aT g n o) l:=λp hp=>by
 have:p.1≠n:=λe=>by have:=ow p hp;rw[e,hn]at this;cases this
 rw[aD _ _ _ _ this];exact ow p hp
theorem fI.un0 {g h':aB} {l:List (Nat×bU)}  (x:fI g l h'):∃ g',h'=g'/\fI g l g':=by
 exact⟨h',rfl,x⟩
theorem aH.wn0 {P:Program} {f:FuncId} {args:List aE} {Q:aE->List (Nat×bU)->Prop} {K:aE->aB->Prop} {t:Tag K} {g:aB} (a:yR P f args Q)  (k:∀ r l g',Q r l->fI g l g'->K r g'):aH P f args g K t :=
 aH.fX (a _) λr h' ⟨l,q,hq⟩=>by
  obtain⟨g',e0,q2⟩:=hq.un0;subst e0
  exact k r l _ q q2
theorem aH.wl0 {P:Program} {f:FuncId} {args args':List aE} {Q:aE->List (Nat×bU)->Prop} {K:aE->aB->Prop} {t:Tag K} {g:aB} (a:yR P f args' Q) (hv:mA g args args') (hQ:aOZ Q)  (k:∀ r l g',Q r l->fI g l g'->K r g'):aH P f args g K t :=
 aH.fX (a.bHU hv hQ) λr h' ⟨l,q,hq⟩=>by
  obtain⟨g',e0,q2⟩:=hq.un0;subst e0
  exact k r l _ q q2
theorem fI.un1 {g h':aB} {n0:Nat} {o0:bU} {l:List (Nat×bU)} (h0:g n0=none) (x:fI (aT g n0 o0) l h'):∃ g',h'=(aT g' n0 o0)/\fI g l g'/\g' n0=none:=by
 exact x.under h0
theorem aH.wn1 {P:Program} {f:FuncId} {args:List aE} {Q:aE->List (Nat×bU)->Prop} {K:aE->aB->Prop} {t:Tag K} {g:aB} {n0:Nat} {o0:bU} (a:yR P f args Q) (h0:g n0=none) (k:∀ r l g',Q r l->fI g l g'->g' n0=none->K r (aT g' n0 o0)):aH P f args (aT g n0 o0) K t :=
 aH.fX (a _) λr h' ⟨l,q,hq⟩=>by
  obtain⟨g',rfl,q2,z0⟩:=hq.un1 h0
  exact k r l _ q q2 z0
def aVT (w:aE->aE):Prop:=∀ (E:Env) (h g:aB) (W:World) (x y:aE) (v:Value),(∀ b,oU E h W b->oU E g W b)->(∀ u,fG E h W x u->fG E g W y u)->fG E h W (w x) v->fG E g W (w y) v
theorem eF.hole {E:Env} {h g:aB} {W:World} {x y:aE} (hi:∀ b,oU E h W b->oU E g W b) (hr:∀ u,fG E h W x u->fG E g W y u):∀ (a b:List aE) (vs:List Value),eF E h W (a++x::b) vs->eF E g W (a++y::b) vs
 | [],b,v::vs,r=>⟨hr v r.1,eF.pV hi r.2⟩
 |z::a,b,v::vs,r=>⟨r.1.pV hi,eF.hole hi hr a b vs r.2⟩
 | [],b,[],r=>r.elim
 |z::a,b,[],r=>r.elim
theorem aA7 (a b:List aE):aVT λx=>.gK (a++x::b):=λE h g W x y v hi hr r=>by
 generalize hc:a++x::b=cs at r
 cases r with
 |gK _ vs hl hrr =>
  subst hc
  have:=eF.hole hi hr a b vs (eF.mk hl hrr)
  exact .gK _ vs this.length this.get
theorem QS.bAY {P:Program} {f:FuncId} {args:List aE} {R:OV->Prop} {w:aE->aE} {d:aE} (a:yR P f args (QS R w)) (hd:∀ y,R y->y.pX=d) (hw:aVT w):fR P f args (w d) :=
 a.dI λr' l ⟨y,hy,e1,e2⟩ E W v h' ho R' rx=>by
  subst e1 e2
  rw[←hd y hy]
  exact hw E h' _ W y.val y.pX v (λb=>qK _ b) (λu ru=>fG.aCN R' y ho (λp hp=>dH.2 ⟨p.2,hp⟩) u ru) rx
def fT (sz len:Nat):Option Nat->aE
 |none=>.sl sz [] true
 |some n=>.os n sz 0 len
def cQ (h:aB) (o:bU):Option Nat->aB
 |none=>h
 |some n=>aT h n o
theorem bD (sz len:Nat):fT sz len none=.sl sz [] true:=rfl
theorem aQ (sz len n:Nat):fT sz len (some n)=.os n sz 0 len:=rfl
theorem aM (h:aB) (o:bU):cQ h o none=h:=rfl
theorem aJ (h:aB) (o:bU) (n:Nat):cQ h o (some n)=aT h n o:=rfl
theorem jL {h:aB} {n b:Nat} {o r:bU} (hn:h n=none):(aT h b r).le (aT (aT (aT h n o) n .gone) b r):=λm=>by
 by_cases e:m=b
 ·subst e;right;simp
 ·rw[aD _ _ _ _ e,aD _ _ _ _ e]
  by_cases e2:m=n
  ·subst e2;exact .inl hn
  ·right;rw[aD _ _ _ _ e2,aD _ _ _ _ e2]
def eU {α:Type} (h:aB) (l:List α):Option Nat->Prop
 |none=>l=[]
 |some n=>h n=none
theorem aZ {α:Type} (h:aB) (l:List α):eU h l none=(l=[]):=rfl
theorem aP {α:Type} (h:aB) (l:List α) (n:Nat):eU h l (some n)=(h n=none):=rfl
theorem grown {α:Type} {c:α->aE} {h:aB} {sz:Nat} {l:List α} {o:Option Nat} (hs:eU h l o) :
  ∃ y:OV,OS (oP c) sz l y/\y.val=fT sz l.length o/\fI h y.rows (cQ h (.row sz ((l.map λx=>[c x]).map (List.map .v))) o):=by
 cases o with
 |none=>exact⟨.nil sz,.inl ⟨rfl,hs⟩,rfl,by rw[OV.sV];exact fI.nil h⟩
 |some n =>
  refine⟨.sl n sz (l.map λx=>[.v (c x)]),OS.mk (wU l),by simp[OV.val,fT],?_⟩
  rw[OV.eK,gL,fP]
  exact fI.one hs
theorem dS {α:Type} (c:α->aE) (l:List α) (x:α):List.take l.length ((l.map λx=>[c x]).map (List.map Cell.v))++[[Cell.v (c x)]]=((l++[x]).map λx=>[c x]).map (List.map .v):=by
 rw[hJ eC]
 simp
theorem View.ovD {h:aB} {d:aE} (y:OV) (hd:y.pX=d) (ho:qO h y.rows):View h y.val d:=hd▸View.ov y ho
theorem aO1 {α:Type} {c:α->aE} {l:List α} {sz:Nat} {h:aB} (e:(l.map λx=>[c x])=[]):∃ r1 g l1,Shift .bS h r1 g/\QS (OS (oP c) sz l) (λx=>x) r1 l1/\fI h l1 g:=by
 obtain rfl:l=[]:=by simpa using e
 exact⟨_,_,_,Shift.of (Sub.nil sz true) (aB.le_refl _),⟨.nil sz,OS.nil,rfl,rfl⟩,by rw[OV.sV];exact fI.nil h⟩
theorem aO2 {α:Type} {c:α->aE} {l:List α} {sz:Nat} {h:aB} (e:(l.map λx=>[c x])=[]):∃ r1 g l1,Shift (.sl sz [] true) h r1 g/\QS (OS (oP c) sz l) (λx=>x) r1 l1/\fI h l1 g:=by
 obtain rfl:l=[]:=by simpa using e
 exact⟨_,_,_,bO _ _,⟨.nil sz,OS.nil,rfl,rfl⟩,by rw[OV.sV];exact fI.nil h⟩
theorem sK {α:Type} {c:α->aE} {l:List α} {sz n:Nat} {h:aB} (hn:h n=none) :
  ∃ r1 g l1,Shift (.os n sz 0 l.length) (aT h n (.row sz ((l.map λx=>[c x]).map (List.map .v)))) r1 g/\QS (OS (oP c) sz l) (λx=>x) r1 l1/\fI h l1 g:=by
 refine⟨_,_,_,bO _ _,⟨.sl n sz (l.map λx=>[.v (c x)]),OS.mk (wU l),by simp[OV.val],rfl⟩,?_⟩
 rw[OV.eK,gL,fP]
 exact fI.one hn
def j7 (sz len:Nat):Option Nat->aE
 |none=>.bS
 |some n=>.os n sz 0 len
theorem nE (sz len:Nat):j7 sz len none=.bS:=rfl
theorem cN (sz len n:Nat):j7 sz len (some n)=.os n sz 0 len:=rfl
def aAA (g:aB) (es:List (List OV)):Option Nat->Prop
 |none=>es=[]
 |some n=>g n=none
theorem mQ (g:aB) (es:List (List OV)):aAA g es none=(es=[]):=rfl
theorem kC (g:aB) (es:List (List OV)) (n:Nat):aAA g es (some n)=(g n=none):=rfl
def gov (sz:Nat) (es:List (List OV)):Option Nat->OV
 |none=>.nil sz
 |some n=>.sl n sz es
theorem aSZ (sz:Nat) (es:List (List OV)):gov sz es none=.nil sz:=rfl
theorem aKR (sz:Nat) (es:List (List OV)) (n:Nat):gov sz es (some n)=.sl n sz es:=rfl
theorem aO3 {α:Type} {R:α->List OV->Prop} {sz:Nat} {l:List α} {es:List (List OV)} {g:aB} {o:Option Nat} (h:OR R l es) (hs:aAA g es o):OS R sz l (gov sz es o):=by
 cases o with
 |none=>rw[mQ]at hs;subst hs;exact .inl ⟨rfl,by have:=h.length;simpa using this⟩
 |some n=>exact OS.mk h
theorem aYY {sz:Nat} {es:List (List OV)} {o:Option Nat}:Sub (j7 sz es.length o) (gov sz es o).val:=by
 cases o with
 |none=>exact Sub.nil _ _
 |some n=>exact Sub.refl _
theorem aID {sz:Nat} {es:List (List OV)} {h g:aB} {o:Option Nat} (x:fI h (OV.bF es) g) (hs:aAA g es o):fI h (gov sz es o).rows (cQ g (.row sz (OV.cells es)) o):=by
 cases o with
 |none=>rw[mQ]at hs;subst hs;rw[aSZ,OV.sV,aM];simpa[OV.bF]using x
 |some n=>rw[aKR,OV.eK,aJ];exact x.row hs
theorem eQ (es:List (List OV)):List.take es.length (OV.cells es)=OV.cells es:=hJ (by simp[OV.cells])
theorem jM (es:List (List OV)) (e:List OV):OV.cells (es++[e])=OV.cells es++[e.map λc=>Cell.v c.val]:=by rw[q0];rfl
theorem kZ (e:List OV):OV.cells [e]=[e.map λc=>Cell.v c.val]:=rfl
theorem oW (sz len:Nat) (o:Option Nat):(j7 sz len o).flat=true:=by cases o <;> rfl
theorem cP (es:List (List OV)):(OV.cells es).length=es.length:=by simp[OV.cells]
theorem fI.snoc {h g g1:aB} {es:List (List OV)} {e:List OV} (x:fI h (OV.bF es) g) (y:fI g (OV.b5 e) g1):fI h (OV.bF (es++[e])) g1:=by
 rw[aMM];exact x.append y
theorem kG {g:aB} {R:bU} {o:Option Nat} {m:Nat} (hg:g m=none) (hon:∀ n,o=some n->¬n=m):cQ g R o m=none:=by
 cases o with
 |none=>exact hg
 |some n =>
  have:=hon n rfl
  rw[aJ,aD _ _ _ _ λe=>this e.symm];exact hg
theorem k7:OV.cells []=[]:=rfl
theorem cE {n m:Nat} {g:aB} {x y:bU} (h:¬n=m):aT (aT g n x) m y=aT (aT g m y) n x:=by
 funext q;simp only[fN];split <;> split <;> simp_all
def aB.wk (g h:aB):Prop:=∀ E w,Rel E h w->Rel E g w/\∀ b,oU E h w b->oU E g w b
theorem aB.kH {g h:aB} (hl:g.le h):g.wk h:=λE w R=>⟨R.forget hl,λb i=>oU.le hl i⟩
theorem aB.wk.trans {a b c:aB} (x:a.wk b) (y:b.wk c):a.wk c:=λE w R =>
 ⟨(x E w (y E w R).1).1,λd i=>(x E w (y E w R).1).2 d ((y E w R).2 d i)⟩
theorem aB.wk.ev {g h:aB} (x:g.wk h) {E:Env} {w:World} (R:Rel E h w):Ev E h w E g w :=
 ⟨bY _,λb hb=>⟨rfl,(x E w R).2 b hb⟩,λ_ _=>rfl,λ_ hn=>⟨rfl,hn⟩,rfl,rfl⟩
theorem qI.wk {P:Program} {N:Nat} {c:Code} {Q:Exit->bK->aB->Prop} {τ:bK} {h g:aB} (hl:g.wk h) (x:qI P N c Q τ g):qI P N c Q τ h :=
 λds E w a R r=>Code.wp_mono (λe a' w' y=>s9.trans (hl.ev R) y) (x ds E w a (hl E w R).1 (r.ev (hl.ev R)))
theorem qI.a5S {P:Program} {N:Nat} {c:Code} {Q:Exit->bK->aB->Prop} {τ:bK} {h:aB} {α:Type} (S:α->bK) (H:α->aB) (side:α->Prop) (μ:α->Nat) (x₀:α)
  (h₀:cR (S x₀) τ/\(H x₀).wk h/\side x₀)
  (round:∀ x,side x->qI P N c (xI (λτ' h'=>∃ x',cR (S x') τ'/\(H x').wk h'/\side x'/\μ x'<μ x) Q) (S x) (H x)):qI P N (.loop c) Q τ h :=
 qI.loop (λx τ h=>cR (S x) τ/\(H x).wk h/\side x) μ x₀ h₀ λx τ h ⟨h1,h2,h3⟩ =>
  qI.wk h2 (qI.weaken h1 (aB.le_refl _) ((round x h3).mono λe τ h q=>by
   cases e <;> simp only[xI]at q ⊢ <;> first|exact q|(obtain⟨x',a,b,c,d⟩:=q;exact⟨x',⟨a,b,c⟩,d⟩)))
theorem a5S {P:Program} {N:Nat} {keep ib:List Nat} {mk:Marks} {c:Code} {Q:Exit->bK->aB->Prop} {τ:bK} {h:aB} {t:Tag (Code.loop c,Q)} {α:Type} (hmix:P.follows .mixedOrders=true) (hc:gR N mk c=true) (S:α->bK) (H:α->aB) (side:α->Prop) (μ:α->Nat) (x₀:α)
  (h₀:cR (S x₀) τ/\(H x₀).wk h/\side x₀)
  (round:∀ x,side x->nV P N keep ib mk c (λτ' h'=>∃ x',cR (S x') τ'/\(H x').wk h'/\side x'/\μ x'<μ x) Q (S x) (H x) ()):aF5 P N (.loop c) Q τ h t :=
 qI.a5S S H side μ x₀ h₀ λx hx=>aKI hmix c _ _ _ _ hc (round x hx)
theorem aGA {P:Program} {N:Nat} (keep ib:List Nat) (mk:Marks) {c:Code} {Q:Exit->bK->aB->Prop} {τ:bK} {h:aB} {t:Tag (Code.loop c,Q)} {α:Type} (S:α->bK) (H:α->aB) (side:α->Prop) (μ:α->Nat) (x₀:α)
  (h₀:cR (S x₀) τ/\(H x₀).wk h/\side x₀)
  (round:∀ x,side x->nV P N keep ib mk c (λτ' h'=>∃ x',cR (S x') τ'/\(H x').wk h'/\side x'/\μ x'<μ x) Q (S x) (H x) ()) (hmix:P.follows .mixedOrders=true:=by exact mix) (hc:gR N mk c=true:=by kernel_rfl):aF5 P N (.loop c) Q τ h t :=
 a5S (keep:=keep) (ib:=ib) (mk:=mk) hmix hc S H side μ x₀ h₀ round
def aA8 (x y:Cell):Prop:=∀ E h w c S,wP E h w x c S->wP E h w y c S
theorem aA8.refl (x:Cell):aA8 x x:=λ_ _ _ _ _ r=>r
theorem aA8.v {x y:aE} (s:Sub x y):aA8 (.v x) (.v y):=λE h w c S r=>by
 cases r with
 |v _ _ _ h1 hx=>exact .v _ _ _ h1 (s _ _ _ _ hx)
def nK:List (List Cell)->List (List Cell)->Prop
 | [],[]=>True
 |a::l,b::m=>(a.length=b.length/\∀ (j:Nat) (x:Cell),b[j]?=some x->∃ y,a[j]?=some y/\aA8 y x)/\nK l m
 | _,_=>False
theorem nK.last {a b:List Cell} (hl:a.length=b.length) (hc:∀ (j:Nat) (x:Cell),b[j]?=some x->∃ y,a[j]?=some y/\aA8 y x):∀ l,nK (l++[a]) (l++[b])
 | []=>⟨⟨hl,hc⟩,trivial⟩
 |c::l=>⟨⟨rfl,λj x h=>⟨x,h,.refl x⟩⟩,nK.last hl hc l⟩
theorem nK.length:∀ {l m},nK l m->l.length=m.length
 | [],[],_=>rfl
 |a::l,b::m,h=>by rw[aB9,aB9,nK.length h.2]
 | [],_::_,h=>h.elim
 | _::_,[],h=>h.elim
theorem nK.size {sz:Nat}:∀ {l m},nK l m->(∀ e∈l,e.length=sz)->∀ e∈m,e.length=sz
 | [],[],_,_=>by simp
 |a::l,b::m,h,hs=>λe he=>by
  rcases pP.1 he with rfl|he
  ·rw[←h.1.1];exact hs a aAL
  ·exact nK.size h.2 (λe he=>hs e (wN _ he)) e he
 | [],_::_,h,_=>h.elim
 | _::_,[],h,_=>h.elim
theorem nK.iU:∀ {l m} (i j:Nat) (x:Cell),nK l m->Hl.iU m i j=some x->∃ y,Hl.iU l i j=some y/\aA8 y x
 | [],[],i,j,x,_,h=>by simp[Hl.iU]at h
 |a::l,b::m,0,j,x,w,h=>by simp only[Hl.iU,aI9,a13]at h ⊢;exact w.1.2 j x h
 |a::l,b::m,i+1,j,x,w,h=>by simp only[Hl.iU,List.getElem?_cons_succ]at h ⊢;exact nK.iU i j x w.2 h
 | [],_::_,_,_,_,w,_=>w.elim
 | _::_,[],_,_,_,w,_=>w.elim
theorem aB.bHW {g h:aB} {m sz:Nat} {es es':List (List Cell)} (hg:∀ q,q≠m->g q=h q) (hm:h m=some (.row sz es)) (gm:g m=some (.row sz es')) (hw:nK es es'):g.wk h:=λE w R=>by
 have live:∀ q o,g q=some o->∃ o',h q=some o'/\(o.live->o'.live):=λq o ho=>by
  by_cases e:q=m
  ·subst e;exact⟨_,hm,λ_=>trivial⟩
  ·rw[hg q e]at ho;exact⟨o,ho,id⟩
 have live':∀ q o,h q=some o->∃ o',g q=some o'/\(o.live->o'.live):=λq o ho=>by
  by_cases e:q=m
  ·subst e;exact⟨_,gm,λ_=>trivial⟩
  ·rw[←hg q e]at ho;exact⟨o,ho,id⟩
 have pV:∀ b,oU E h w b->oU E g w b:=λb i=>⟨i.1,λq o ho hl=>by
  obtain⟨o',h1,h2⟩:=live q o ho;exact i.2 q o' h1 (h2 hl)⟩
 refine⟨⟨R.fin,λn hn=>R.dom n λe=>?_,λn o b hn hl=>?_,λn o n' o' b hn hl hn' hl'=>?_,λn o hn=>?_,R.laid.pV pV⟩,pV⟩
 ·by_cases e2:n=m
  ·subst e2;rw[hm]at e;cases e
  ·rw[hg n e2]at hn;exact hn e
 ·obtain⟨o2,h1,h2⟩:=live n o hn
  exact R.lt n o2 b h1 (h2 hl)
 ·obtain⟨o2,h1,h2⟩:=live n o hn
  obtain⟨o3,h3,h4⟩:=live n' o' hn'
  exact R.apart n o2 n' o3 b h1 (h2 hl) h3 (h4 hl')
 ·by_cases e:n=m
  ·subst e
   rw[gm]at hn
   obtain rfl:=gO hn
   rcases R.obj n _ hm with⟨b,o2,hl,ra⟩|⟨he,hl⟩
   ·refine .inl ⟨b,o2,hl,ra.hb,hw.size ra.size,?_⟩
    obtain⟨cs,t,cv,T,h1,h2,h3,h4,h5,h6⟩:=ra.mem
    refine⟨cs,t,cv,T,h1,by rw[←hw.length];exact h2,h3,h4,λi j x hx=>?_,λi j x hx=>?_⟩
    ·obtain⟨y,hy,_⟩:=hw.iU i j x hx;exact h5 i j y hy
    ·obtain⟨y,hy,hyx⟩:=hw.iU i j x hx;exact(hyx _ _ _ _ _ (h6 i j y hy)).pV pV
   ·subst he
    have:es'=[]:=by have:=hw.length;simp at this;exact aHR.1 this.symm
    exact .inr ⟨this,hl⟩
  ·rw[hg n e]at hn
   exact(R.obj n o hn).pV pV
theorem nK.sub {xs ys:List aE} (s:aCV xs ys) (A:List (List Cell)):nK (A++[xs.map .v]) (A++[ys.map .v]):=by
 refine nK.last (by simpa using s.1) (λj x hx=>?_) A
 rw[sO,r7]at hx
 obtain⟨y,hy,rfl⟩:=hx
 have hlt:j<ys.length:=(iY.1 hy).1
 have hxl:j<xs.length:=by rw[s.1];exact hlt
 have hx2:xs[j]?=some xs[j]:=fC hxl
 exact⟨.v xs[j],by rw[sO,hx2];rfl,aA8.v (s.2 j _ _ hx2 hy)⟩
theorem fI.field {h g g':aB} {A l l' B:List (Nat×bU)} (x:fI h (A++(l++B)) g) (c:Chg g g' l l'):fI h (A++(l'++B)) g':=x.chg (Chg.mid x.oC x.nodup c)
abbrev Q4:=Option (Nat×Nat×Nat×Nat)
def q1:Q4->Option Nat|none=>none|some x=>some x.1
def q2:Q4->Option Nat|none=>none|some x=>some x.2.1
def q3:Q4->Option Nat|none=>none|some x=>some x.2.2.1
def q4:Q4->Option Nat|none=>none|some x=>some x.2.2.2
theorem OR.bOJ {α:Type} {R:α->List OV->Prop} {x:α} {e:List OV} (h:R x e):∀ k,OR R (List.replicate k x) (List.replicate k e)
 |0=>trivial
 |k+1=>⟨h,OR.bOJ h k⟩
theorem nL {α:Type} (c:α->aE) (l:List α) (k:Nat) (x:α):((l.map λx=>[c x]).map (List.map Cell.v)).set k [Cell.v (c x)]=((l.set k x).map λx=>[c x]).map (List.map Cell.v):=by
 rw[zZ,zZ,aJF];rfl
theorem OR.aA9 {α:Type} {c:α->aE}:∀ {l:List α} {es:List (List OV)},OR (oP c) l es->es=l.map λx=>[.v (c x)]
 | [],[],_=>rfl
 |x::l,e::es,h=>by rw[qR,←OR.aA9 h.2,show e=[.v (c x)]from h.1]
 | [],_::_,h=>h.elim
 | _::_,[],h=>h.elim
theorem OS.aA9 {α:Type} {c:α->aE} {sz:Nat} {l:List α} {y:OV} (h:OS (oP c) sz l y):(y=.nil sz/\l=[])∨∃ n,y=.sl n sz (l.map λx=>[.v (c x)]):=by
 rcases h with h|⟨n,es,rfl,h⟩
 ·exact .inl h
 ·exact .inr ⟨n,by rw[h.aA9]⟩
theorem OV.jG {α:Type} (c:α->aE) (n sz:Nat) (l:List α):(OV.sl n sz (l.map λx=>[.v (c x)])).val=.os n sz 0 l.length:=by rw[OV.wV,gX]
theorem fI.aYZ {h g:aB} (e1:List OV) {e2:List OV} {n sz:Nat} {es:List (List OV)} (x:fI h (OV.b5 (e1++OV.sl n sz es::e2)) g):g n=some (.row sz (OV.cells es)) :=
 x.oC (n,_) (by rw[OV.qZ,OV.eP,OV.eK];simp)
theorem a5T {P:Program} {N:Nat} {keep ib:List Nat} {mk:Marks} {c:Code} {Q:Exit->bK->aB->Prop} {τ:bK} {h:aB} {t:Tag (Code.loop c,Q)} {α:Type} (hmix:P.follows .mixedOrders=true) (hc:gR N mk c=true) (S:α->bK) (side:α->Prop) (μ:α->Nat) (x₀:α)
  (h₀:cR (S x₀) τ/\side x₀)
  (round:∀ x,side x->nV P N keep ib mk c (λτ' h'=>∃ x',cR (S x') τ'/\h.le h'/\side x'/\μ x'<μ x) Q (S x) h ()):aF5 P N (.loop c) Q τ h t :=
 aSL hmix hc S (λ_=>h) side μ x₀ ⟨h₀.1,aB.le_refl _,h₀.2⟩ round
theorem rA {h:aB} {n:Nat} {o:bU} (hn:h n=some o):aT h n o=h:=by
 funext q;simp only[fN];split
 ·subst_vars;exact hn.symm
 ·rfl
theorem bAZ {P:Program} {N:Nat} {keep ib:List Nat} {mk:Marks} {c:Code} {Q:Exit->bK->aB->Prop} {τ:bK} {h:aB} {t:Tag (Code.loop c,Q)} {α:Type} (hmix:P.follows .mixedOrders=true) (hc:gR N mk c=true) (S:α->bK) (n:Nat) (R:α->bU) (side:α->Prop) (μ:α->Nat) (x₀:α)
  (h₀:cR (S x₀) τ/\h n=some (R x₀)/\side x₀)
  (round:∀ x,side x->nV P N keep ib mk c (λτ' h'=>∃ x',cR (S x') τ'/\(aT h n (R x')).le h'/\side x'/\μ x'<μ x) Q (S x) (aT h n (R x)) ()):aF5 P N (.loop c) Q τ h t :=
 aSL hmix hc S (λx=>aT h n (R x)) side μ x₀ ⟨h₀.1,by simp only[rA h₀.2.1];exact aB.le_refl _,h₀.2.2⟩ round
theorem aB.pY {g h:aB} {n:Nat} {o:bU} (hl:g.le h):(aT g n o).le (aT h n o):=λq=>by
 simp only[fN];split
 ·exact .inr rfl
 ·exact hl q
theorem View.box {T:List aE} {g:aB} {nb sz:Nat} {e:List OV} (hd:e.map OV.pX=T) (hn:g nb=none) (ho:qO g (OV.b5 e)):View (aT g nb (.row sz (OV.cells [e]))) (.op nb sz 0 0) (.ip sz [T] 0 0):=by
 have:=View.op (h:=aT g nb (.row sz (OV.cells [e]))) (n:=nb) (sz:=sz) (i:=0) (off:=0) [e] (by rw[aI]) eC (by
  have h1:OV.bF [e]=OV.b5 e:=by simp[OV.bF]
  rw[h1];exact ho.up hn)
 have h2:OV.lQ [e]=[T]:=by rw[OV.jS];simp[hd]
 rwa [h2]at this
theorem fI.le {h g:aB} {l:List (Nat×bU)} (w:fI h l g):h.le g:=λq=>by
 by_cases hq:q∈bC l
 ·exact .inl (w.fresh q hq)
 ·exact .inr (w.upto q hq).symm
theorem a2N {α:Type} {A B:List α} {x y:α}:(A++x::B).set A.length y=A++y::B:=by simp
theorem fI.bOK {h g g2:aB} (e1:List OV) {e2:List OV} {n sz:Nat} {es:List (List OV)} {k:Nat} {enew:List OV} (x:fI h (OV.b5 (e1++OV.sl n sz es::e2)) g) (y:fI g (OV.b5 enew) g2) (hk:k<es.length) :
  ∃ g3,g3.le (aT g2 n (.row sz (OV.cells (es.set k enew))))/\fI h (OV.b5 (e1++OV.sl n sz (es.set k enew)::e2)) g3:=by
 obtain⟨A,old,B,rfl,hA⟩:∃ A old B,es=A++old::B/\A.length=k:=⟨es.take k,es[k],es.drop (k+1),by simp,by simp;omega⟩
 subst hA
 rw[a2N]
 have z:=x.append y
 rw[OV.qZ,OV.eP,OV.eK,tU,nD]at z
 have z2:=z.perm (b:=OV.b5 old++(OV.b5 e1++((n,.row sz (OV.cells (A++old::B)))::(OV.bF A++(OV.b5 enew++OV.bF B))++OV.b5 e2))) (by
  classical
  rw[List.perm_iff_count]
  intro q
  simp only[List.count_append,aU9,List.count_cons]
  omega)
 have z3:=z2.drop
 refine⟨aT (rY g2 (bC (OV.b5 old))) n (.row sz (OV.cells (A++enew::B))),aB.pY (a5R _ _),?_⟩
 rw[OV.qZ,OV.eP,OV.eK,tU,nD]
 exact z3.field (l:=(n,.row sz (OV.cells (A++old::B)))::(OV.bF A++(OV.b5 enew++OV.bF B))) (Chg.set z3.oC.right.left (a2M z3.nodup))
theorem aS0 (es:List (List OV)) (k:Nat) (e:List OV) (c:List Cell) (hc:c=e.map λc=>Cell.v c.val):(OV.cells es).set k c=OV.cells (es.set k e):=by
 rw[hc,OV.cells,OV.cells,aJF]
theorem aGB {es:List (List OV)} {k:Nat} {e:List OV} (h:es[k]?=some e):(OV.cells es)[k]?=some (e.map λc=>Cell.v c.val):=by
 rw[OV.cells,sO,h];rfl
theorem OR.bA0 {α:Type} {R:α->List OV->Prop}:∀ {l:List α} {es:List (List OV)},OR R l es->∀ (k:Nat) x,l[k]?=some x->∃ e,es[k]?=some e/\R x e
 | [],[],_,k,x,h=>by simp at h
 |a::l,b::es,h,0,x,e=>by simp at e;subst e;exact⟨b,rfl,h.1⟩
 |a::l,b::es,h,k+1,x,e=>OR.bA0 h.2 k x (by simpa using e)
 | [],_::_,h,_,_,_=>h.elim
 | _::_,[],h,_,_,_=>h.elim
theorem OR.set {α:Type} {R:α->List OV->Prop}:∀ {l:List α} {es:List (List OV)},OR R l es->∀ (k:Nat) x e,R x e->OR R (l.set k x) (es.set k e)
 | [],[],_,k,x,e,_=>by simp[OR]
 |a::l,b::es,h,0,x,e,he=>⟨he,h.2⟩
 |a::l,b::es,h,k+1,x,e,he=>⟨h.1,OR.set h.2 k x e he⟩
 | [],_::_,h,_,_,_,_=>h.elim
 | _::_,[],h,_,_,_,_=>h.elim
theorem OS.some {α:Type} {R:α->List OV->Prop} {sz:Nat} {l:List α} {y:OV} (h:OS R sz l y) (hl:0<l.length):∃ n es,y=.sl n sz es/\OR R l es:=by
 rcases h with⟨_,h⟩|h
 ·rw[h]at hl;simp at hl
 ·exact h
def leX (S:List Nat) (g h:aB):Prop:=∀ q,q∉S->g q=none∨g q=h q
theorem lG {g h:aB} (x:leX [] g h):g.le h:=λq=>x q eC
theorem nZ (S:List Nat) (g:aB):leX S g g:=λq _=>.inr rfl
theorem qS {S:List Nat} {g h:aB} {n:Nat} {o:bU} (hn:h n=some o) (x:leX (n::S) g h):leX S (aT g n o) h:=λq hq=>by
 simp only[fN];split
 ·subst_vars;exact .inr hn.symm
 ·rename_i e;exact x q (by simp only[pP,not_or];exact⟨e,hq⟩)
theorem l6 {S:List Nat} {g h:aB} {n:Nat} {o:bU} (hn:n∈S∨g n=none) (x:leX S g h):leX S g (aT h n o):=λq hq=>by
 simp only[fN];split
 ·subst_vars
  rcases hn with hn|hn
  ·exact absurd hn hq
  ·exact .inl hn
 ·exact x q hq
theorem aB.le_none {g h:aB} (hl:g.le h) {n:Nat} (hn:h n=none):g n=none:=by
 rcases hl n with e|e
 ·exact e
 ·rw[e,hn]
theorem iD.wk {P:Program} {f:FuncId} {args:List aE} {g h:aB} {K:aE->aB->Prop} (hl:g.wk h) (a:iD P f args g K):iD P f args h K :=
 ⟨a.1,λE w vs R r=>by
  obtain⟨R',hi⟩:=hl E w R
  exact(a.2 E w vs R' (eF.pV hi r)).mono λe w' q=>by
   cases e with
   |returned v =>
    obtain⟨r,h',E',k,ev,R2,r2⟩:=q
    exact⟨r,h',E',k,(hl.ev R).trans ev,R2,r2⟩
   | _=>exact q.elim⟩
theorem aH.wk {P:Program} {f:FuncId} {args:List aE} {g h:aB} {K:aE->aB->Prop} {t:Tag K} (hl:g.wk h) (a:aH P f args g K t):aH P f args h K t:=iD.wk hl a
theorem iD.shift {P:Program} {f:FuncId} {args:List aE} {h:aB} {K K':aE->aB->Prop} (a:iD P f args h K') (hk:∀ r h',K' r h'->∃ g:aB,g.wk h'/\K r g):iD P f args h K :=
 ⟨a.1,λE w vs R r=>by
  exact(a.2 E w vs R r).mono λe w' q=>by
   cases e with
   |returned v =>
    obtain⟨r,h',E',k,ev,R2,r2⟩:=q
    obtain⟨g,hg,k'⟩:=hk r h' k
    obtain⟨R3,hi⟩:=hg E' w' R2
    exact⟨r,g,E',k',ev.trans (hg.ev R2),R3,fG.pV hi r2⟩
   | _=>exact q.elim⟩
def upL (c:List Int) (k:Nat):List Int:=c.take k++List.replicate (c.length-k) 0
theorem aER (c:List Int):upL c 0=List.replicate c.length 0:=by simp[upL]
theorem aIE (c:List Int):upL c c.length=c:=by simp[upL]
theorem aIF (c:List Int) {k:Nat} (hk:k<=c.length):(upL c k).length=c.length:=by simp[upL];omega
theorem aIG {c:List Int} {k:Nat} (hk:k<c.length):(upL c k)[k]?=some 0:=by
 have h1:(c.take k).length=k:=by rw[nU];omega
 rw[upL,yD aA,h1,sP,sQ,if_pos aA]
theorem aIH {c:List Int} {k:Nat} (hk:k<c.length):(upL c k).set k c[k]=upL c (k+1):=by
 have h1:(c.take k).length=k:=by rw[nU];omega
 rw[upL,upL,List.set_append_right _ _ aA,h1,sP,iW hk,show c.length-k=(c.length-(k+1))+1 by omega,aJC,aXB,aOJ,List.singleton_append]
theorem vS (n:Nat):(List.replicate n [aE.int .i64 0]).map (List.map Cell.v)=((List.replicate n (0:Int)).map λn=>[aE.int .i64 n]).map (List.map Cell.v):=by simp
theorem u3 {P:Program} {N:Nat} (keep ib:List Nat) (mk:Marks) {c:Code} {Q:Exit->bK->aB->Prop} {τ:bK} {h:aB} {t:Tag (Code.loop c,Q)} {α:Type} (S:α->bK) (side:α->Prop) (μ:α->Nat) (x₀:α) (h₀:cR (S x₀) τ/\side x₀) (round:∀ x,side x->nV P N keep ib mk c (λτ' h'=>∃ x',cR (S x') τ'/\h.le h'/\side x'/\μ x'<μ x) Q (S x) h ()) (hmix:P.follows .mixedOrders=true:=by exact mix) (hc:gR N mk c=true:=by kernel_rfl):aF5 P N (.loop c) Q τ h t :=
 a5T (keep:=keep) (ib:=ib) (mk:=mk) hmix hc S side μ x₀ h₀ round
theorem aDA {P:Program} {N:Nat} (keep ib:List Nat) (mk:Marks) {c:Code} {Q:Exit->bK->aB->Prop} {τ:bK} {h:aB} {t:Tag (Code.loop c,Q)} {α:Type} (S:α->bK) (n:Nat) (R:α->bU) (side:α->Prop) (μ:α->Nat) (x₀:α) (h₀:cR (S x₀) τ/\h n=some (R x₀)/\side x₀) (round:∀ x,side x->nV P N keep ib mk c (λτ' h'=>∃ x',cR (S x') τ'/\(aT h n (R x')).le h'/\side x'/\μ x'<μ x) Q (S x) (aT h n (R x)) ()) (hmix:P.follows .mixedOrders=true:=by exact mix) (hc:gR N mk c=true:=by kernel_rfl):aF5 P N (.loop c) Q τ h t :=
 bAZ (keep:=keep) (ib:=ib) (mk:=mk) hmix hc S n R side μ x₀ h₀ round
theorem bVR {P:Program} {f:FuncId} {fn:Func} {c:Code} (N:Nat) (keep ib:List Nat) (mk:Marks) {args:List aE} {h:aB} {K:aE->aB->Prop} (hmix:P.follows .mixedOrders=true) (hf:P.funcs[f]?=some fn) (hb:fn.body=some c)
  (hck:(jF P f && decide (fn.ntmps=N) && gR N mk c)=true) (hl:args.length<=N)
  (hw:nV P N keep ib mk c (λτ h'=>l9 P fn.results (λr h'=>∃ r1 g,Shift r h' r1 g/\K r1 g) () .normal τ h') (l9 P fn.results (λr h'=>∃ r1 g,Shift r h' r1 g/\K r1 g) ()) (pQ 0 args) h ()):iD P f args h K :=
 uZ (fn:=fn) (c:=c) (N:=N) (aKF N keep ib mk hmix hf hb hck hl (K':=λr h'=>∃ r1 g,Shift r h' r1 g/\K r1 g) (K:=λr h'=>∃ r1 g,Shift r h' r1 g/\K r1 g) hw λ_ h' hx=>⟨h',aB.le_refl _,hx⟩) λr h' hx=>hx
theorem eF.s7 {E:Env} {h:aB} {w:World} (R:Rel E h w) {n sz:Nat} {es:List (List Cell)} (hn:h n=some (.row sz es)):∀ {xs:List aE} {vs:List Value},eF E h w xs vs->kK n sz es.length xs=true->eF E (aT h n .gone) w (mZ n (fD es) xs) vs
 | [],[],_,_=>trivial
 |x::xs,v::vs,r,hb=>by
  simp only[kK,mK]at hb
  exact⟨r.1.s7 R hn hb.1,eF.s7 R hn r.2 hb.2⟩
 | [],_::_,r,_=>r.elim
 | _::_,[],r,_=>r.elim
theorem aH.a5U {P:Program} {f:FuncId} {args:List aE} {h:aB} {K:aE->aB->Prop} {t:Tag K} (n:Nat) {sz:Nat} {es:List (List Cell)} (hn:h n=some (.row sz es)) (hb:kK n sz es.length args=true)
  (a:iD P f (mZ n (fD es) args) (aT h n .gone) K):aH P f args h K t :=
 ⟨a.1,λE w vs R r=>(a.2 E w vs (R.gone hn) (r.s7 R hn hb)).mono λe w' q=>by
  cases e with
  |returned v =>
   obtain⟨r,h',E',k,ev,R2,r2⟩:=q
   exact⟨r,h',E',k,(Ev.gone n).trans ev,R2,r2⟩
  | _=>exact q.elim⟩
theorem jU {P:Program} {f:FuncId} {fn:Func} {c:Code} (N:Nat) (keep ib:List Nat) (mk:Marks) {args:List aE} {h:aB} {K:aE->aB->Prop} (hf:P.funcs[f]?=some fn) (hw:nV P N keep ib mk c (λτ h'=>l9 P fn.results (λr h'=>∃ r1 g,Shift r h' r1 g/\K r1 g) () .normal τ h') (l9 P fn.results (λr h'=>∃ r1 g,Shift r h' r1 g/\K r1 g) ()) (pQ 0 args) h ()) (hmix:P.follows .mixedOrders=true:=by exact mix) (hb:fn.body=some c:=by rfl) (hck:(jF P f && decide (fn.ntmps=N) && gR N mk c)=true:=by kernel_rfl) (hl:args.length<=N:=by simp):iD P f args h K :=
 bVR N keep ib mk hmix hf hb hck hl hw
def Cell.aAC (n:Nat) (es:List (List aE)):Cell->Cell
 | .v x=>.v (x.fS n es)
 | .own sz ys=>.own sz ys
theorem aNL (m:Nat) (vs:List (List aE)) (es:List (List Cell)) (i j:Nat):iU (es.map (List.map (Cell.aAC m vs))) i j=(iU es i j).map (Cell.aAC m vs):=nQ _ _ _ _
theorem aB.aZV {h:aB} {m b sz sz2:Nat} {es es2:List (List Cell)} (hm:h m=some (.row sz es)) (hb:h b=some (.row sz2 es2)) (hne:¬b=m) (hok:∀ i j x,iU es2 i j=some (.v x)->jK m sz es.length x=true) :
  (aT (aT h m .gone) b (.row sz2 (es2.map (List.map (Cell.aAC m (fD es)))))).wk h:=λE w R=>by
 have R1:=R.gone hm
 have qP:(aT h m .gone) b=some (.row sz2 es2):=by rw[aD _ _ _ _ hne];exact hb
 have h0:∀ b,oU E h w b->oU E (aT h m .gone) w b:=λb=>aAO m b

 have hrow:=R.obj b _ hb
 have h1b:aJO E h w ((E.loc b).getD (0,0)).1 ((E.loc b).getD (0,0)).2 sz2 es2 (E.fp b)∨es2=[]:=by
  rcases hrow with⟨k,o2,hlc,ra⟩|⟨he,_⟩
  ·left;rw[hlc];exact ra
  ·exact .inr he
 have R2:Rel E (aT (aT h m .gone) b (.row sz2 (es2.map (List.map (Cell.aAC m (fD es)))))) w/\∀ q,oU E (aT h m .gone) w q->oU E (aT (aT h m .gone) b (.row sz2 (es2.map (List.map (Cell.aAC m (fD es)))))) w q:=by
  have live:∀ q o,aT (aT h m .gone) b (.row sz2 (es2.map (List.map (Cell.aAC m (fD es))))) q=some o->∃ o',(aT h m .gone) q=some o'/\(o.live->o'.live):=λq o ho=>by
   by_cases e:q=b
   ·subst e;exact⟨_,qP,λ_=>trivial⟩
   ·rw[aD _ _ _ _ e]at ho;exact⟨o,ho,id⟩
  have pV:∀ q,oU E (aT h m .gone) w q->oU E (aT (aT h m .gone) b (.row sz2 (es2.map (List.map (Cell.aAC m (fD es)))))) w q:=λq i=>⟨i.1,λn o ho hl=>by
   obtain⟨o',h1,h2⟩:=live n o ho;exact i.2 n o' h1 (h2 hl)⟩
  refine⟨⟨R1.fin,λn hn=>R1.dom n λe=>?_,λn o c hn hl=>?_,λn o n' o' c hn hl hn' hl'=>?_,λn o hn=>?_,R1.laid.pV pV⟩,pV⟩
  ·by_cases e2:n=b
   ·subst e2;rw[qP]at e;cases e
   ·rw[aD _ _ _ _ e2]at hn;exact hn e
  ·obtain⟨o2,h1,h2⟩:=live n o hn
   exact R1.lt n o2 c h1 (h2 hl)
  ·obtain⟨o2,h1,h2⟩:=live n o hn
   obtain⟨o3,h3,h4⟩:=live n' o' hn'
   exact R1.apart n o2 n' o3 c h1 (h2 hl) h3 (h4 hl')
  ·by_cases e:n=b
   ·subst e
    rw[aI]at hn
    obtain rfl:=gO hn
    rcases hrow with⟨k,o2,hlc,ra⟩|⟨he,hlc⟩
    ·refine .inl ⟨k,o2,hlc,ra.hb,λe he=>?_,?_⟩
     ·obtain⟨e',he',rfl⟩:=lZ.1 he
      rw[gX];exact ra.size e' he'
     obtain⟨cs,t,cv,T,h1,h2,h3,h4,h5,h6⟩:=ra.mem
     refine⟨cs,t,cv,T,h1,by rw[gX];exact h2,h3,h4,λi j x hx=>?_,λi j x hx=>?_⟩
     ·rw[aNL]at hx
      obtain⟨y,hy,rfl⟩:=r7.1 hx
      exact h5 i j y hy
     ·rw[aNL]at hx
      obtain⟨y,hy,rfl⟩:=r7.1 hx
      have hr:=h6 i j y hy
      cases y with
      |v y =>
       cases hr with
       |v _ _ _ k1 k2 =>
        exact .v _ _ _ k1 ((k2.s7 R hm (hok i j y hy)).pV pV)
      |own s ys=>exact(hr.pV h0).pV pV
    ·subst he
     exact .inr ⟨rfl,hlc⟩
   ·rw[aD _ _ _ _ e]at hn
    exact(R1.obj n o hn).pV pV
 exact⟨R2.1,λq i=>R2.2 q (h0 q i)⟩
def oL {α:Type} (c:α->aE) (l:List α) (e:List OV):Prop:=∃ y,e=[y]/\OS (oP c) 1 l y
theorem bIM {α:Type} {c:α->aE} {l:List α} {e:List OV} (h:oL c l e):e.map OV.pX=[.sl 1 (l.map λx=>[c x]) false]:=by
 obtain⟨y,rfl,hy⟩:=h
 rw[qR,w9,OS.pX (c:=λx=>[c x]) (λ_ _ q=>aC6 q) hy]
theorem fI.bFO {α:Type} {c:α->aE} {h g:aB} {b k n:Nat} {es:List (List OV)} {l:List α} (X:fI h (OV.b5 [OV.sl b 1 es]) g) (hk:es[k]?=some [OV.sl n 1 (l.map λx=>[.v (c x)])]) :
  g n=some (.row 1 ((l.map λx=>[c x]).map (List.map .v)))/\¬n=b:=by
 have hmem:(n,bU.row 1 ((l.map λx=>[c x]).map (List.map .v)))∈OV.bF es:=by
  refine OV.aCM (s5 hk) ?_
  rw[OV.eP,OV.iQ,dR,OV.eK,fP]
  exact aAL
 refine⟨X.oC (n,_) ?_,λe=>?_⟩
 ·rw[OV.eP,OV.iQ,dR,OV.eK]
  exact wN _ hmem
 ·have nd:=X.nodup
  rw[OV.eP,OV.iQ,dR,OV.eK]at nd
  simp only[bC,qR,aD0]at nd
  refine nd.1 ?_
  rw[←e]
  exact lZ.2 ⟨_,hmem,rfl⟩
theorem fI.bFP {α:Type} {c:α->aE} {h g F:aB} {b k m:Nat} {es:List (List OV)} {y:OV} {l:List α} {x:α} (X:fI h (OV.b5 [OV.sl b 1 es]) g) (hk:es[k]?=some [y]) (hy:OS (oP c) 1 l y) (hm:g m=none)
  (hF:∀ q,(∀ n sz es,y=.sl n sz es->¬q=n)->F q=aT (aT g m (.row 1 (((l++[x]).map λx=>[c x]).map (List.map .v)))) b (.row 1 ((OV.cells es).set k [.v (.os m 1 0 (l.length+1))])) q) :
  ∃ g3:aB,g3.le F/\fI h (OV.b5 [OV.sl b 1 (es.set k [OV.sl m 1 ((l++[x]).map λx=>[.v (c x)])])]) g3:=by
 have hlt:k<es.length:=(iY.1 hk).1
 have hY:fI g (OV.b5 [OV.sl m 1 ((l++[x]).map λx=>[OV.v (c x)])]) (aT g m (.row 1 (((l++[x]).map λx=>[c x]).map (List.map .v)))):=by
  rw[OV.eP,OV.iQ,dR,OV.eK,gL,fP]
  exact fI.one hm
 obtain⟨g3,h1,h2⟩:=fI.bOK (k:=k) [] X hY hlt
 refine⟨g3,λq=>?_,h2⟩
 have hcell:OV.cells (es.set k [OV.sl m 1 ((l++[x]).map λx=>[OV.v (c x)])])=(OV.cells es).set k [.v (.os m 1 0 (l.length+1))]:=by
  rw[←aS0 es k _ _ rfl]
  simp[OV.val]
 rw[hcell]at h1
 by_cases hq:∀ n sz es,y=.sl n sz es->¬q=n
 ·rw[hF q hq];exact h1 q
 ·left
  have hq':∃ n sz es',y=.sl n sz es'/\q=n:=by
   by_cases e:∃ n sz es',y=.sl n sz es'/\q=n
   ·exact e
   ·exact absurd (λn sz es' hy' hqn=>e ⟨n,sz,es',hy',hqn⟩) hq
  obtain⟨n,sz,es',rfl,rfl⟩:=hq'

  obtain⟨A,B,rfl,hA⟩:∃ A B,es=A++[OV.sl q sz es']::B/\A.length=k:=by
   refine⟨es.take k,es.drop (k+1),?_,by rw[nU];omega⟩
   have:=iY.1 hk
   rw[←this.2];simp
  subst hA
  have e1:(A++[OV.sl q sz es']::B).set A.length [OV.sl m 1 ((l++[x]).map λx=>[OV.v (c x)])]=A++[OV.sl m 1 ((l++[x]).map λx=>[OV.v (c x)])]::B:=by simp
  simp only[dZ]at h2
  rw[e1]at h2
  have nd:=X.nodup
  have hqn:q∈bC (OV.b5 [OV.sl b 1 (A++[OV.sl q sz es']::B)]):=by
   rw[OV.eP,OV.eK,tU,nD,OV.eP,OV.eK]
   simp[bC]
  have hgq:∃ o,g q=some o:=by
   obtain⟨o,ho⟩:=dH.1 hqn
   exact⟨o,X.oC (q,o) ho⟩
  have hqm:¬q=m:=λe=>by
   obtain⟨o,ho⟩:=hgq
   rw[e,hm]at ho;cases ho
  have hnot:q∉bC (OV.b5 [OV.sl b 1 (A++[OV.sl m 1 ((l++[x]).map λx=>[OV.v (c x)])]::B)]):=by
   rw[OV.eP,OV.iQ,dR,OV.eK,tU,nD,OV.eP,OV.iQ,dR,OV.eK]at nd ⊢
   rw[gL]
   simp only[bC,qR,mY,aD0,nY,pP,not_or,xB,w9,aXG,or_false]at nd ⊢
   obtain⟨⟨n1,n2⟩,n3,n4,n5⟩:=nd
   refine⟨λe=>n2.1.1 e.symm,λhqa=>n5 q hqa q (.inl (.inl rfl)) rfl,hqm,λhqb=>?_⟩
   exact n4.2.2 q (.inl rfl) q hqb rfl
  rw[h2.upto q hnot]
  exact X.fresh q hqn
end Go.Hl

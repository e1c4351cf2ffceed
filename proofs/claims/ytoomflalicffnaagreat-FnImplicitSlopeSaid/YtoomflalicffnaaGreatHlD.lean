/-
  Contracts of functions and laws of the layer over the walk.
-/
import Derived.Test.YtoomflalicffnaaGreatHlC
import Derived.KernelRfl
namespace Go.Hl
set_option linter.unusedVariables false
set_option linter.unusedSimpArgs false
inductive OV where
 |v (x:aE)
 |nil (sz:Nat)
 |sl (n sz:Nat) (es:List (List OV))
def OV.val:OV->aE
 | .v x=>x
 | .nil sz=>.sl sz [] true
 | .sl n sz es=>.os n sz 0 es.length
mutual
def OV.qG:OV->aE
 | .v x=>x
 | .nil sz=>.sl sz [] false
 | .sl n sz es=>.sl sz (OV.lF es) false
def OV.lF:List (List OV)->List (List aE)
 | []=>[]
 |e::es=>OV.aNQ e::OV.lF es
def OV.aNQ:List OV->List aE
 | []=>[]
 |x::e=>x.qG::OV.aNQ e
end
theorem OV.xY:∀ (e:List OV),OV.aNQ e=e.map OV.qG
 | []=>rfl
 |x::e=>by rw[OV.aNQ,OV.xY e];rfl
theorem OV.kJ:∀ (es:List (List OV)),OV.lF es=es.map (List.map OV.qG)
 | []=>rfl
 |e::es=>by rw[OV.lF,OV.kJ es,OV.xY];rfl
def OV.cells (es:List (List OV)):List (List Cell):=es.map (List.map λc=>Cell.v c.val)
mutual
def OV.rows:OV->List (Nat×bV)
 | .v _=>[]
 | .nil _=>[]
 | .sl n sz es=>(n,.row sz (OV.cells es))::OV.bG es
def OV.bG:List (List OV)->List (Nat×bV)
 | []=>[]
 |e::es=>OV.bY e++OV.bG es
def OV.bY:List OV->List (Nat×bV)
 | []=>[]
 |x::e=>x.rows++OV.bY e
end
theorem OV.aBJ:∀ {es:List (List OV)} {e:List OV} {p:Nat×bV},e∈es->p∈OV.bY e->p∈OV.bG es
 |y::es,e,p,he,hp=>by
  rw[OV.bG]
  rcases mW.1 he with rfl|he
  ·exact zC _ hp
  ·exact wI _ (OV.aBJ he hp)
def qH (h:aB) (l:List (Nat×bV)):Prop:=∀ p∈l,h p.1=some p.2
def iL (h:aB) (S:List Nat):aB:=λm=>if m∈S then(h m).map λ_=>.gone else h m
theorem tO {h:aB} {S:List Nat} {m:Nat} {o:bV} (hm:m∈S) (ho:iL h S m=some o):o=.gone:=by
 simp only[iL,if_pos hm,q0]at ho
 obtain⟨_,_,rfl⟩:=ho;rfl
theorem kZ {h:aB} {S:List Nat} {m:Nat} (hm:m∉S):iL h S m=h m:=by simp only[iL,if_neg hm]
theorem pV {E:Env} {h:aB} {w:World} (S:List Nat) (b:Nat) (i:nX E h w b):nX E (iL h S) w b :=
 ⟨i.1,λm o hm ho=>by
  by_cases e:m∈S
  ·rw[tO e hm]at ho;exact ho.elim
  ·rw[kZ e]at hm;exact i.2 m o hm ho⟩
theorem aNR {E:Env} {h:aB} {w:World} (R:Rel E h w) {S:List Nat} {n:Nat} (hS:n∈S) {x:bV} (hn:h n=some x) (hx:x.live) (b:Nat) (hb:E.fp n b):nX E (iL h S) w b :=
 ⟨R.lt n x b hn hx hb,λm o hm ho hf=>by
  by_cases e:m∈S
  ·rw[tO e hm]at ho;exact ho.elim
  ·rw[kZ e]at hm
   have:=R.apart m o n x b hm ho hn hx hf hb
   exact e (this▸hS)⟩
theorem Rel.iL {E:Env} {h:aB} {w:World} (R:Rel E h w) (S:List Nat):Rel E (iL h S) w:=by
 refine⟨R.fin,λm hm=>?_,?_,?_,?_,R.laid.pD (pV S)⟩
 ·by_cases e:m∈S
  ·refine R.dom m λq=>hm ?_
   simp only[Hl.iL,if_pos e,q,a2D]
  ·rw[kZ e]at hm;exact R.dom m hm
 ·intro m o b hm ho
  by_cases e:m∈S
  ·rw[tO e hm]at ho;exact ho.elim
  ·rw[kZ e]at hm;exact R.lt m o b hm ho
 ·intro m o m' o' b hm ho hm' ho'
  by_cases e:m∈S
  ·rw[tO e hm]at ho;exact ho.elim
  ·by_cases e':m'∈S
   ·rw[tO e' hm']at ho';exact ho'.elim
   ·rw[kZ e]at hm;rw[kZ e']at hm';exact R.apart m o m' o' b hm ho hm' ho'
 ·intro m o hm
  by_cases e:m∈S
  ·rw[tO e hm];trivial
  ·rw[kZ e]at hm;exact(R.obj m o hm).pD λb=>pV S b
theorem Ev.iL {E:Env} {h:aB} {w:World} (S:List Nat):Ev E h w E (iL h S) w :=
 ⟨bX _,λb hb=>⟨rfl,pV S b hb⟩,λ_ _=>rfl,λ_ hn=>⟨rfl,hn⟩,rfl,rfl⟩
mutual
theorem fC.aBK {E:Env} {h:aB} {w:World} (R:Rel E h w) {S:List Nat}:∀ (x:OV),qH h x.rows->(∀ p∈x.rows,p.1∈S)->∀ v,fC E h w x.val v->fC E (Hl.iL h S) w x.qG v
 | .v x,_,_,v,r=>fC.pD (λb=>pV S b) r
 | .nil sz,_,_,v,r=>Sub.loose sz [] true _ _ _ _ (fC.pD (λb=>pV S b) (show fC E h w (.sl sz [] true) v from r))
 | .sl n sz es,ho,hS,v,r=>by
  have hn:h n=some (.row sz (OV.cells es)):=ho (n,_) (by rw[OV.rows];exact zD)
  have hnS:n∈S:=hS (n,_) (by rw[OV.rows];exact zD)
  simp only[OV.val]at r
  simp only[OV.qG]
  have hcells:∀ i j y,iJ (OV.cells es) i j=some y->∃ c,iJ es i j=some c/\y=.v c.val:=by
   intro i j y hy
   rw[OV.cells,nF]at hy
   obtain⟨c,hc,rfl⟩:=q0.1 hy
   exact⟨c,hc,rfl⟩
  have hdat:∀ i j y,iJ (OV.lF es) i j=some y->∃ c,iJ es i j=some c/\y=c.qG:=by
   intro i j y hy
   rw[OV.kJ,nF]at hy
   obtain⟨c,hc,rfl⟩:=q0.1 hy
   exact⟨c,hc,rfl⟩
  have hlen:(OV.lF es).length=es.length:=by rw[OV.kJ,gT]
  have key:∀ L,L=es.length->fC E h w (.os n sz 0 L) v->fC E (Hl.iL h S) w (.sl sz (OV.lF es) false) v:=by
   intro L hL r
   cases r with
   |os0 _ _ hd hl =>
    have:es=[]:=a2K hL.symm
    subst this
    exact .sl0 sz false none 0 (λ_=>rfl) (by simp[maxLen]) trivial
   |os _ _ _ _ b o cap t m hd hl hlc hmax hsh hm =>
    obtain⟨b',o',hl',hbS,hs,cs,ct,cv,T,hh,hm',hT,hD,hc,hrr⟩:=zJ R hn (.inr ⟨_,hl⟩)
    rw[hl]at hl'
    obtain⟨rfl,rfl⟩:=aNA (gH hl')
    have himm:∀ c,E.fp n c->nX E (Hl.iL h S) w c:=λc hc=>aNR R hnS hn trivial c hc
    have hcs:∀ i j y,iJ (OV.lF es) i j=some y->∃ c,iJ es i j=some c/\y=c.qG/\cs[o+i*sz+j]?=some (cv i j)/\(cv i j).oneCell'=true/\fC E h w c.val (cv i j):=by
     intro i j y hy
     obtain⟨c,hc1,rfl⟩:=hdat i j y hy
     have hcell:iJ (OV.cells es) i j=some (.v c.val):=by rw[OV.cells,nF,hc1];rfl
     have h2:=hrr i j _ hcell
     cases h2 with
     |v x c' S' h1 hx=>exact⟨c,hc1,rfl,hc i j _ hcell,h1,hx⟩
    have:=fC.sl (E:=E) (h:=Hl.iL h S) (w:=w) sz (OV.lF es) false b (o+0*sz) cap cv (himm b hbS) (by rw[hlen,←hL];exact hlc) hmax (λe=>by simp at e)
     (λe he=>by
      rw[OV.kJ,lA]at he
      obtain⟨e',he',rfl⟩:=he
      have:=hs (e'.map λc=>Cell.v c.val) (lA.2 ⟨e',he',rfl⟩)
      simpa using this)
     (λi j y hy=>by
      obtain⟨c,_,_,h1,_,_⟩:=hcs i j y hy
      simp only[World.cell?,hh]
      rw[←h1]
      simp)
     (λi j y hy=>by obtain⟨c,_,_,_,h1,_⟩:=hcs i j y hy;exact h1)
     (λi j y hy=>by
      obtain⟨c,hc1,rfl,_,_,h1⟩:=hcs i j y hy
      obtain⟨e,he,hj⟩:=kP hc1
      exact aE4 R es (λp hp=>ho p (by rw[OV.rows];exact v9 _ hp)) (λp hp=>hS p (by rw[OV.rows];exact v9 _ hp)) e (rS he) c (rS hj) _ h1)
    rw[hlen,←hL]at this
    exact this
  exact key _ rfl r
theorem aE4 {E:Env} {h:aB} {w:World} (R:Rel E h w) {S:List Nat}:∀ (es:List (List OV)),qH h (OV.bG es)->(∀ p∈OV.bG es,p.1∈S)->∀ e∈es,∀ c∈e,∀ v,fC E h w c.val v->fC E (Hl.iL h S) w c.qG v
 | [],_,_,e,he,_,_,_,_=>by simp at he
 |a::es,ho,hS,e,he,c,hc,v,r=>by
  rcases mW.1 he with h1|h1
  ·rw[h1]at hc
   exact aRI R a (λp hp=>ho p (by rw[OV.bG];exact zC _ hp)) (λp hp=>hS p (by rw[OV.bG];exact zC _ hp)) c hc v r
  ·exact aE4 R es (λp hp=>ho p (by rw[OV.bG];exact wI _ hp)) (λp hp=>hS p (by rw[OV.bG];exact wI _ hp)) e h1 c hc v r
theorem aRI {E:Env} {h:aB} {w:World} (R:Rel E h w) {S:List Nat}:∀ (e:List OV),qH h (OV.bY e)->(∀ p∈OV.bY e,p.1∈S)->∀ c∈e,∀ v,fC E h w c.val v->fC E (Hl.iL h S) w c.qG v
 | [],_,_,c,hc,_,_=>by simp at hc
 |a::e,ho,hS,c,hc,v,r=>by
  rcases mW.1 hc with h1|h1
  ·rw[h1]at r ⊢
   exact fC.aBK R a (λp hp=>ho p aWG) (λp hp=>hS p aWG) v r
  ·exact aRI R e (λp hp=>ho p aWF) (λp hp=>hS p aWF) c h1 v r
end
mutual
def aE.gE:aE->Bool
 | .any | .bool _ | .int _ _ | .str _ | .jU | .bS | .sQ | .lU | .oX=>true
 | .os _ _ _ _ | .op _ _ _ _ | .mp _=>true
 | .sl _ es _=>es.isEmpty
 | .agg cs=>aE.aB4 cs
 | .gU cs=>aE.aB4 cs
 | _=>false
def aE.aB4:List aE->Bool
 | []=>true
 |x::xs=>x.gE && aE.aB4 xs
end
theorem aE.aB5:∀ {l:List aE},aE.aB4 l=true->∀ (i:Nat) x,l[i]?=some x->x.gE=true
 |y::l,h,0,x,hx=>by simp only[aE.aB4,l7]at h;simp at hx;subst hx;exact h.1
 |y::l,h,i+1,x,hx=>by simp only[aE.aB4,l7]at h;exact aE.aB5 h.2 i x aQF
 | [],_,i,x,hx=>by simp at hx
def Cell.gE:Cell->Bool
 | .v x=>x.gE
 | .own _ _=>false
def bV.gE:bV->Bool
 | .row _ es=>es.all λe=>e.all Cell.gE
 | .map _ _ _=>false
 | .raw _ _=>true
 | .abs _=>true
 | .gone=>true
theorem fC.gE {E E':Env} {h h':aB} {w w':World} (hl:∀ n,E.used n->E'.loc n=E.loc n/\E'.used n) (hs:∀ b,b<w.heap.size->w'.shape? b=w.shape? b) {x:aE} {v:Value} (r:fC E h w x v) (hx:x.gE=true):fC E' h' w' x v:=by
 induction r with
 |any v=>exact .any v
 |bool b=>exact .bool b
 |int k n=>exact .int k n
 |str s hl=>exact .str s hl
 |jU=>exact .jU
 |bS=>exact .bS
 |sQ=>exact .sQ
 |lU=>exact .lU
 |oX=>exact .oX
 |sl0 sz t a cap ht hmax ha=>exact .sl0 sz t a cap ht hmax ha
 |sl sz es t b o cap cv hi hcap hmax ht hs' hc h1 hr ih =>
  simp only[aE.gE,List.isEmpty_iff]at hx
  subst hx
  exact .sl0 sz t _ cap (λe=>by have:=ht e;simpa using this) hmax trivial
 |ip sz es i off b o cv hi hs' hc h1 hr ih=>simp[aE.gE]at hx
 |os n sz i len b o cap t m hd hl' hlc hmax hsh hm=>exact .os n sz i len b o cap t m (hl n hd).2 ((hl n hd).1.trans hl') hlc hmax ((hs b (aH7 hsh)).trans hsh) hm
 |os0 n sz hd hl'=>exact .os0 n sz (hl n hd).2 ((hl n hd).1.trans hl')
 |op n sz i off b o hd hl'=>exact .op n sz i off b o (hl n hd).2 ((hl n hd).1.trans hl')
 |agg cs vs hle hr ih=>exact .agg cs vs hle λi x v a b=>ih i x v a b (aE.aB5 (by simpa only[aE.gE]using hx) i x a)
 |gU cs vs hle hr ih=>exact .gU cs vs hle λi x v a b=>ih i x v a b (aE.aB5 (by simpa only[aE.gE]using hx) i x a)
 |fn f cs ds vs us hle hr hle' hr' ih ih'=>simp[aE.gE]at hx
 |iface t x v hr ih=>simp[aE.gE]at hx
 |mp n b o hd hl'=>exact .mp n b o (hl n hd).2 ((hl n hd).1.trans hl')
theorem aC0.gE {E E':Env} {h h':aB} {w w':World} (hl:∀ n,E.used n->E'.loc n=E.loc n/\E'.used n) (hs:∀ b,b<w.heap.size->w'.shape? b=w.shape? b) {n:Nat} {o:bV} (hn:E'.loc n=E.loc n) (hfp:E'.fp n=E.fp n)
  (hm:∀ b,E.fp n b->w'.heap[b]?=w.heap[b]?) (ho:o.gE=true) (r:aC0 E h w n o):aC0 E' h' w' n o:=by
 cases o with
 |gone=>trivial
 |raw t cs=>obtain⟨b,hb,hf,hr⟩:=r;exact⟨b,hn.trans hb,by rw[hfp];exact hf,(hm b hf).trans hr⟩
 |abs Q=>obtain⟨b,hb,hf,w0,hq,ha⟩:=r;exact⟨b,hn.trans hb,by rw[hfp];exact hf,w0,by rw[hfp];exact hq,λc hc=>by rw[hfp]at hc;exact(hm c hc).trans (ha c hc)⟩
 |map _ _ _=>simp[bV.gE]at ho
 |row sz es =>
  rcases r with⟨b,o',h1,h2⟩|⟨h1,h2⟩
  ·refine .inl ⟨b,o',hn.trans h1,?_⟩
   obtain⟨hb,hsz,cs,t,cv,T,hh,hle,hT,hD,hc,hr⟩:=h2
   rw[hfp]
   refine⟨hb,hsz,cs,t,cv,T,(hm b hb).trans hh,hle,hT,hD,hc,λi j x hx=>?_⟩
   have hsx:x.gE=true:=by
    obtain⟨e,he,hj⟩:=kP hx
    have h3:=uX.1 ho e (rS he)
    exact uX.1 h3 x (rS hj)
   have hx':=hr i j x hx
   cases x with
   |own _ _=>simp[Cell.gE]at hsx
   |v y =>
    generalize cv i j=cc at hx'
    cases hx' with
    |v _ _ _ h1' hy=>exact .v y _ _ h1' (hy.gE hl hs hsx)
  ·exact .inr ⟨h1,hn.trans h2⟩
def OR {α:Type} (R:α->List OV->Prop):List α->List (List OV)->Prop
 | [],[]=>True
 |x::l,e::es=>R x e/\OR R l es
 | _,_=>False
def OS {α:Type} (R:α->List OV->Prop) (sz:Nat) (l:List α) (y:OV):Prop:=(y=.nil sz/\l=[])∨∃ n es,y=.sl n sz es/\OR R l es
def oP {α:Type} (c:α->aE) (x:α) (e:List OV):Prop:=e=[.v (c x)]
theorem OR.length {α:Type} {R:α->List OV->Prop}:∀ {l:List α} {es:List (List OV)},OR R l es->l.length=es.length
 | [],[],_=>rfl
 |x::l,e::es,h=>by simpa using OR.length h.2
 | [],_::_,h=>h.elim
 | _::_,[],h=>h.elim
theorem OR.get {α:Type} {R:α->List OV->Prop}:∀ {l:List α} {es:List (List OV)},OR R l es->∀ (i:Nat) x e,l[i]?=some x->es[i]?=some e->R x e
 |x::l,e::es,h,0,y,d,hy,hd=>by simp at hy hd;subst hy;subst hd;exact h.1
 |x::l,e::es,h,i+1,y,d,hy,hd=>OR.get h.2 i y d (by simpa using hy) (by simpa using hd)
 | [],[],_,i,y,d,hy,_=>by simp at hy
 | [],_::_,h,_,_,_,_,_=>h.elim
 | _::_,[],h,_,_,_,_,_=>h.elim
theorem OR.append {α:Type} {R:α->List OV->Prop}:∀ {l l':List α} {es es':List (List OV)},OR R l es->OR R l' es'->OR R (l++l') (es++es')
 | [],_,[],_,_,h=>h
 |x::l,_,e::es,_,a,h=>⟨a.1,OR.append a.2 h⟩
 | [],_,_::_,_,a,_=>a.elim
 | _::_,_,[],_,a,_=>a.elim
theorem OR.qG {α:Type} {R:α->List OV->Prop} {c:α->List aE} (hR:∀ x e,R x e->e.map OV.qG=c x):∀ {l:List α} {es:List (List OV)},OR R l es->OV.lF es=l.map c
 | [],[],_=>rfl
 |x::l,e::es,h=>by rw[OV.lF,OR.qG hR h.2,OV.xY,hR x e h.1];rfl
 | [],_::_,h=>h.elim
 | _::_,[],h=>h.elim
theorem OS.qG {α:Type} {R:α->List OV->Prop} {c:α->List aE} {sz:Nat} {l:List α} {y:OV} (hR:∀ x e,R x e->e.map OV.qG=c x) (h:OS R sz l y):y.qG=.sl sz (l.map c) false:=by
 rcases h with⟨rfl,rfl⟩|⟨n,es,rfl,h⟩
 ·rfl
 ·simp only[OV.qG,OR.qG hR h]
def bF (l:List (Nat×bV)):List Nat:=l.map (·.1)
def bFL (S:List Nat) (h h':aB):Prop:=∀ m,m∉S->h' m=h m
open Go.ChangeShapes Go.WideShapes
def qU {α:Type} (s:α->Nat) (l:List α):Nat:=l.length+(l.map s).sum
theorem sJ {α:Type} (s:α->Nat) (l:List α):qU s l=l.length+(l.map s).sum:=rfl
theorem OV.qJ:∀ (a b:List OV),OV.bY (a++b)=OV.bY a++OV.bY b
 | [],b=>rfl
 |x::a,b=>by rw[aTV,OV.bY,OV.qJ a b,OV.bY,aNB]
theorem OV.k7:∀ (a b:List (List OV)),OV.bG (a++b)=OV.bG a++OV.bG b
 | [],b=>rfl
 |x::a,b=>by rw[aTV,OV.bG,OV.k7 a b,OV.bG,aNB]
theorem dM (a b:List (Nat×bV)):bF (a++b)=bF a++bF b:=lT
theorem dF {l:List (Nat×bV)} {m:Nat}:m∈bF l↔∃ o,(m,o)∈l:=by
 simp[bF]
structure fH (h:aB) (l:List (Nat×bV)) (h':aB):Prop where
 nodup:(bF l).Nodup
 fresh:∀ m∈bF l,h m=none
 oY:qH h' l
 upto:bFL (bF l) h h'
theorem fH.nil (h:aB):fH h [] h:=⟨List.nodup_nil,by simp[bF],by simp[qH],λm _=>rfl⟩
theorem fH.one {h:aB} {n:Nat} {o:bV} (hn:h n=none):fH h [(n,o)] (aU h n o) :=
 ⟨by simp[bF],by simpa[bF]using hn,by simp[qH],λm hm=>aC _ _ _ _ (by simpa[bF]using hm)⟩
theorem fH.append {h h1 h2:aB} {a b:List (Nat×bV)} (x:fH h a h1) (y:fH h1 b h2):fH h (a++b) h2:=by
 have dis:∀ m∈bF a,m∉bF b:=λm hm hb=>by
  obtain⟨o,ho⟩:=dF.1 hm
  have:=y.fresh m hb
  rw[x.oY _ ho]at this;cases this
 refine⟨?_,?_,?_,?_⟩
 ·rw[dM]
  exact wK.2 ⟨x.nodup,y.nodup,λp hp q hq e=>dis p hp (e▸hq)⟩
 ·intro m hm
  rw[dM,oW]at hm
  by_cases hb:m∈bF a
  ·exact x.fresh m hb
  ·rcases hm with hm|hm
   ·exact absurd hm hb
   ·rw[←x.upto m hb];exact y.fresh m hm
 ·intro p hp
  rcases oW.1 hp with hp|hp
  ·have:p.1∈bF a:=dF.2 ⟨p.2,hp⟩
   rw[y.upto p.1 (dis _ this)];exact x.oY p hp
  ·exact y.oY p hp
 ·intro m hm
  rw[dM,oW]at hm
  rw[y.upto m λq=>hm (.inr q),x.upto m λq=>hm (.inl q)]
theorem fH.perm {h h':aB} {a b:List (Nat×bV)} (x:fH h a h') (p:a.Perm b):fH h b h' :=
 ⟨(p.map _).nodup_iff.1 x.nodup,λm hm=>x.fresh m (((p.map (·.1)).mem_iff).2 hm),λq hq=>x.oY q (p.mem_iff.2 hq),λm hm=>x.upto m λq=>hm (((p.map (·.1)).mem_iff).1 q)⟩
theorem fH.set {h h':aB} {n:Nat} {o o':bV} {l:List (Nat×bV)} (x:fH h ((n,o)::l) h'):fH h ((n,o')::l) (aU h' n o'):=by
 have hnd:=x.nodup
 have hn:n∉bF l:=by
  have:(bF ((n,o)::l)).Nodup:=hnd
  simp only[bF,p5,aFN]at this
  exact this.1
 refine⟨hnd,x.fresh,?_,λm hm=>?_⟩
 ·intro p hp
  rcases mW.1 hp with rfl|hp
  ·exact aI _ _ _
  ·have:p.1≠n:=λe=>hn (e▸dF.2 ⟨p.2,hp⟩)
   rw[aC _ _ _ _ this];exact x.oY p (v9 _ hp)
 ·have:m≠n:=λe=>hm (by subst e;simp[bF])
  rw[aC _ _ _ _ this];exact x.upto m hm
def qW (h:aB) (S:List Nat):aB:=λm=>if m∈S then none else h m
theorem a32 (h:aB) (S:List Nat):(qW h S).le h:=λm=>by
 by_cases e:m∈S
 ·exact .inl (if_pos e)
 ·exact .inr (if_neg e)
theorem fH.drop {h h':aB} {a b:List (Nat×bV)} (x:fH h (a++b) h'):fH h b (qW h' (bF a)):=by
 have hnd:=x.nodup
 rw[dM]at hnd
 obtain⟨_,nb,dis⟩:=wK.1 hnd
 refine⟨nb,λm hm=>x.fresh m (by rw[dM];exact wI _ hm),λp hp=>?_,λm hm=>?_⟩
 ·have:p.1∉bF a:=λq=>dis _ q _ (dF.2 ⟨p.2,hp⟩) rfl
  simp only[qW,if_neg this]
  exact x.oY p (wI _ hp)
 ·by_cases e:m∈bF a
  ·simp only[qW,if_pos e]
   exact(x.fresh m (by rw[dM];exact zC _ e)).symm
  ·simp only[qW,if_neg e]
   exact x.upto m (by rw[dM];simp[e,hm])
theorem aRN {P:Program} {f:FuncId} {args:List aE} {r:aE} {K:aE->aB->Prop} (h:aB) (a:iV P f args h K)
  (hk:∀ r' h',K r' h'->∃ l,fH h l h'/\∀ E w v,Rel E h' w->fC E h' w r' v->fC E (iL h' (bF l)) w r v):iV P f args h λr' h'=>r'=r/\h'=h :=
 ⟨a.1,λE w vs R hv=>Calls.mono (a.2 E w vs R hv) λe w' he=>by
  cases e <;> try exact he
  obtain⟨r',h',E',k,ev,R',rx⟩:=he
  obtain⟨l,nw,hr⟩:=hk r' h' k
  have hle:h.le (iL h' (bF l)):=λm=>by
   by_cases e:m∈bF l
   ·exact .inl (nw.fresh m e)
   ·rw[kZ e,nw.upto m e];exact .inr rfl
  refine⟨r,h,E',⟨rfl,rfl⟩,ev.trans ((Ev.iL _).forget hle),(R'.iL _).forget hle,?_⟩
  refine fC.pD (λb hb=>nX.le hle hb) (hr E' w' _ R' rx)⟩
theorem dV.aBK {E:Env} {h:aB} {w:World} (R:Rel E h w) {S:List Nat}:∀ (e:List OV) (vs:List Value),qH h (OV.bY e)->(∀ p∈OV.bY e,p.1∈S)->dV E h w (e.map OV.val) vs->dV E (iL h S) w (e.map OV.qG) vs
 | [],[],_,_,_=>trivial
 |x::e,v::vs,ho,hS,hr=>⟨fC.aBK R x (λp hp=>ho p aWG) (λp hp=>hS p aWG) v hr.1,
   dV.aBK R e vs (λp hp=>ho p aWF) (λp hp=>hS p aWF) hr.2⟩
 | [],_::_,_,_,hr=>hr.elim
 | _::_,[],_,_,hr=>hr.elim
theorem fC.aRO {E:Env} {h:aB} {w:World} (R:Rel E h w) {S:List Nat} (e:List OV) (v:Value) (ho:qH h (OV.bY e)) (hS:∀ p∈OV.bY e,p.1∈S) (hr:fC E h w (.agg (e.map OV.val)) v):fC E (iL h S) w (.agg (e.map OV.qG)) v:=by
 cases hr with
 |agg _ vs hl hr =>
  have:=dV.aBK R e vs ho hS (dV.mk hl hr)
  exact .agg _ vs this.length this.get
theorem aNU {α:Type} {c:α->aE} {x:α} {e:List OV} (h:oP c x e):e.map OV.qG=[c x]:=by
 unfold oP at h;subst h;rfl
structure aE7 (h:aB) (T:List Nat) (l:List (Nat×bV)) (h':aB):Prop where
 nodup:(T++bF l).Nodup
 fresh:∀ m∈T++bF l,h m=none
 there:∀ m∈T,h' m≠none
 oY:qH h' l
 upto:bFL (T++bF l) h h'
theorem aE7.bMD {h h':aB} {l:List (Nat×bV)} (x:aE7 h [] l h'):fH h l h':=⟨x.nodup,x.fresh,x.oY,x.upto⟩
theorem fH.toT {h h':aB} {l:List (Nat×bV)} (x:fH h l h'):aE7 h [] l h':=⟨x.nodup,x.fresh,by simp,x.oY,x.upto⟩
theorem aE7.drop {h h':aB} {T:List Nat} {l:List (Nat×bV)} (x:aE7 h T l h'):fH h l (qW h' T):=by
 obtain⟨_,nb,dis⟩:=wK.1 x.nodup
 refine⟨nb,λm hm=>x.fresh m (wI _ hm),λp hp=>?_,λm hm=>?_⟩
 ·have:p.1∉T:=λq=>dis _ q _ (dF.2 ⟨p.2,hp⟩) rfl
  simp only[qW,if_neg this]
  exact x.oY p hp
 ·by_cases e:m∈T
  ·simp only[qW,if_pos e]
   exact(x.fresh m (zC _ e)).symm
  ·simp only[qW,if_neg e]
   exact x.upto m (by simp[e,hm])
theorem aE7.some {h h':aB} {T:List Nat} {l:List (Nat×bV)} (x:aE7 h T l h') {m:Nat} (hm:m∈T++bF l):h' m≠none:=by
 rcases oW.1 hm with hm|hm
 ·exact x.there m hm
 ·obtain⟨o,ho⟩:=dF.1 hm
  rw[x.oY _ ho];simp
theorem aE7.row {h h':aB} {T:List Nat} {l:List (Nat×bV)} (x:aE7 h T l h') {n:Nat} {o:bV} (hn:h' n=none):aE7 h T ((n,o)::l) (aU h' n o):=by
 have hn1:n∉T++bF l:=λq=>x.some q hn
 have nd:=wK.1 x.nodup
 refine⟨wK.2 ⟨nd.1,?_,?_⟩,?_,?_,λp hp=>?_,λm hm=>?_⟩
 ·show(n::bF l).Nodup
  exact aFN.2 ⟨λq=>hn1 (wI _ q),nd.2.1⟩
 ·intro a ha b hb e
  have hb':b∈n::bF l:=hb
  rcases mW.1 hb' with rfl|hb'
  ·exact hn1 (e▸zC _ ha)
  ·exact nd.2.2 a ha b hb' e
 ·intro m hm
  rcases oW.1 hm with hm|hm
  ·exact x.fresh m (zC _ hm)
  ·have hm':m∈n::bF l:=hm
   rcases mW.1 hm' with rfl|hm'
   ·rw[←x.upto m hn1];exact hn
   ·exact x.fresh m (wI _ hm')
 ·intro m hm
  have:m≠n:=λe=>hn1 (e▸zC _ hm)
  rw[aC _ _ _ _ this];exact x.there m hm
 ·rcases mW.1 hp with rfl|hp
  ·exact aI _ _ _
  ·have:p.1≠n:=λe=>hn1 (e▸wI _ (dF.2 ⟨p.2,hp⟩))
   rw[aC _ _ _ _ this];exact x.oY p hp
 ·have h1:m≠n:=λe=>hm (e▸wI _ aQH)
  rw[aC _ _ _ _ h1]
  refine x.upto m λq=>hm ?_
  rcases oW.1 q with q|q
  ·exact zC _ q
  ·exact wI _ (v9 _ q)
theorem fH.keep {h h':aB} {l:List (Nat×bV)} (x:fH h l h') {n:Nat} {o:bV} (hn:h n=some o):h' n=some o:=by
 rw[x.upto n λq=>by rw[x.fresh n q]at hn;cases hn];exact hn
theorem aE7.set {h h':aB} {T:List Nat} {n:Nat} {o o':bV} {l:List (Nat×bV)} (x:aE7 h T ((n,o)::l) h'):aE7 h T ((n,o')::l) (aU h' n o'):=by
 have nd:=wK.1 x.nodup
 have nd2:(n::bF l).Nodup:=nd.2.1
 refine⟨x.nodup,x.fresh,λm hm=>?_,λp hp=>?_,λm hm=>?_⟩
 ·by_cases e:m=n
  ·subst e;simp
  ·rw[aC _ _ _ _ e];exact x.there m hm
 ·rcases mW.1 hp with rfl|hp
  ·exact aI _ _ _
  ·have:p.1≠n:=λe=>(aFN.1 nd2).1 (e▸dF.2 ⟨p.2,hp⟩)
   rw[aC _ _ _ _ this];exact x.oY p (v9 _ hp)
 ·have h1:m≠n:=λe=>hm (e▸wI _ aQH)
  rw[aC _ _ _ _ h1];exact x.upto m hm
theorem zY {α:Type} {c:α->aE}:∀ (l:List α),OR (oP c) l (l.map λx=>[.v (c x)])
 | []=>trivial
 |x::l=>⟨rfl,zY l⟩
theorem fQ {α:Type} (c:α->aE) (l:List α):OV.cells (l.map λx=>[OV.v (c x)])=(l.map λx=>[c x]).map (List.map .v):=by
 simp[OV.cells,OV.val]
theorem gP {α:Type} (c:α->aE):∀ (l:List α),OV.bG (l.map λx=>[OV.v (c x)])=[]
 | []=>rfl
 |x::l=>by rw[p5,OV.bG,gP c l];rfl
theorem OV.nG (x:aE):(OV.v x).val=x:=rfl
theorem OS.flat {α:Type} {R:α->List OV->Prop} {sz:Nat} {l:List α} {y:OV} (h:OS R sz l y):y.val.flat=true:=by
 rcases h with⟨rfl,_⟩|⟨n,es,rfl,_⟩ <;> rfl
theorem OS.one {α:Type} {R:α->List OV->Prop} {sz:Nat} {l:List α} {y:OV} (h:OS R sz l y):y.val.cells=[y.val]:=by
 rcases h with⟨rfl,_⟩|⟨n,es,rfl,_⟩ <;> rfl
theorem aLB (es:List (List OV)) (e:List OV):OV.bG (es++[e])=OV.bG es++OV.bY e:=by
 rw[OV.k7];simp only[OV.bG,dP]
def FnN (P:Program) (f:FuncId) (args:List aE) (Q:aE->List (Nat×bV)->Prop):Prop:=∀ h:aB,iV P f args h λr h'=>∃ l,Q r l/\fH h l h'
theorem fH.under {g h':aB} {n:Nat} {o:bV} {l:List (Nat×bV)} (hg:g n=none) (x:fH (aU g n o) l h'):∃ g',h'=aU g' n o/\fH g l g'/\g' n=none:=by
 have hn:n∉bF l:=λq=>by have:=x.fresh n q;simp at this
 have hk:h' n=some o:=x.keep (aI _ _ _)
 refine⟨qW h' [n],?_,⟨x.nodup,λm hm=>?_,λp hp=>?_,λm hm=>?_⟩,by simp[qW]⟩
 ·funext m
  by_cases e:m=n
  ·subst e;rw[aI,hk]
  ·rw[aC _ _ _ _ e];simp[qW,e]
 ·have e:m≠n:=λe=>hn (e▸hm)
  have:=x.fresh m hm
  rwa [aC _ _ _ _ e]at this
 ·have e:p.1≠n:=λe=>hn (e▸dF.2 ⟨p.2,hp⟩)
  have:qW h' [n] p.1=h' p.1:=by simp[qW,e]
  rw[this];exact x.oY p hp
 ·by_cases e:m=n
  ·subst e;rw[hg];simp[qW]
  ·have:qW h' [n] m=h' m:=by simp[qW,e]
   rw[this,x.upto m hm,aC _ _ _ _ e]
theorem fH.aB7 {g h':aB} {n m:Nat} {x y:bV} {l:List (Nat×bV)} (hn:g n=none) (hm:aU g n x m=none) (q:fH (aU (aU g n x) m y) l h'):∃ g',h'=aU (aU g' n x) m y/\fH g l g'/\g' n=none/\aU g' n x m=none:=by
 obtain⟨g1,rfl,q1,h1⟩:=q.under hm
 obtain⟨g2,rfl,q2,h2⟩:=q1.under hn
 exact⟨g2,rfl,q2,h2,h1⟩
theorem fH.aNV {g h':aB} {n m k:Nat} {x y z:bV} {l:List (Nat×bV)} (hn:g n=none) (hm:aU g n x m=none) (hk:aU (aU g n x) m y k=none) (q:fH (aU (aU (aU g n x) m y) k z) l h') :
  ∃ g',h'=aU (aU (aU g' n x) m y) k z/\fH g l g'/\g' n=none/\aU g' n x m=none/\aU (aU g' n x) m y k=none:=by
 obtain⟨g1,rfl,q1,h1⟩:=q.under hk
 obtain⟨g2,rfl,q2,h2,h3⟩:=q1.aB7 hn hm
 exact⟨g2,rfl,q2,h2,h3,h1⟩
section
variable {P:Program} {f:FuncId} {args:List aE} {Q:aE->List (Nat×bV)->Prop} {K:aE->aB->Prop} {t:Tag K}
end
theorem bTD {P:Program} {f:FuncId} {fn:Func} {c:Code} (N:Nat) (keep ib:List Nat) (mk:Marks) {args:List aE} {Q:aE->List (Nat×bV)->Prop} (hmix:P.follows .mixedOrders=true) (hf:P.funcs[f]?=some fn) (hb:fn.body=some c)
  (hck:(iY P f && decide (fn.ntmps=N) && gM N mk c)=true) (hl:args.length<=N)
  (hw:∀ h,nJ P N keep ib mk c (λτ h'=>lW P fn.results (λr h'=>∃ r1 g l,Shift r h' r1 g/\Q r1 l/\fH h l g) () .normal τ h') (lW P fn.results (λr h'=>∃ r1 g l,Shift r h' r1 g/\Q r1 l/\fH h l g) ()) (o7 0 args) h ()):FnN P f args Q:=by
 intro h
 have h1:iV P f args h (λr h'=>∃ r1 g l,Shift r h' r1 g/\Q r1 l/\fH h l g) :=
  iV.mono (bL6 (K:=λr h'=>∃ r1 g l,Shift r h' r1 g/\Q r1 l/\fH h l g) N keep ib mk hmix hf hb hck hl (by
   have:=hw h
   refine Eq.mp ?_ this
   have e:(λr h'=>∃ r1 g l,Shift r h' r1 g/\Q r1 l/\fH h l g)=(λr h'=>∃ g':aB,g'.le h'/\∃ r1 g l,Shift r g' r1 g/\Q r1 l/\fH h l g):=by
    funext r h'
    refine propext ⟨λ⟨r1,g,l,s,q⟩=>⟨h',aB.le_refl _,r1,g,l,s,q⟩,λ⟨g',hl,r1,g,l,s,q⟩=>⟨r1,g,l,(Shift.of (Sub.refl _) hl).trans s,q⟩⟩
   rw[e])) λr h' q=>q
 exact uH (fn:=fn) (c:=c) (N:=N) h1 λr h' ⟨r1,g,l,s,q,n⟩=>⟨r1,g,s,l,q,n⟩
theorem FnN.dI {P:Program} {f:FuncId} {args:List aE} {Q:aE->List (Nat×bV)->Prop} {r:aE} (a:FnN P f args Q)
  (hk:∀ r' l,Q r' l->∀ E w v h',qH h' l->Rel E h' w->fC E h' w r' v->fC E (iL h' (bF l)) w r v):fE P f args r:=λh =>
 aRN h (a h) λr' h' ⟨l,q,hn⟩=>⟨l,hn,λE w v R rx=>hk r' l q E w v h' hn.oY R rx⟩
def qX (h:aB):aB:=λm=>(h m).map λ_=>.gone
theorem xZ {h:aB} {m:Nat} {o:bV} (ho:qX h m=some o):o=.gone:=by
 simp only[qX,q0]at ho
 obtain⟨_,_,rfl⟩:=ho;rfl
theorem w6 {E:Env} {h:aB} {w:World} {b:Nat} (hb:b<w.heap.size):nX E (qX h) w b:=⟨hb,λm o hm ho=>by rw[xZ hm]at ho;exact ho.elim⟩
theorem Rel.qX {E:Env} {h:aB} {w:World} (R:Rel E h w):Rel E (qX h) w:=by
 refine⟨R.fin,λm hm=>R.dom m λq=>hm (by simp[Hl.qX,q]),?_,?_,?_,R.laid.pD λb hb=>w6 hb.1⟩
 ·intro m o b hm ho;rw[xZ hm]at ho;exact ho.elim
 ·intro m o m' o' b hm ho;rw[xZ hm]at ho;exact ho.elim
 ·intro m o hm;rw[xZ hm];trivial
theorem iV.bC6 {P:Program} {f:FuncId} {args args':List aE} {h:aB} {K:aE->aB->Prop} {K':aE->List (Nat×bV)->Prop}
  (hview:∀ E w vs,Rel E h w->dV E h w args vs->dV E (qX h) w args' vs) (a:iV P f args' (qX h) K)
  (hK:∀ r h',K r h'->∃ l,K' r l/\fH (qX h) l h'/\r.gE=true/\∀ p∈l,p.2.gE=true) :
  iV P f args h λr h'=>∃ l,K' r l/\fH h l h':=by
 refine⟨a.1,λE w vs R hv=>Calls.mono (a.2 E w vs R.qX (hview E w vs R hv)) λe w' he=>?_⟩
 cases e <;> try exact he
 obtain⟨r,h',E',k,ev,R',rx⟩:=he
 obtain⟨l,k',nw,hr,hsol⟩:=hK r h' k
 have hnew:∀ m∈bF l,h m=none:=λm hm=>by
  have:=nw.fresh m hm
  simpa[qX]using this
 let h2:aB:=λm=>if m∈bF l then h' m else h m
 have e1:∀ m,m∈bF l->h2 m=h' m:=λm hm=>if_pos hm
 have e2:∀ m,m∉bF l->h2 m=h m:=λm hm=>if_neg hm
 let E2:Env:={ loc:=E'.loc,fp:=λn=>if n∈bF l then E'.fp n else E.fp n,used:=E'.used }
 have f1:∀ m,m∈bF l->E2.fp m=E'.fp m:=λm hm=>if_pos hm
 have f2:∀ m,m∉bF l->E2.fp m=E.fp m:=λm hm=>if_neg hm
 have aUB:∀ b,b<w.heap.size->nX E (qX h) w b:=λb hb=>w6 hb
 have solL:∀ m o,m∈bF l->h' m=some o->o.gE=true:=λm o hm ho=>by
  obtain⟨o',ho'⟩:=dF.1 hm
  have:=nw.oY _ ho'
  rw[ho]at this
  obtain rfl:=gH this
  exact hsol _ ho'
 have evA:Ev E h w E2 h2 w':=by
  refine⟨ev.size,λb hb=>?_,ev.shape,ev.loc,ev.os,ev.out⟩
  have h1:=ev.keep b (aUB b hb.1)
  refine⟨h1.1,h1.2.1,λm o hm ho hf=>?_⟩
  by_cases e:m∈bF l
  ·rw[e1 m e]at hm;rw[f1 m e]at hf;exact h1.2.2 m o hm ho hf
  ·rw[e2 m e]at hm;rw[f2 m e]at hf;exact hb.2 m o hm ho hf
 have R2:Rel E2 h2 w':=by
  refine⟨R'.fin,λm hm=>?_,?_,?_,?_,R.laid.ev evA⟩
  ·by_cases e:m∈bF l
   ·rw[e1 m e]at hm;exact R'.dom m hm
   ·rw[e2 m e]at hm;exact(ev.loc m (R.dom m hm)).2
  ·intro m o b hm ho hf
   by_cases e:m∈bF l
   ·rw[e1 m e]at hm;rw[f1 m e]at hf;exact R'.lt m o b hm ho hf
   ·rw[e2 m e]at hm;rw[f2 m e]at hf;exact Nat.lt_of_lt_of_le (R.lt m o b hm ho hf) ev.size
  ·intro m o m' o' b hm ho hm' ho' hf hf'
   by_cases e:m∈bF l
   ·rw[e1 m e]at hm;rw[f1 m e]at hf
    by_cases e':m'∈bF l
    ·rw[e1 m' e']at hm';rw[f1 m' e']at hf';exact R'.apart m o m' o' b hm ho hm' ho' hf hf'
    ·rw[e2 m' e']at hm';rw[f2 m' e']at hf'
     exact absurd hf ((ev.keep b (aUB b (R.lt m' o' b hm' ho' hf'))).2.2 m o hm ho)
   ·rw[e2 m e]at hm;rw[f2 m e]at hf
    by_cases e':m'∈bF l
    ·rw[e1 m' e']at hm';rw[f1 m' e']at hf'
     exact absurd hf' ((ev.keep b (aUB b (R.lt m o b hm ho hf))).2.2 m' o' hm' ho')
    ·rw[e2 m' e']at hm';rw[f2 m' e']at hf';exact R.apart m o m' o' b hm ho hm' ho' hf hf'
  ·intro m o hm
   by_cases e:m∈bF l
   ·rw[e1 m e]at hm
    exact aC0.gE (E:=E') (E':=E2) (λn hn=>⟨rfl,hn⟩) (λ_ _=>rfl) rfl (f1 m e) (λ_ _=>rfl) (solL m o e hm) (R'.obj m o hm)
   ·rw[e2 m e]at hm
    cases o with
    |gone=>trivial
    |row sz es=>exact(R.obj m _ hm).ev evA (ev.loc m (R.dom m (by simp[hm]))).1 (f2 m e) λb _ hb=>(ev.keep b (aUB b (R.lt m _ b hm trivial hb))).1
    |abs Q=>exact(R.obj m _ hm).ev evA (ev.loc m (R.dom m (by simp[hm]))).1 (f2 m e) λb _ hb=>(ev.keep b (aUB b (R.lt m _ b hm trivial hb))).1
    |raw t cs=>exact(R.obj m _ hm).ev evA (ev.loc m (R.dom m (by simp[hm]))).1 (f2 m e) λb _ hb=>(ev.keep b (aUB b (R.lt m _ b hm trivial hb))).1
    |map kt et l'=>exact(R.obj m _ hm).ev evA (ev.loc m (R.dom m (by simp[hm]))).1 (f2 m e) λb _ hb=>(ev.keep b (aUB b (R.lt m _ b hm trivial hb))).1
 refine⟨r,h2,E2,⟨l,k',⟨nw.nodup,hnew,λp hp=>?_,λm hm=>e2 m hm⟩⟩,evA,R2,fC.gE (E:=E') (E':=E2) (λn hn=>⟨rfl,hn⟩) (λ_ _=>rfl) rx hr⟩
 rw[e1 p.1 (dF.2 ⟨p.2,hp⟩)];exact nw.oY p hp
def View (h:aB) (x x':aE):Prop:=∀ E w v,Rel E h w->fC E h w x v->fC E (qX h) w x' v
def lQ (h:aB):List aE->List aE->Prop
 | [],[]=>True
 |x::xs,y::ys=>View h x y/\lQ h xs ys
 | _,_=>False
theorem bFM {E:Env} {h:aB} {w:World} {b:Nat} (i:nX E h w b):nX E (qX h) w b:=w6 i.1
theorem View.same (h:aB) (x:aE):View h x x:=λE w v R r=>r.pD λb i=>bFM i
theorem aI3 {E:Env} {h:aB} {w:World} {S:List Nat}:∀ b,nX E (Hl.iL h S) w b->nX E (qX h) w b:=λb i=>w6 i.1
theorem View.ov {h:aB} (y:OV) (ho:qH h y.rows):View h y.val y.qG:=λE w v R r =>
 (fC.aBK R (S:=bF y.rows) y ho (λp hp=>dF.2 ⟨p.2,hp⟩) v r).pD aI3
theorem View.op {h:aB} {n sz i off:Nat} (es:List (List OV)) (hn:h n=some (.row sz (OV.cells es))) (hne:es≠[]) (ho:qH h (OV.bG es)):View h (.op n sz i off) (.ip sz (OV.lF es) i off):=by
 intro E w v R r
 cases v <;> try(cases r;done)
 cases r with
 |op _ _ _ _ b o hd hl =>
  obtain⟨b',o',hl',hbS,hs,cs,ct,cv,T,hh,hm',hT,hD,hc,hrr⟩:=zJ R hn (.inr ⟨_,hl⟩)
  rw[hl]at hl'
  obtain⟨rfl,rfl⟩:=aNA (gH hl')
  have hcs:∀ i j y,iJ (OV.lF es) i j=some y->∃ c,iJ es i j=some c/\y=c.qG/\cs[o+i*sz+j]?=some (cv i j)/\(cv i j).oneCell'=true/\fC E h w c.val (cv i j):=by
   intro i j y hy
   rw[OV.kJ,nF]at hy
   obtain⟨c,hc1,rfl⟩:=q0.1 hy
   have hcell:iJ (OV.cells es) i j=some (.v c.val):=by rw[OV.cells,nF,hc1];rfl
   have h2:=hrr i j _ hcell
   generalize hcv:cv i j=z at h2
   cases h2 with
   |v x c' S' h1 hx=>exact⟨c,hc1,rfl,hcv▸hc i j _ hcell,h1,hx⟩
  refine .ip sz (OV.lF es) i off b o cv (w6 (R.lt n _ b hn trivial hbS)) ?_ ?_ ?_ ?_
  ·intro e he
   rw[OV.kJ,lA]at he
   obtain⟨e',he',rfl⟩:=he
   have:=hs (e'.map λc=>Cell.v c.val) (lA.2 ⟨e',he',rfl⟩)
   simpa using this
  ·intro i j y hy
   obtain⟨c,_,_,h1,_,_⟩:=hcs i j y hy
   simp only[World.cell?,hh]
   rw[←h1]
   simp
  ·intro i j y hy;obtain⟨c,_,_,_,h1,_⟩:=hcs i j y hy;exact h1
  ·intro i j y hy
   obtain⟨c,hc1,rfl,_,_,h1⟩:=hcs i j y hy
   obtain⟨e,he,hj⟩:=kP hc1
   exact(aE4 R (S:=bF (OV.bG es)) es ho (λp hp=>dF.2 ⟨p.2,hp⟩) e (rS he) c (rS hj) _ h1).pD aI3
theorem lQ.aQ9 {h:aB}:∀ {xs ys:List aE},lQ h xs ys->∀ E w vs,Rel E h w->dV E h w xs vs->dV E (qX h) w ys vs
 | [],[],_,E,w,[],R,r=>trivial
 |x::xs,y::ys,hv,E,w,v::vs,R,r=>⟨hv.1 E w v R r.1,lQ.aQ9 hv.2 E w vs R r.2⟩
 | [],[],_,E,w,_::_,R,r=>r.elim
 |x::xs,y::ys,hv,E,w,[],R,r=>r.elim
 | [],_::_,h,_,_,_,_,_=>h.elim
 | _::_,[],h,_,_,_,_,_=>h.elim
theorem lQ.nil {h:aB}:lQ h [] []:=trivial
theorem lQ.cons {h:aB} {x y:aE} {xs ys:List aE} (a:View h x y) (b:lQ h xs ys):lQ h (x::xs) (y::ys):=⟨a,b⟩
def aNW (Q:aE->List (Nat×bV)->Prop):Prop:=∀ r l,Q r l->r.gE=true/\∀ p∈l,p.2.gE=true
theorem FnN.a33 {P:Program} {f:FuncId} {args args':List aE} {Q:aE->List (Nat×bV)->Prop} {h:aB} (a:FnN P f args' Q) (hv:lQ h args args') (hQ:aNW Q):iV P f args h λr h'=>∃ l,Q r l/\fH h l h' :=
 iV.bC6 hv.aQ9 (a (qX h)) λr h' ⟨l,q,n⟩=>⟨l,q,n,(hQ r l q).1,(hQ r l q).2⟩
theorem fE.a33 {P:Program} {f:FuncId} {args args':List aE} {r:aE} {h:aB} (a:fE P f args' r) (hv:lQ h args args') (hr:r.gE=true):iV P f args h λr' h'=>r'=r/\h'=h :=
 (iV.bC6 (K':=λr' l=>r'=r/\l=[]) hv.aQ9 (a (qX h)) λr' h' ⟨e,e'⟩=>by
  subst e;subst e';exact⟨[],⟨rfl,rfl⟩,.nil _,hr,by simp⟩).mono λr' h' ⟨l,⟨e1,e2⟩,n⟩=>by
  subst e2
  exact⟨e1,funext λm=>n.upto m aQH⟩
section
variable {P:Program} {f:FuncId} {args args':List aE} {Q:aE->List (Nat×bV)->Prop} {K:aE->aB->Prop} {t:Tag K} {g:aB}
theorem aH.bME {r:aE} (a:fE P f args' r) (hv:lQ g args args') (hr:r.gE=true) (k:K r g):aH P f args g K t :=
 aH.gV (a.a33 hv hr) λr' h' ⟨e,e'⟩=>by subst e;subst e';exact k
theorem aH.ln (a:FnN P f args' Q) (hv:lQ g args args') (hQ:aNW Q) (k:∀ r l g',Q r l->fH g l g'->K r g'):aH P f args g K t :=
 aH.gV (a.a33 hv hQ) λr h' ⟨l,q,n⟩=>k r l h' q n
end
mutual
def OV.sol:OV->Bool
 | .v x=>x.gE
 | .nil _=>true
 | .sl _ _ es=>OV.sZ es
def OV.sZ:List (List OV)->Bool
 | []=>true
 |e::es=>OV.sK e && OV.sZ es
def OV.sK:List OV->Bool
 | []=>true
 |x::e=>x.sol && OV.sK e
end
theorem OV.aMA:∀ {x:OV},x.sol=true->x.val.gE=true
 | .v x,h=>by simpa only[OV.sol,OV.val]using h
 | .nil _,_=>by simp[OV.val,aE.gE]
 | .sl _ _ _,_=>by simp[OV.val,aE.gE]
theorem OV.aI4:∀ (e:List OV),OV.sK e=e.all OV.sol
 | []=>rfl
 |x::e=>by rw[OV.sK,OV.aI4 e];rfl
theorem OV.aF7:∀ (es:List (List OV)),OV.sZ es=es.all (λe=>e.all OV.sol)
 | []=>rfl
 |e::es=>by rw[OV.sZ,OV.aF7 es,OV.aI4];rfl
theorem OV.aRP {sz:Nat} {es:List (List OV)} (h:OV.sZ es=true):(bV.row sz (OV.cells es)).gE=true:=by
 rw[OV.aF7]at h
 simp only[bV.gE,OV.cells,List.all_map,uX,Function.comp_apply]at h ⊢
 intro e he c hc
 exact OV.aMA (h e he c hc)
mutual
theorem OV.aI5:∀ {x:OV},x.sol=true->∀ p∈x.rows,p.2.gE=true
 | .v _,_=>by simp[OV.rows]
 | .nil _,_=>by simp[OV.rows]
 | .sl n sz es,h=>λp hp=>by
  rw[OV.rows]at hp
  rcases mW.1 hp with rfl|hp
  ·exact OV.aRP (by simpa only[OV.sol]using h)
  ·exact OV.zZ (by simpa only[OV.sol]using h) p hp
theorem OV.zZ:∀ {es:List (List OV)},OV.sZ es=true->∀ p∈OV.bG es,p.2.gE=true
 | [],_=>by simp[OV.bG]
 |e::es,h=>λp hp=>by
  simp only[OV.sZ,l7]at h
  rw[OV.bG]at hp
  rcases oW.1 hp with hp|hp
  ·exact OV.aBM h.1 p hp
  ·exact OV.zZ h.2 p hp
theorem OV.aBM:∀ {e:List OV},OV.sK e=true->∀ p∈OV.bY e,p.2.gE=true
 | [],_=>by simp[OV.bY]
 |x::e,h=>λp hp=>by
  simp only[OV.sK,l7]at h
  rw[OV.bY]at hp
  rcases oW.1 hp with hp|hp
  ·exact OV.aI5 h.1 p hp
  ·exact OV.aBM h.2 p hp
end
theorem OR.sol {α:Type} {R:α->List OV->Prop} (hR:∀ x e,R x e->OV.sK e=true):∀ {l:List α} {es:List (List OV)},OR R l es->OV.sZ es=true
 | [],[],_=>rfl
 |x::l,e::es,h=>by rw[OV.sZ,hR x e h.1,OR.sol hR h.2];rfl
 | [],_::_,h=>h.elim
 | _::_,[],h=>h.elim
theorem OS.sol {α:Type} {R:α->List OV->Prop} {sz:Nat} {l:List α} {y:OV} (hR:∀ x e,R x e->OV.sK e=true) (h:OS R sz l y):y.sol=true:=by
 rcases h with⟨rfl,_⟩|⟨n,es,rfl,h⟩
 ·rfl
 ·simp only[OV.sol];exact h.sol hR
theorem aUC {α:Type} {c:α->aE} (hc:∀ x,(c x).gE=true) {x:α} {e:List OV} (h:oP c x e):OV.sK e=true:=by
 unfold oP at h;subst h;simp[OV.sK,OV.sol,hc]
theorem aBE {P:Program} {f:FuncId} {fn:Func} {c:Code} (N:Nat) (keep ib:List Nat) (mk:Marks) {args:List aE} {Q:aE->List (Nat×bV)->Prop} (hf:P.funcs[f]?=some fn) (hw:∀ h,nJ P N keep ib mk c (λτ h'=>lW P fn.results (λr h'=>∃ r1 g l,Shift r h' r1 g/\Q r1 l/\fH h l g) () .normal τ h') (lW P fn.results (λr h'=>∃ r1 g l,Shift r h' r1 g/\Q r1 l/\fH h l g) ()) (o7 0 args) h ()) (hmix:P.follows .mixedOrders=true:=by exact mix) (hb:fn.body=some c:=by rfl) (hck:(iY P f && decide (fn.ntmps=N) && gM N mk c)=true:=by kernel_rfl) (hl:args.length<=N:=by simp):FnN P f args Q :=
 bTD N keep ib mk hmix hf hb hck hl hw
def QS (R:OV->Prop) (w:aE->aE:=λx=>x):aE->List (Nat×bV)->Prop:=λr l=>∃ y,R y/\r=w y.val/\l=y.rows
theorem fH.row {h h':aB} {l:List (Nat×bV)} (x:fH h l h') {n:Nat} {o:bV} (hn:h' n=none):fH h ((n,o)::l) (aU h' n o):=(x.toT.row hn).bMD
theorem QS.gE {R:OV->Prop} {w:aE->aE} (hR:∀ y,R y->y.sol=true) (hw:∀ x:aE,x.gE=true->(w x).gE=true):aNW (QS R w):=λr l ⟨y,hy,e1,e2⟩=>by
 subst e1 e2
 exact⟨hw _ (OV.aMA (hR y hy)),OV.aI5 (hR y hy)⟩
theorem QS.dI {P:Program} {f:FuncId} {args:List aE} {R:OV->Prop} {d:aE} (a:FnN P f args (QS R)) (hd:∀ y,R y->y.qG=d):fE P f args d :=
 a.dI λr' l ⟨y,hy,e1,e2⟩ E w v h' ho R rx=>by
  subst e1 e2
  rw[←hd y hy]
  exact fC.aBK R y ho (λp hp=>dF.2 ⟨p.2,hp⟩) v rx
theorem OS.nil {α:Type} {R:α->List OV->Prop} {sz:Nat}:OS R sz [] (.nil sz):=.inl ⟨rfl,rfl⟩
theorem OS.mk {α:Type} {R:α->List OV->Prop} {sz n:Nat} {l:List α} {es:List (List OV)} (h:OR R l es):OS R sz l (.sl n sz es):=.inr ⟨n,es,rfl,h⟩
theorem OV.qK (sz:Nat):(OV.nil sz).rows=[]:=by rw[OV.rows]
theorem OV.z5 (x:aE):(OV.v x).rows=[]:=by rw[OV.rows]
theorem OV.eD (n sz:Nat) (es:List (List OV)):(OV.sl n sz es).rows=(n,.row sz (OV.cells es))::OV.bG es:=by rw[OV.rows]
theorem OV.hJ:OV.bY []=[]:=by rw[OV.bY]
theorem OV.eC (x:OV) (e:List OV):OV.bY (x::e)=x.rows++OV.bY e:=by rw[OV.bY]
theorem OV.aNX (sz:Nat):(OV.nil sz).val=.sl sz [] true:=rfl
theorem OV.z7 (n sz:Nat) (es:List (List OV)):(OV.sl n sz es).val=.os n sz 0 es.length:=rfl
theorem OV.dN:List.map OV.val []=[]:=rfl
theorem OV.iF (x:OV) (e:List OV):List.map OV.val (x::e)=x.val::e.map OV.val:=rfl
structure Chg (h h':aB) (l l':List (Nat×bV)):Prop where
 names:bF l'=bF l
 oY:qH h' l'
 upto:bFL (bF l) h h'
theorem Chg.trans {h h1 h2:aB} {a b c:List (Nat×bV)} (x:Chg h h1 a b) (y:Chg h1 h2 b c):Chg h h2 a c :=
 ⟨y.names.trans x.names,y.oY,λm hm=>(y.upto m (by rw[x.names];exact hm)).trans (x.upto m hm)⟩
theorem qH.left {h:aB} {a b:List (Nat×bV)} (o:qH h (a++b)):qH h a:=λp hp=>o p (zC _ hp)
theorem qH.right {h:aB} {a b:List (Nat×bV)} (o:qH h (a++b)):qH h b:=λp hp=>o p (wI _ hp)
theorem Chg.mid {h h':aB} {a l l' b:List (Nat×bV)} (o:qH h (a++(l++b))) (nd:(bF (a++(l++b))).Nodup) (c:Chg h h' l l'):Chg h h' (a++(l++b)) (a++(l'++b)):=by
 have nd':=nd
 rw[dM,dM]at nd'
 obtain⟨_,n2,d1⟩:=wK.1 nd'
 obtain⟨_,_,d2⟩:=wK.1 n2
 refine⟨by rw[dM,dM,dM,dM,c.names],λp hp=>?_,λm hm=>c.upto m λq=>hm ?_⟩
 ·rcases oW.1 hp with hp|hp
  ·have hm:p.1∈bF a:=dF.2 ⟨p.2,hp⟩
   rw[c.upto p.1 λq=>d1 _ hm _ (zC _ q) rfl]
   exact o p (zC _ hp)
  ·rcases oW.1 hp with hp|hp
   ·exact c.oY p hp
   ·have hm:p.1∈bF b:=dF.2 ⟨p.2,hp⟩
    rw[c.upto p.1 λq=>d2 _ q _ hm rfl]
    exact o p (wI _ (wI _ hp))
 ·rw[dM,dM]
  exact wI _ (zC _ q)
theorem Chg.set {h:aB} {n:Nat} {o o':bV} {l:List (Nat×bV)} (ow:qH h ((n,o)::l)) (nd:(bF ((n,o)::l)).Nodup):Chg h (aU h n o') ((n,o)::l) ((n,o')::l):=by
 have hn:n∉bF l:=(aFN.1 (show(n::bF l).Nodup from nd)).1
 refine⟨rfl,λp hp=>?_,λm hm=>?_⟩
 ·rcases mW.1 hp with rfl|hp
  ·exact aI _ _ _
  ·have:p.1≠n:=λe=>hn (e▸dF.2 ⟨p.2,hp⟩)
   rw[aC _ _ _ _ this];exact ow p (v9 _ hp)
 ·have:m≠n:=λe=>hm (by rw[e];exact zD)
  exact aC _ _ _ _ this
theorem Chg.nodup {h h':aB} {a b:List (Nat×bV)} (c:Chg h h' a b) (nd:(bF a).Nodup):(bF b).Nodup:=by rw[c.names];exact nd
theorem fH.chg {h h1 h2:aB} {l l':List (Nat×bV)} (x:fH h l h1) (c:Chg h1 h2 l l'):fH h l' h2 :=
 ⟨c.nodup x.nodup,λm hm=>x.fresh m (c.names▸hm),c.oY,λm hm=>(c.upto m (c.names▸hm)).trans (x.upto m (c.names▸hm))⟩
theorem a0T {a l b:List (Nat×bV)} (nd:(bF (a++(l++b))).Nodup):(bF l).Nodup:=by
 rw[dM,dM]at nd
 exact(wK.1 (wK.1 nd).2.1).1
theorem qL (a b:List (List OV)):OV.cells (a++b)=OV.cells a++OV.cells b:=by simp[OV.cells]
theorem s4 (a b:List (List OV)):OV.bG (a++b)=OV.bG a++OV.bG b:=OV.k7 a b
theorem mQ (e:List OV) (b:List (List OV)):OV.bG (e::b)=OV.bY e++OV.bG b:=by rw[OV.bG]
theorem qH.up {g:aB} {l:List (Nat×bV)} {n:Nat} {o:bV} (ow:qH g l) (hn:g n=none):qH (aU g n o) l:=λp hp=>by
 have:p.1≠n:=λe=>by have:=ow p hp;rw[e,hn]at this;cases this
 rw[aC _ _ _ _ this];exact ow p hp
theorem fH.un0 {g h':aB} {l:List (Nat×bV)}  (x:fH g l h'):∃ g',h'=g'/\fH g l g':=by
 exact⟨h',rfl,x⟩
theorem aH.wn0 {P:Program} {f:FuncId} {args:List aE} {Q:aE->List (Nat×bV)->Prop} {K:aE->aB->Prop} {t:Tag K} {g:aB} (a:FnN P f args Q)  (k:∀ r l g',Q r l->fH g l g'->K r g'):aH P f args g K t :=
 aH.gV (a _) λr h' ⟨l,q,hq⟩=>by
  obtain⟨g',e0,q2⟩:=hq.un0;subst e0
  exact k r l _ q q2
theorem aH.wl0 {P:Program} {f:FuncId} {args args':List aE} {Q:aE->List (Nat×bV)->Prop} {K:aE->aB->Prop} {t:Tag K} {g:aB} (a:FnN P f args' Q) (hv:lQ g args args') (hQ:aNW Q)  (k:∀ r l g',Q r l->fH g l g'->K r g'):aH P f args g K t :=
 aH.gV (a.a33 hv hQ) λr h' ⟨l,q,hq⟩=>by
  obtain⟨g',e0,q2⟩:=hq.un0;subst e0
  exact k r l _ q q2
theorem fH.un1 {g h':aB} {n0:Nat} {o0:bV} {l:List (Nat×bV)} (h0:g n0=none) (x:fH (aU g n0 o0) l h'):∃ g',h'=(aU g' n0 o0)/\fH g l g'/\g' n0=none:=by
 exact x.under h0
theorem aH.wn1 {P:Program} {f:FuncId} {args:List aE} {Q:aE->List (Nat×bV)->Prop} {K:aE->aB->Prop} {t:Tag K} {g:aB} {n0:Nat} {o0:bV} (a:FnN P f args Q) (h0:g n0=none) (k:∀ r l g',Q r l->fH g l g'->g' n0=none->K r (aU g' n0 o0)):aH P f args (aU g n0 o0) K t :=
 aH.gV (a _) λr h' ⟨l,q,hq⟩=>by
  obtain⟨g',rfl,q2,z0⟩:=hq.un1 h0
  exact k r l _ q q2 z0
def aUE (w:aE->aE):Prop:=∀ (E:Env) (h g:aB) (W:World) (x y:aE) (v:Value),(∀ b,nX E h W b->nX E g W b)->(∀ u,fC E h W x u->fC E g W y u)->fC E h W (w x) v->fC E g W (w y) v
theorem dV.hole {E:Env} {h g:aB} {W:World} {x y:aE} (hi:∀ b,nX E h W b->nX E g W b) (hr:∀ u,fC E h W x u->fC E g W y u):∀ (a b:List aE) (vs:List Value),dV E h W (a++x::b) vs->dV E g W (a++y::b) vs
 | [],b,v::vs,r=>⟨hr v r.1,dV.pD hi r.2⟩
 |z::a,b,v::vs,r=>⟨r.1.pD hi,dV.hole hi hr a b vs r.2⟩
 | [],b,[],r=>r.elim
 |z::a,b,[],r=>r.elim
theorem aDL (a b:List aE):aUE λx=>.gU (a++x::b):=λE h g W x y v hi hr r=>by
 generalize hc:a++x::b=cs at r
 cases r with
 |gU _ vs hl hrr =>
  subst hc
  have:=dV.hole hi hr a b vs (dV.mk hl hrr)
  exact .gU _ vs this.length this.get
theorem QS.bFN {P:Program} {f:FuncId} {args:List aE} {R:OV->Prop} {w:aE->aE} {d:aE} (a:FnN P f args (QS R w)) (hd:∀ y,R y->y.qG=d) (hw:aUE w):fE P f args (w d) :=
 a.dI λr' l ⟨y,hy,e1,e2⟩ E W v h' ho R' rx=>by
  subst e1 e2
  rw[←hd y hy]
  exact hw E h' _ W y.val y.qG v (λb=>pV _ b) (λu ru=>fC.aBK R' y ho (λp hp=>dF.2 ⟨p.2,hp⟩) u ru) rx
def fT (sz len:Nat):Option Nat->aE
 |none=>.sl sz [] true
 |some n=>.os n sz 0 len
def cP (h:aB) (o:bV):Option Nat->aB
 |none=>h
 |some n=>aU h n o
theorem bE (sz len:Nat):fT sz len none=.sl sz [] true:=rfl
theorem aR (sz len n:Nat):fT sz len (some n)=.os n sz 0 len:=rfl
theorem aL (h:aB) (o:bV):cP h o none=h:=rfl
theorem aJ (h:aB) (o:bV) (n:Nat):cP h o (some n)=aU h n o:=rfl
theorem jC {h:aB} {n b:Nat} {o r:bV} (hn:h n=none):(aU h b r).le (aU (aU (aU h n o) n .gone) b r):=λm=>by
 by_cases e:m=b
 ·subst e;right;simp
 ·rw[aC _ _ _ _ e,aC _ _ _ _ e]
  by_cases e2:m=n
  ·subst e2;exact .inl hn
  ·right;rw[aC _ _ _ _ e2,aC _ _ _ _ e2]
def eM {α:Type} (h:aB) (l:List α):Option Nat->Prop
 |none=>l=[]
 |some n=>h n=none
theorem aY {α:Type} (h:aB) (l:List α):eM h l none=(l=[]):=rfl
theorem aQ {α:Type} (h:aB) (l:List α) (n:Nat):eM h l (some n)=(h n=none):=rfl
theorem grown {α:Type} {c:α->aE} {h:aB} {sz:Nat} {l:List α} {o:Option Nat} (hs:eM h l o) :
  ∃ y:OV,OS (oP c) sz l y/\y.val=fT sz l.length o/\fH h y.rows (cP h (.row sz ((l.map λx=>[c x]).map (List.map .v))) o):=by
 cases o with
 |none=>exact⟨.nil sz,.inl ⟨rfl,hs⟩,rfl,by rw[OV.qK];exact fH.nil h⟩
 |some n =>
  refine⟨.sl n sz (l.map λx=>[.v (c x)]),OS.mk (zY l),by simp[OV.val,fT],?_⟩
  rw[OV.eD,gP,fQ]
  exact fH.one hs
theorem dZ {α:Type} (c:α->aE) (l:List α) (x:α):List.take l.length ((l.map λx=>[c x]).map (List.map Cell.v))++[[Cell.v (c x)]]=((l++[x]).map λx=>[c x]).map (List.map .v):=by
 rw[nI dG]
 simp
theorem View.ovD {h:aB} {d:aE} (y:OV) (hd:y.qG=d) (ho:qH h y.rows):View h y.val d:=hd▸View.ov y ho
theorem aXP {α:Type} {c:α->aE} {l:List α} {sz:Nat} {h:aB} (e:(l.map λx=>[c x])=[]):∃ r1 g l1,Shift .bS h r1 g/\QS (OS (oP c) sz l) (λx=>x) r1 l1/\fH h l1 g:=by
 obtain rfl:l=[]:=by simpa using e
 exact⟨_,_,_,Shift.of (Sub.nil sz true) (aB.le_refl _),⟨.nil sz,OS.nil,rfl,rfl⟩,by rw[OV.qK];exact fH.nil h⟩
theorem aXQ {α:Type} {c:α->aE} {l:List α} {sz:Nat} {h:aB} (e:(l.map λx=>[c x])=[]):∃ r1 g l1,Shift (.sl sz [] true) h r1 g/\QS (OS (oP c) sz l) (λx=>x) r1 l1/\fH h l1 g:=by
 obtain rfl:l=[]:=by simpa using e
 exact⟨_,_,_,cD _ _,⟨.nil sz,OS.nil,rfl,rfl⟩,by rw[OV.qK];exact fH.nil h⟩
theorem vE {α:Type} {c:α->aE} {l:List α} {sz n:Nat} {h:aB} (hn:h n=none) :
  ∃ r1 g l1,Shift (.os n sz 0 l.length) (aU h n (.row sz ((l.map λx=>[c x]).map (List.map .v)))) r1 g/\QS (OS (oP c) sz l) (λx=>x) r1 l1/\fH h l1 g:=by
 refine⟨_,_,_,cD _ _,⟨.sl n sz (l.map λx=>[.v (c x)]),OS.mk (zY l),by simp[OV.val],rfl⟩,?_⟩
 rw[OV.eD,gP,fQ]
 exact fH.one hn
def jN (sz len:Nat):Option Nat->aE
 |none=>.bS
 |some n=>.os n sz 0 len
theorem mR (sz len:Nat):jN sz len none=.bS:=rfl
theorem cK (sz len n:Nat):jN sz len (some n)=.os n sz 0 len:=rfl
def yV (g:aB) (es:List (List OV)):Option Nat->Prop
 |none=>es=[]
 |some n=>g n=none
theorem mB (g:aB) (es:List (List OV)):yV g es none=(es=[]):=rfl
theorem jY (g:aB) (es:List (List OV)) (n:Nat):yV g es (some n)=(g n=none):=rfl
def gov (sz:Nat) (es:List (List OV)):Option Nat->OV
 |none=>.nil sz
 |some n=>.sl n sz es
theorem aRQ (sz:Nat) (es:List (List OV)):gov sz es none=.nil sz:=rfl
theorem aI6 (sz:Nat) (es:List (List OV)) (n:Nat):gov sz es (some n)=.sl n sz es:=rfl
theorem aNY {α:Type} {R:α->List OV->Prop} {sz:Nat} {l:List α} {es:List (List OV)} {g:aB} {o:Option Nat} (h:OR R l es) (hs:yV g es o):OS R sz l (gov sz es o):=by
 cases o with
 |none=>rw[mB]at hs;subst hs;exact .inl ⟨rfl,by have:=h.length;simpa using this⟩
 |some n=>exact OS.mk h
theorem aXR {sz:Nat} {es:List (List OV)} {o:Option Nat}:Sub (jN sz es.length o) (gov sz es o).val:=by
 cases o with
 |none=>exact Sub.nil _ _
 |some n=>exact Sub.refl _
theorem aG1 {sz:Nat} {es:List (List OV)} {h g:aB} {o:Option Nat} (x:fH h (OV.bG es) g) (hs:yV g es o):fH h (gov sz es o).rows (cP g (.row sz (OV.cells es)) o):=by
 cases o with
 |none=>rw[mB]at hs;subst hs;rw[aRQ,OV.qK,aL];simpa[OV.bG]using x
 |some n=>rw[aI6,OV.eD,aJ];exact x.row hs
theorem eH (es:List (List OV)):List.take es.length (OV.cells es)=OV.cells es:=nI (by simp[OV.cells])
theorem jD (es:List (List OV)) (e:List OV):OV.cells (es++[e])=OV.cells es++[e.map λc=>Cell.v c.val]:=by rw[qL];rfl
theorem kK (e:List OV):OV.cells [e]=[e.map λc=>Cell.v c.val]:=rfl
theorem oA (sz len:Nat) (o:Option Nat):(jN sz len o).flat=true:=by cases o <;> rfl
theorem cO (es:List (List OV)):(OV.cells es).length=es.length:=by simp[OV.cells]
theorem fH.snoc {h g g1:aB} {es:List (List OV)} {e:List OV} (x:fH h (OV.bG es) g) (y:fH g (OV.bY e) g1):fH h (OV.bG (es++[e])) g1:=by
 rw[aLB];exact x.append y
theorem j5 {g:aB} {R:bV} {o:Option Nat} {m:Nat} (hg:g m=none) (hon:∀ n,o=some n->¬n=m):cP g R o m=none:=by
 cases o with
 |none=>exact hg
 |some n =>
  have:=hon n rfl
  rw[aJ,aC _ _ _ _ λe=>this e.symm];exact hg
theorem kL:OV.cells []=[]:=rfl
theorem b5 {n m:Nat} {g:aB} {x y:bV} (h:¬n=m):aU (aU g n x) m y=aU (aU g m y) n x:=by
 funext q;simp only[gB];split <;> split <;> simp_all
def aB.wk (g h:aB):Prop:=∀ E w,Rel E h w->Rel E g w/\∀ b,nX E h w b->nX E g w b
theorem aB.kR {g h:aB} (hl:g.le h):g.wk h:=λE w R=>⟨R.forget hl,λb i=>nX.le hl i⟩
theorem aB.wk.trans {a b c:aB} (x:a.wk b) (y:b.wk c):a.wk c:=λE w R =>
 ⟨(x E w (y E w R).1).1,λd i=>(x E w (y E w R).1).2 d ((y E w R).2 d i)⟩
theorem aB.wk.ev {g h:aB} (x:g.wk h) {E:Env} {w:World} (R:Rel E h w):Ev E h w E g w :=
 ⟨bX _,λb hb=>⟨rfl,(x E w R).2 b hb⟩,λ_ _=>rfl,λ_ hn=>⟨rfl,hn⟩,rfl,rfl⟩
theorem pT.wk {P:Program} {N:Nat} {c:Code} {Q:Exit->bP->aB->Prop} {τ:bP} {h g:aB} (hl:g.wk h) (x:pT P N c Q τ g):pT P N c Q τ h :=
 λds E w a R r=>Code.wp_mono (λe a' w' y=>sE.trans (hl.ev R) y) (x ds E w a (hl E w R).1 (r.ev (hl.ev R)))
theorem pT.a34 {P:Program} {N:Nat} {c:Code} {Q:Exit->bP->aB->Prop} {τ:bP} {h:aB} {α:Type} (S:α->bP) (H:α->aB) (side:α->Prop) (μ:α->Nat) (x₀:α)
  (h₀:cR (S x₀) τ/\(H x₀).wk h/\side x₀)
  (round:∀ x,side x->pT P N c (wW (λτ' h'=>∃ x',cR (S x') τ'/\(H x').wk h'/\side x'/\μ x'<μ x) Q) (S x) (H x)):pT P N (.loop c) Q τ h :=
 pT.loop (λx τ h=>cR (S x) τ/\(H x).wk h/\side x) μ x₀ h₀ λx τ h ⟨h1,h2,h3⟩ =>
  pT.wk h2 (pT.weaken h1 (aB.le_refl _) ((round x h3).mono λe τ h q=>by
   cases e <;> simp only[wW]at q ⊢ <;> first|exact q|(obtain⟨x',a,b,c,d⟩:=q;exact⟨x',⟨a,b,c⟩,d⟩)))
theorem a34 {P:Program} {N:Nat} {keep ib:List Nat} {mk:Marks} {c:Code} {Q:Exit->bP->aB->Prop} {τ:bP} {h:aB} {t:Tag (Code.loop c,Q)} {α:Type} (hmix:P.follows .mixedOrders=true) (hc:gM N mk c=true) (S:α->bP) (H:α->aB) (side:α->Prop) (μ:α->Nat) (x₀:α)
  (h₀:cR (S x₀) τ/\(H x₀).wk h/\side x₀)
  (round:∀ x,side x->nJ P N keep ib mk c (λτ' h'=>∃ x',cR (S x') τ'/\(H x').wk h'/\side x'/\μ x'<μ x) Q (S x) (H x) ()):aE2 P N (.loop c) Q τ h t :=
 pT.a34 S H side μ x₀ h₀ λx hx=>aIY hmix c _ _ _ _ hc (round x hx)
theorem aE8 {P:Program} {N:Nat} (keep ib:List Nat) (mk:Marks) {c:Code} {Q:Exit->bP->aB->Prop} {τ:bP} {h:aB} {t:Tag (Code.loop c,Q)} {α:Type} (S:α->bP) (H:α->aB) (side:α->Prop) (μ:α->Nat) (x₀:α)
  (h₀:cR (S x₀) τ/\(H x₀).wk h/\side x₀)
  (round:∀ x,side x->nJ P N keep ib mk c (λτ' h'=>∃ x',cR (S x') τ'/\(H x').wk h'/\side x'/\μ x'<μ x) Q (S x) (H x) ()) (hmix:P.follows .mixedOrders=true:=by exact mix) (hc:gM N mk c=true:=by kernel_rfl):aE2 P N (.loop c) Q τ h t :=
 a34 (keep:=keep) (ib:=ib) (mk:=mk) hmix hc S H side μ x₀ h₀ round
def aAA (x y:Cell):Prop:=∀ E h w c S,wA E h w x c S->wA E h w y c S
theorem aAA.refl (x:Cell):aAA x x:=λ_ _ _ _ _ r=>r
theorem aAA.v {x y:aE} (s:Sub x y):aAA (.v x) (.v y):=λE h w c S r=>by
 cases r with
 |v _ _ _ h1 hx=>exact .v _ _ _ h1 (s _ _ _ _ hx)
def mZ:List (List Cell)->List (List Cell)->Prop
 | [],[]=>True
 |a::l,b::m=>(a.length=b.length/\∀ (j:Nat) (x:Cell),b[j]?=some x->∃ y,a[j]?=some y/\aAA y x)/\mZ l m
 | _,_=>False
theorem mZ.last {a b:List Cell} (hl:a.length=b.length) (hc:∀ (j:Nat) (x:Cell),b[j]?=some x->∃ y,a[j]?=some y/\aAA y x):∀ l,mZ (l++[a]) (l++[b])
 | []=>⟨⟨hl,hc⟩,trivial⟩
 |c::l=>⟨⟨rfl,λj x h=>⟨x,h,.refl x⟩⟩,mZ.last hl hc l⟩
theorem mZ.length:∀ {l m},mZ l m->l.length=m.length
 | [],[],_=>rfl
 |a::l,b::m,h=>by rw[tT,tT,mZ.length h.2]
 | [],_::_,h=>h.elim
 | _::_,[],h=>h.elim
theorem mZ.size {sz:Nat}:∀ {l m},mZ l m->(∀ e∈l,e.length=sz)->∀ e∈m,e.length=sz
 | [],[],_,_=>by simp
 |a::l,b::m,h,hs=>λe he=>by
  rcases mW.1 he with rfl|he
  ·rw[←h.1.1];exact hs a zD
  ·exact mZ.size h.2 (λe he=>hs e (v9 _ he)) e he
 | [],_::_,h,_=>h.elim
 | _::_,[],h,_=>h.elim
theorem mZ.iJ:∀ {l m} (i j:Nat) (x:Cell),mZ l m->Hl.iJ m i j=some x->∃ y,Hl.iJ l i j=some y/\aAA y x
 | [],[],i,j,x,_,h=>by simp[Hl.iJ]at h
 |a::l,b::m,0,j,x,w,h=>by simp only[Hl.iJ,aZ4,aZ5]at h ⊢;exact w.1.2 j x h
 |a::l,b::m,i+1,j,x,w,h=>by simp only[Hl.iJ,List.getElem?_cons_succ]at h ⊢;exact mZ.iJ i j x w.2 h
 | [],_::_,_,_,_,w,_=>w.elim
 | _::_,[],_,_,_,w,_=>w.elim
theorem aB.bFO {g h:aB} {m sz:Nat} {es es':List (List Cell)} (hg:∀ q,q≠m->g q=h q) (hm:h m=some (.row sz es)) (gm:g m=some (.row sz es')) (hw:mZ es es'):g.wk h:=λE w R=>by
 have live:∀ q o,g q=some o->∃ o',h q=some o'/\(o.live->o'.live):=λq o ho=>by
  by_cases e:q=m
  ·subst e;exact⟨_,hm,λ_=>trivial⟩
  ·rw[hg q e]at ho;exact⟨o,ho,id⟩
 have live':∀ q o,h q=some o->∃ o',g q=some o'/\(o.live->o'.live):=λq o ho=>by
  by_cases e:q=m
  ·subst e;exact⟨_,gm,λ_=>trivial⟩
  ·rw[←hg q e]at ho;exact⟨o,ho,id⟩
 have pD:∀ b,nX E h w b->nX E g w b:=λb i=>⟨i.1,λq o ho hl=>by
  obtain⟨o',h1,h2⟩:=live q o ho;exact i.2 q o' h1 (h2 hl)⟩
 refine⟨⟨R.fin,λn hn=>R.dom n λe=>?_,λn o b hn hl=>?_,λn o n' o' b hn hl hn' hl'=>?_,λn o hn=>?_,R.laid.pD pD⟩,pD⟩
 ·by_cases e2:n=m
  ·subst e2;rw[hm]at e;cases e
  ·rw[hg n e2]at hn;exact hn e
 ·obtain⟨o2,h1,h2⟩:=live n o hn
  exact R.lt n o2 b h1 (h2 hl)
 ·obtain⟨o2,h1,h2⟩:=live n o hn
  obtain⟨o3,h3,h4⟩:=live n' o' hn'
  exact R.apart n o2 n' o3 b h1 (h2 hl) h3 (h4 hl')
 ·by_cases e:n=m
  ·subst e
   rw[gm]at hn
   obtain rfl:=gH hn
   rcases R.obj n _ hm with⟨b,o2,hl,ra⟩|⟨he,hl⟩
   ·refine .inl ⟨b,o2,hl,ra.hb,hw.size ra.size,?_⟩
    obtain⟨cs,t,cv,T,h1,h2,h3,h4,h5,h6⟩:=ra.mem
    refine⟨cs,t,cv,T,h1,by rw[←hw.length];exact h2,h3,h4,λi j x hx=>?_,λi j x hx=>?_⟩
    ·obtain⟨y,hy,_⟩:=hw.iJ i j x hx;exact h5 i j y hy
    ·obtain⟨y,hy,hyx⟩:=hw.iJ i j x hx;exact(hyx _ _ _ _ _ (h6 i j y hy)).pD pD
   ·subst he
    have:es'=[]:=by have:=hw.length;simp at this;exact aGJ.1 this.symm
    exact .inr ⟨this,hl⟩
  ·rw[hg n e]at hn
   exact(R.obj n o hn).pD pD
theorem mZ.sub {xs ys:List aE} (s:aBU xs ys) (A:List (List Cell)):mZ (A++[xs.map .v]) (A++[ys.map .v]):=by
 refine mZ.last (by simpa using s.1) (λj x hx=>?_) A
 rw[qR,q0]at hx
 obtain⟨y,hy,rfl⟩:=hx
 have hlt:j<ys.length:=(iO.1 hy).1
 have hxl:j<xs.length:=by rw[s.1];exact hlt
 have hx2:xs[j]?=some xs[j]:=eY hxl
 exact⟨.v xs[j],by rw[qR,hx2];rfl,aAA.v (s.2 j _ _ hx2 hy)⟩
theorem fH.field {h g g':aB} {A l l' B:List (Nat×bV)} (x:fH h (A++(l++B)) g) (c:Chg g g' l l'):fH h (A++(l'++B)) g':=x.chg (Chg.mid x.oY x.nodup c)
abbrev Q4:=Option (Nat×Nat×Nat×Nat)
def q1:Q4->Option Nat|none=>none|some x=>some x.1
def q2:Q4->Option Nat|none=>none|some x=>some x.2.1
def q3:Q4->Option Nat|none=>none|some x=>some x.2.2.1
def q4:Q4->Option Nat|none=>none|some x=>some x.2.2.2
theorem OR.bMF {α:Type} {R:α->List OV->Prop} {x:α} {e:List OV} (h:R x e):∀ k,OR R (List.replicate k x) (List.replicate k e)
 |0=>trivial
 |k+1=>⟨h,OR.bMF h k⟩
theorem qM {α:Type} (c:α->aE) (l:List α) (k:Nat) (x:α):((l.map λx=>[c x]).map (List.map Cell.v)).set k [Cell.v (c x)]=((l.set k x).map λx=>[c x]).map (List.map Cell.v):=by
 rw[yS,yS,aHZ];rfl
theorem OR.y5 {α:Type} {c:α->aE}:∀ {l:List α} {es:List (List OV)},OR (oP c) l es->es=l.map λx=>[.v (c x)]
 | [],[],_=>rfl
 |x::l,e::es,h=>by rw[p5,←OR.y5 h.2,show e=[.v (c x)]from h.1]
 | [],_::_,h=>h.elim
 | _::_,[],h=>h.elim
theorem OS.y5 {α:Type} {c:α->aE} {sz:Nat} {l:List α} {y:OV} (h:OS (oP c) sz l y):(y=.nil sz/\l=[])∨∃ n,y=.sl n sz (l.map λx=>[.v (c x)]):=by
 rcases h with h|⟨n,es,rfl,h⟩
 ·exact .inl h
 ·exact .inr ⟨n,by rw[h.y5]⟩
theorem OV.iZ {α:Type} (c:α->aE) (n sz:Nat) (l:List α):(OV.sl n sz (l.map λx=>[.v (c x)])).val=.os n sz 0 l.length:=by rw[OV.z7,gT]
theorem fH.aXS {h g:aB} (e1:List OV) {e2:List OV} {n sz:Nat} {es:List (List OV)} (x:fH h (OV.bY (e1++OV.sl n sz es::e2)) g):g n=some (.row sz (OV.cells es)) :=
 x.oY (n,_) (by rw[OV.qJ,OV.eC,OV.eD];simp)
theorem a35 {P:Program} {N:Nat} {keep ib:List Nat} {mk:Marks} {c:Code} {Q:Exit->bP->aB->Prop} {τ:bP} {h:aB} {t:Tag (Code.loop c,Q)} {α:Type} (hmix:P.follows .mixedOrders=true) (hc:gM N mk c=true) (S:α->bP) (side:α->Prop) (μ:α->Nat) (x₀:α)
  (h₀:cR (S x₀) τ/\side x₀)
  (round:∀ x,side x->nJ P N keep ib mk c (λτ' h'=>∃ x',cR (S x') τ'/\h.le h'/\side x'/\μ x'<μ x) Q (S x) h ()):aE2 P N (.loop c) Q τ h t :=
 aQ8 hmix hc S (λ_=>h) side μ x₀ ⟨h₀.1,aB.le_refl _,h₀.2⟩ round
theorem uJ {h:aB} {n:Nat} {o:bV} (hn:h n=some o):aU h n o=h:=by
 funext q;simp only[gB];split
 ·subst_vars;exact hn.symm
 ·rfl
theorem a8R {P:Program} {N:Nat} {keep ib:List Nat} {mk:Marks} {c:Code} {Q:Exit->bP->aB->Prop} {τ:bP} {h:aB} {t:Tag (Code.loop c,Q)} {α:Type} (hmix:P.follows .mixedOrders=true) (hc:gM N mk c=true) (S:α->bP) (n:Nat) (R:α->bV) (side:α->Prop) (μ:α->Nat) (x₀:α)
  (h₀:cR (S x₀) τ/\h n=some (R x₀)/\side x₀)
  (round:∀ x,side x->nJ P N keep ib mk c (λτ' h'=>∃ x',cR (S x') τ'/\(aU h n (R x')).le h'/\side x'/\μ x'<μ x) Q (S x) (aU h n (R x)) ()):aE2 P N (.loop c) Q τ h t :=
 aQ8 hmix hc S (λx=>aU h n (R x)) side μ x₀ ⟨h₀.1,by simp only[uJ h₀.2.1];exact aB.le_refl _,h₀.2.2⟩ round
theorem aB.oB {g h:aB} {n:Nat} {o:bV} (hl:g.le h):(aU g n o).le (aU h n o):=λq=>by
 simp only[gB];split
 ·exact .inr rfl
 ·exact hl q
theorem View.box {T:List aE} {g:aB} {nb sz:Nat} {e:List OV} (hd:e.map OV.qG=T) (hn:g nb=none) (ho:qH g (OV.bY e)):View (aU g nb (.row sz (OV.cells [e]))) (.op nb sz 0 0) (.ip sz [T] 0 0):=by
 have:=View.op (h:=aU g nb (.row sz (OV.cells [e]))) (n:=nb) (sz:=sz) (i:=0) (off:=0) [e] (by rw[aI]) dG (by
  have h1:OV.bG [e]=OV.bY e:=by simp[OV.bG]
  rw[h1];exact ho.up hn)
 have h2:OV.lF [e]=[T]:=by rw[OV.kJ];simp[hd]
 rwa [h2]at this
theorem fH.le {h g:aB} {l:List (Nat×bV)} (w:fH h l g):h.le g:=λq=>by
 by_cases hq:q∈bF l
 ·exact .inl (w.fresh q hq)
 ·exact .inr (w.upto q hq).symm
theorem a0U {α:Type} {A B:List α} {x y:α}:(A++x::B).set A.length y=A++y::B:=by simp
theorem fH.bMG {h g g2:aB} (e1:List OV) {e2:List OV} {n sz:Nat} {es:List (List OV)} {k:Nat} {enew:List OV} (x:fH h (OV.bY (e1++OV.sl n sz es::e2)) g) (y:fH g (OV.bY enew) g2) (hk:k<es.length) :
  ∃ g3,g3.le (aU g2 n (.row sz (OV.cells (es.set k enew))))/\fH h (OV.bY (e1++OV.sl n sz (es.set k enew)::e2)) g3:=by
 obtain⟨A,old,B,rfl,hA⟩:∃ A old B,es=A++old::B/\A.length=k:=⟨es.take k,es[k],es.drop (k+1),by simp,by simp;omega⟩
 subst hA
 rw[a0U]
 have z:=x.append y
 rw[OV.qJ,OV.eC,OV.eD,s4,mQ]at z
 have z2:=z.perm (b:=OV.bY old++(OV.bY e1++((n,.row sz (OV.cells (A++old::B)))::(OV.bG A++(OV.bY enew++OV.bG B))++OV.bY e2))) (by
  classical
  rw[List.perm_iff_count]
  intro q
  simp only[List.count_append,aTV,List.count_cons]
  omega)
 have z3:=z2.drop
 refine⟨aU (qW g2 (bF (OV.bY old))) n (.row sz (OV.cells (A++enew::B))),aB.oB (a32 _ _),?_⟩
 rw[OV.qJ,OV.eC,OV.eD,s4,mQ]
 exact z3.field (l:=(n,.row sz (OV.cells (A++old::B)))::(OV.bG A++(OV.bY enew++OV.bG B))) (Chg.set z3.oY.right.left (a0T z3.nodup))
theorem aRR (es:List (List OV)) (k:Nat) (e:List OV) (c:List Cell) (hc:c=e.map λc=>Cell.v c.val):(OV.cells es).set k c=OV.cells (es.set k e):=by
 rw[hc,OV.cells,OV.cells,aHZ]
theorem aE9 {es:List (List OV)} {k:Nat} {e:List OV} (h:es[k]?=some e):(OV.cells es)[k]?=some (e.map λc=>Cell.v c.val):=by
 rw[OV.cells,qR,h];rfl
theorem OR.a8S {α:Type} {R:α->List OV->Prop}:∀ {l:List α} {es:List (List OV)},OR R l es->∀ (k:Nat) x,l[k]?=some x->∃ e,es[k]?=some e/\R x e
 | [],[],_,k,x,h=>by simp at h
 |a::l,b::es,h,0,x,e=>by simp at e;subst e;exact⟨b,rfl,h.1⟩
 |a::l,b::es,h,k+1,x,e=>OR.a8S h.2 k x (by simpa using e)
 | [],_::_,h,_,_,_=>h.elim
 | _::_,[],h,_,_,_=>h.elim
theorem OR.set {α:Type} {R:α->List OV->Prop}:∀ {l:List α} {es:List (List OV)},OR R l es->∀ (k:Nat) x e,R x e->OR R (l.set k x) (es.set k e)
 | [],[],_,k,x,e,_=>by simp[OR]
 |a::l,b::es,h,0,x,e,he=>⟨he,h.2⟩
 |a::l,b::es,h,k+1,x,e,he=>⟨h.1,OR.set h.2 k x e he⟩
 | [],_::_,h,_,_,_,_=>h.elim
 | _::_,[],h,_,_,_,_=>h.elim
theorem OS.some {α:Type} {R:α->List OV->Prop} {sz:Nat} {l:List α} {y:OV} (h:OS R sz l y) (hl:0<l.length):∃ n es,y=.sl n sz es/\OR R l es:=by
 rcases h with⟨_,h⟩|h
 ·rw[h]at hl;simp at hl
 ·exact h
def leX (S:List Nat) (g h:aB):Prop:=∀ q,q∉S->g q=none∨g q=h q
theorem nH {g h:aB} (x:leX [] g h):g.le h:=λq=>x q dG
theorem p7 (S:List Nat) (g:aB):leX S g g:=λq _=>.inr rfl
theorem sV {S:List Nat} {g h:aB} {n:Nat} {o:bV} (hn:h n=some o) (x:leX (n::S) g h):leX S (aU g n o) h:=λq hq=>by
 simp only[gB];split
 ·subst_vars;exact .inr hn.symm
 ·rename_i e;exact x q (by simp only[mW,not_or];exact⟨e,hq⟩)
theorem nV {S:List Nat} {g h:aB} {n:Nat} {o:bV} (hn:n∈S∨g n=none) (x:leX S g h):leX S g (aU h n o):=λq hq=>by
 simp only[gB];split
 ·subst_vars
  rcases hn with hn|hn
  ·exact absurd hn hq
  ·exact .inl hn
 ·exact x q hq
theorem aB.le_none {g h:aB} (hl:g.le h) {n:Nat} (hn:h n=none):g n=none:=by
 rcases hl n with e|e
 ·exact e
 ·rw[e,hn]
theorem iV.wk {P:Program} {f:FuncId} {args:List aE} {g h:aB} {K:aE->aB->Prop} (hl:g.wk h) (a:iV P f args g K):iV P f args h K :=
 ⟨a.1,λE w vs R r=>by
  obtain⟨R',hi⟩:=hl E w R
  exact(a.2 E w vs R' (dV.pD hi r)).mono λe w' q=>by
   cases e with
   |returned v =>
    obtain⟨r,h',E',k,ev,R2,r2⟩:=q
    exact⟨r,h',E',k,(hl.ev R).trans ev,R2,r2⟩
   | _=>exact q.elim⟩
theorem aH.wk {P:Program} {f:FuncId} {args:List aE} {g h:aB} {K:aE->aB->Prop} {t:Tag K} (hl:g.wk h) (a:aH P f args g K t):aH P f args h K t:=iV.wk hl a
theorem iV.shift {P:Program} {f:FuncId} {args:List aE} {h:aB} {K K':aE->aB->Prop} (a:iV P f args h K') (hk:∀ r h',K' r h'->∃ g:aB,g.wk h'/\K r g):iV P f args h K :=
 ⟨a.1,λE w vs R r=>by
  exact(a.2 E w vs R r).mono λe w' q=>by
   cases e with
   |returned v =>
    obtain⟨r,h',E',k,ev,R2,r2⟩:=q
    obtain⟨g,hg,k'⟩:=hk r h' k
    obtain⟨R3,hi⟩:=hg E' w' R2
    exact⟨r,g,E',k',ev.trans (hg.ev R2),R3,fC.pD hi r2⟩
   | _=>exact q.elim⟩
def upL (c:List Int) (k:Nat):List Int:=c.take k++List.replicate (c.length-k) 0
theorem aDM (c:List Int):upL c 0=List.replicate c.length 0:=by simp[upL]
theorem aG2 (c:List Int):upL c c.length=c:=by simp[upL]
theorem aG3 (c:List Int) {k:Nat} (hk:k<=c.length):(upL c k).length=c.length:=by simp[upL];omega
theorem aG4 {c:List Int} {k:Nat} (hk:k<c.length):(upL c k)[k]?=some 0:=by
 have h1:(c.take k).length=k:=by rw[mX];omega
 rw[upL,v8 aA,h1,sU,tY,if_pos aA]
theorem aG5 {c:List Int} {k:Nat} (hk:k<c.length):(upL c k).set k c[k]=upL c (k+1):=by
 have h1:(c.take k).length=k:=by rw[mX];omega
 rw[upL,upL,List.set_append_right _ _ aA,h1,sU,jF hk,show c.length-k=(c.length-(k+1))+1 by omega,aGH,aV0,aNB,List.singleton_append]
theorem vF (n:Nat):(List.replicate n [aE.int .i64 0]).map (List.map Cell.v)=((List.replicate n (0:Int)).map λn=>[aE.int .i64 n]).map (List.map Cell.v):=by simp
theorem sM {P:Program} {N:Nat} (keep ib:List Nat) (mk:Marks) {c:Code} {Q:Exit->bP->aB->Prop} {τ:bP} {h:aB} {t:Tag (Code.loop c,Q)} {α:Type} (S:α->bP) (side:α->Prop) (μ:α->Nat) (x₀:α) (h₀:cR (S x₀) τ/\side x₀) (round:∀ x,side x->nJ P N keep ib mk c (λτ' h'=>∃ x',cR (S x') τ'/\h.le h'/\side x'/\μ x'<μ x) Q (S x) h ()) (hmix:P.follows .mixedOrders=true:=by exact mix) (hc:gM N mk c=true:=by kernel_rfl):aE2 P N (.loop c) Q τ h t :=
 a35 (keep:=keep) (ib:=ib) (mk:=mk) hmix hc S side μ x₀ h₀ round
theorem aFA {P:Program} {N:Nat} (keep ib:List Nat) (mk:Marks) {c:Code} {Q:Exit->bP->aB->Prop} {τ:bP} {h:aB} {t:Tag (Code.loop c,Q)} {α:Type} (S:α->bP) (n:Nat) (R:α->bV) (side:α->Prop) (μ:α->Nat) (x₀:α) (h₀:cR (S x₀) τ/\h n=some (R x₀)/\side x₀) (round:∀ x,side x->nJ P N keep ib mk c (λτ' h'=>∃ x',cR (S x') τ'/\(aU h n (R x')).le h'/\side x'/\μ x'<μ x) Q (S x) (aU h n (R x)) ()) (hmix:P.follows .mixedOrders=true:=by exact mix) (hc:gM N mk c=true:=by kernel_rfl):aE2 P N (.loop c) Q τ h t :=
 a8R (keep:=keep) (ib:=ib) (mk:=mk) hmix hc S n R side μ x₀ h₀ round
theorem bTE {P:Program} {f:FuncId} {fn:Func} {c:Code} (N:Nat) (keep ib:List Nat) (mk:Marks) {args:List aE} {h:aB} {K:aE->aB->Prop} (hmix:P.follows .mixedOrders=true) (hf:P.funcs[f]?=some fn) (hb:fn.body=some c)
  (hck:(iY P f && decide (fn.ntmps=N) && gM N mk c)=true) (hl:args.length<=N)
  (hw:nJ P N keep ib mk c (λτ h'=>lW P fn.results (λr h'=>∃ r1 g,Shift r h' r1 g/\K r1 g) () .normal τ h') (lW P fn.results (λr h'=>∃ r1 g,Shift r h' r1 g/\K r1 g) ()) (o7 0 args) h ()):iV P f args h K :=
 uH (fn:=fn) (c:=c) (N:=N) (aIV N keep ib mk hmix hf hb hck hl (K':=λr h'=>∃ r1 g,Shift r h' r1 g/\K r1 g) (K:=λr h'=>∃ r1 g,Shift r h' r1 g/\K r1 g) hw λ_ h' hx=>⟨h',aB.le_refl _,hx⟩) λr h' hx=>hx
theorem dV.sC {E:Env} {h:aB} {w:World} (R:Rel E h w) {n sz:Nat} {es:List (List Cell)} (hn:h n=some (.row sz es)):∀ {xs:List aE} {vs:List Value},dV E h w xs vs->j6 n sz es.length xs=true->dV E (aU h n .gone) w (l5 n (eU es) xs) vs
 | [],[],_,_=>trivial
 |x::xs,v::vs,r,hb=>by
  simp only[j6,l7]at hb
  exact⟨r.1.sC R hn hb.1,dV.sC R hn r.2 hb.2⟩
 | [],_::_,r,_=>r.elim
 | _::_,[],r,_=>r.elim
theorem aH.a36 {P:Program} {f:FuncId} {args:List aE} {h:aB} {K:aE->aB->Prop} {t:Tag K} (n:Nat) {sz:Nat} {es:List (List Cell)} (hn:h n=some (.row sz es)) (hb:j6 n sz es.length args=true)
  (a:iV P f (l5 n (eU es) args) (aU h n .gone) K):aH P f args h K t :=
 ⟨a.1,λE w vs R r=>(a.2 E w vs (R.gone hn) (r.sC R hn hb)).mono λe w' q=>by
  cases e with
  |returned v =>
   obtain⟨r,h',E',k,ev,R2,r2⟩:=q
   exact⟨r,h',E',k,(Ev.gone n).trans ev,R2,r2⟩
  | _=>exact q.elim⟩
theorem mC {P:Program} {f:FuncId} {fn:Func} {c:Code} (N:Nat) (keep ib:List Nat) (mk:Marks) {args:List aE} {h:aB} {K:aE->aB->Prop} (hf:P.funcs[f]?=some fn) (hw:nJ P N keep ib mk c (λτ h'=>lW P fn.results (λr h'=>∃ r1 g,Shift r h' r1 g/\K r1 g) () .normal τ h') (lW P fn.results (λr h'=>∃ r1 g,Shift r h' r1 g/\K r1 g) ()) (o7 0 args) h ()) (hmix:P.follows .mixedOrders=true:=by exact mix) (hb:fn.body=some c:=by rfl) (hck:(iY P f && decide (fn.ntmps=N) && gM N mk c)=true:=by kernel_rfl) (hl:args.length<=N:=by simp):iV P f args h K :=
 bTE N keep ib mk hmix hf hb hck hl hw
def Cell.yX (n:Nat) (es:List (List aE)):Cell->Cell
 | .v x=>.v (x.fG n es)
 | .own sz ys=>.own sz ys
theorem aMF (m:Nat) (vs:List (List aE)) (es:List (List Cell)) (i j:Nat):iJ (es.map (List.map (Cell.yX m vs))) i j=(iJ es i j).map (Cell.yX m vs):=nF _ _ _ _
theorem aB.aYI {h:aB} {m b sz sz2:Nat} {es es2:List (List Cell)} (hm:h m=some (.row sz es)) (hb:h b=some (.row sz2 es2)) (hne:¬b=m) (hok:∀ i j x,iJ es2 i j=some (.v x)->jB m sz es.length x=true) :
  (aU (aU h m .gone) b (.row sz2 (es2.map (List.map (Cell.yX m (eU es)))))).wk h:=λE w R=>by
 have R1:=R.gone hm
 have s7:(aU h m .gone) b=some (.row sz2 es2):=by rw[aC _ _ _ _ hne];exact hb
 have h0:∀ b,nX E h w b->nX E (aU h m .gone) w b:=λb=>zG m b

 have hrow:=R.obj b _ hb
 have h1b:aH5 E h w ((E.loc b).getD (0,0)).1 ((E.loc b).getD (0,0)).2 sz2 es2 (E.fp b)∨es2=[]:=by
  rcases hrow with⟨k,o2,hlc,ra⟩|⟨he,_⟩
  ·left;rw[hlc];exact ra
  ·exact .inr he
 have R2:Rel E (aU (aU h m .gone) b (.row sz2 (es2.map (List.map (Cell.yX m (eU es)))))) w/\∀ q,nX E (aU h m .gone) w q->nX E (aU (aU h m .gone) b (.row sz2 (es2.map (List.map (Cell.yX m (eU es)))))) w q:=by
  have live:∀ q o,aU (aU h m .gone) b (.row sz2 (es2.map (List.map (Cell.yX m (eU es))))) q=some o->∃ o',(aU h m .gone) q=some o'/\(o.live->o'.live):=λq o ho=>by
   by_cases e:q=b
   ·subst e;exact⟨_,s7,λ_=>trivial⟩
   ·rw[aC _ _ _ _ e]at ho;exact⟨o,ho,id⟩
  have pD:∀ q,nX E (aU h m .gone) w q->nX E (aU (aU h m .gone) b (.row sz2 (es2.map (List.map (Cell.yX m (eU es)))))) w q:=λq i=>⟨i.1,λn o ho hl=>by
   obtain⟨o',h1,h2⟩:=live n o ho;exact i.2 n o' h1 (h2 hl)⟩
  refine⟨⟨R1.fin,λn hn=>R1.dom n λe=>?_,λn o c hn hl=>?_,λn o n' o' c hn hl hn' hl'=>?_,λn o hn=>?_,R1.laid.pD pD⟩,pD⟩
  ·by_cases e2:n=b
   ·subst e2;rw[s7]at e;cases e
   ·rw[aC _ _ _ _ e2]at hn;exact hn e
  ·obtain⟨o2,h1,h2⟩:=live n o hn
   exact R1.lt n o2 c h1 (h2 hl)
  ·obtain⟨o2,h1,h2⟩:=live n o hn
   obtain⟨o3,h3,h4⟩:=live n' o' hn'
   exact R1.apart n o2 n' o3 c h1 (h2 hl) h3 (h4 hl')
  ·by_cases e:n=b
   ·subst e
    rw[aI]at hn
    obtain rfl:=gH hn
    rcases hrow with⟨k,o2,hlc,ra⟩|⟨he,hlc⟩
    ·refine .inl ⟨k,o2,hlc,ra.hb,λe he=>?_,?_⟩
     ·obtain⟨e',he',rfl⟩:=lA.1 he
      rw[gT];exact ra.size e' he'
     obtain⟨cs,t,cv,T,h1,h2,h3,h4,h5,h6⟩:=ra.mem
     refine⟨cs,t,cv,T,h1,by rw[gT];exact h2,h3,h4,λi j x hx=>?_,λi j x hx=>?_⟩
     ·rw[aMF]at hx
      obtain⟨y,hy,rfl⟩:=q0.1 hx
      exact h5 i j y hy
     ·rw[aMF]at hx
      obtain⟨y,hy,rfl⟩:=q0.1 hx
      have hr:=h6 i j y hy
      cases y with
      |v y =>
       cases hr with
       |v _ _ _ k1 k2 =>
        exact .v _ _ _ k1 ((k2.sC R hm (hok i j y hy)).pD pD)
      |own s ys=>exact(hr.pD h0).pD pD
    ·subst he
     exact .inr ⟨rfl,hlc⟩
   ·rw[aC _ _ _ _ e]at hn
    exact(R1.obj n o hn).pD pD
 exact⟨R2.1,λq i=>R2.2 q (h0 q i)⟩
def oL {α:Type} (c:α->aE) (l:List α) (e:List OV):Prop:=∃ y,e=[y]/\OS (oP c) 1 l y
theorem bGD {α:Type} {c:α->aE} {l:List α} {e:List OV} (h:oL c l e):e.map OV.qG=[.sl 1 (l.map λx=>[c x]) false]:=by
 obtain⟨y,rfl,hy⟩:=h
 rw[p5,v7,OS.qG (c:=λx=>[c x]) (λ_ _ q=>aNU q) hy]
theorem fH.bDJ {α:Type} {c:α->aE} {h g:aB} {b k n:Nat} {es:List (List OV)} {l:List α} (X:fH h (OV.bY [OV.sl b 1 es]) g) (hk:es[k]?=some [OV.sl n 1 (l.map λx=>[.v (c x)])]) :
  g n=some (.row 1 ((l.map λx=>[c x]).map (List.map .v)))/\¬n=b:=by
 have hmem:(n,bV.row 1 ((l.map λx=>[c x]).map (List.map .v)))∈OV.bG es:=by
  refine OV.aBJ (rS hk) ?_
  rw[OV.eC,OV.hJ,dP,OV.eD,fQ]
  exact zD
 refine⟨X.oY (n,_) ?_,λe=>?_⟩
 ·rw[OV.eC,OV.hJ,dP,OV.eD]
  exact v9 _ hmem
 ·have nd:=X.nodup
  rw[OV.eC,OV.hJ,dP,OV.eD]at nd
  simp only[bF,p5,aFN]at nd
  refine nd.1 ?_
  rw[←e]
  exact lA.2 ⟨_,hmem,rfl⟩
theorem fH.bDK {α:Type} {c:α->aE} {h g F:aB} {b k m:Nat} {es:List (List OV)} {y:OV} {l:List α} {x:α} (X:fH h (OV.bY [OV.sl b 1 es]) g) (hk:es[k]?=some [y]) (hy:OS (oP c) 1 l y) (hm:g m=none)
  (hF:∀ q,(∀ n sz es,y=.sl n sz es->¬q=n)->F q=aU (aU g m (.row 1 (((l++[x]).map λx=>[c x]).map (List.map .v)))) b (.row 1 ((OV.cells es).set k [.v (.os m 1 0 (l.length+1))])) q) :
  ∃ g3:aB,g3.le F/\fH h (OV.bY [OV.sl b 1 (es.set k [OV.sl m 1 ((l++[x]).map λx=>[.v (c x)])])]) g3:=by
 have hlt:k<es.length:=(iO.1 hk).1
 have hY:fH g (OV.bY [OV.sl m 1 ((l++[x]).map λx=>[OV.v (c x)])]) (aU g m (.row 1 (((l++[x]).map λx=>[c x]).map (List.map .v)))):=by
  rw[OV.eC,OV.hJ,dP,OV.eD,gP,fQ]
  exact fH.one hm
 obtain⟨g3,h1,h2⟩:=fH.bMG (k:=k) [] X hY hlt
 refine⟨g3,λq=>?_,h2⟩
 have hcell:OV.cells (es.set k [OV.sl m 1 ((l++[x]).map λx=>[OV.v (c x)])])=(OV.cells es).set k [.v (.os m 1 0 (l.length+1))]:=by
  rw[←aRR es k _ _ rfl]
  simp[OV.val]
 rw[hcell]at h1
 by_cases hq:∀ n sz es,y=.sl n sz es->¬q=n
 ·rw[hF q hq];exact h1 q
 ·left
  have hq':∃ n sz es',y=.sl n sz es'/\q=n:=by
   by_cases e:∃ n sz es',y=.sl n sz es'/\q=n
   ·exact e
   ·exact absurd (λn sz es' hy' hqn=>e ⟨n,sz,es',hy',hqn⟩) hq
  obtain⟨n,sz,es',rfl,rfl⟩:=hq'

  obtain⟨A,B,rfl,hA⟩:∃ A B,es=A++[OV.sl q sz es']::B/\A.length=k:=by
   refine⟨es.take k,es.drop (k+1),?_,by rw[mX];omega⟩
   have:=iO.1 hk
   rw[←this.2];simp
  subst hA
  have e1:(A++[OV.sl q sz es']::B).set A.length [OV.sl m 1 ((l++[x]).map λx=>[OV.v (c x)])]=A++[OV.sl m 1 ((l++[x]).map λx=>[OV.v (c x)])]::B:=by simp
  simp only[dS]at h2
  rw[e1]at h2
  have nd:=X.nodup
  have hqn:q∈bF (OV.bY [OV.sl b 1 (A++[OV.sl q sz es']::B)]):=by
   rw[OV.eC,OV.eD,s4,mQ,OV.eC,OV.eD]
   simp[bF]
  have hgq:∃ o,g q=some o:=by
   obtain⟨o,ho⟩:=dF.1 hqn
   exact⟨o,X.oY (q,o) ho⟩
  have hqm:¬q=m:=λe=>by
   obtain⟨o,ho⟩:=hgq
   rw[e,hm]at ho;cases ho
  have hnot:q∉bF (OV.bY [OV.sl b 1 (A++[OV.sl m 1 ((l++[x]).map λx=>[OV.v (c x)])]::B)]):=by
   rw[OV.eC,OV.hJ,dP,OV.eD,s4,mQ,OV.eC,OV.hJ,dP,OV.eD]at nd ⊢
   rw[gP]
   simp only[bF,p5,lT,aFN,oW,mW,not_or,wK,v7,aP4,or_false]at nd ⊢
   obtain⟨⟨n1,n2⟩,n3,n4,n5⟩:=nd
   refine⟨λe=>n2.1.1 e.symm,λhqa=>n5 q hqa q (.inl (.inl rfl)) rfl,hqm,λhqb=>?_⟩
   exact n4.2.2 q (.inl rfl) q hqb rfl
  rw[h2.upto q hnot]
  exact X.fresh q hqn
end Go.Hl

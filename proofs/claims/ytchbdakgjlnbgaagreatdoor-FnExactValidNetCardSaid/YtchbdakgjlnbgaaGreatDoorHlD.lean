/-
  Contracts of functions and laws of the layer over the walk.
-/
import Derived.Test.YtchbdakgjlnbgaaGreatDoorHlC
import Derived.KernelRfl
import Derived.Sort.Grow
import Derived.Deep.Draws
import Derived.Below
import Derived.LaidLaws
import Derived.LaidHandle
import Derived.Stop.Joined
import Derived.Lib.LaidTab
import Derived.Shelf.Vars
namespace Go.Hl
set_option linter.unusedVariables false
set_option linter.unusedSimpArgs false
inductive OV where
 |v (x:aC)
 |nil (sz:Nat)
 |sl (n sz:Nat) (es:List (List OV))
def OV.val:OV->aC
 | .v x=>x
 | .nil sz=>.sl sz [] true
 | .sl n sz es=>.os n sz 0 es.length
mutual
def OV.u3:OV->aC
 | .v x=>x
 | .nil sz=>.sl sz [] false
 | .sl n sz es=>.sl sz (OV.k8 es) false
def OV.k8:List (List OV)->List (List aC)
 | []=>[]
 |e::es=>OV.aLW e::OV.k8 es
def OV.aLW:List OV->List aC
 | []=>[]
 |x::e=>x.u3::OV.aLW e
end
theorem OV.aC6:∀ (e:List OV),OV.aLW e=e.map OV.u3
 | []=>rfl
 |x::e=>by rw[OV.aLW,OV.aC6 e];rfl
theorem OV.qC:∀ (es:List (List OV)),OV.k8 es=es.map (List.map OV.u3)
 | []=>rfl
 |e::es=>by rw[OV.k8,OV.qC es,OV.aC6];rfl
def OV.cells (es:List (List OV)):List (List Cell):=es.map (List.map λc=>Cell.v c.val)
mutual
def OV.rows:OV->List (Nat×cF)
 | .v _=>[]
 | .nil _=>[]
 | .sl n sz es=>(n,.row sz (OV.cells es))::OV.cW es
def OV.cW:List (List OV)->List (Nat×cF)
 | []=>[]
 |e::es=>OV.cQ e++OV.cW es
def OV.cQ:List OV->List (Nat×cF)
 | []=>[]
 |x::e=>x.rows++OV.cQ e
end
theorem OV.aJ2:∀ {e:List OV} {x:OV} {p:Nat×cF},x∈e->p∈x.rows->p∈OV.cQ e
 |y::e,x,p,hx,hp=>by
  rw[OV.cQ]
  rcases p7.1 hx with rfl|hx
  ·exact aCH _ hp
  ·exact xV _ (OV.aJ2 hx hp)
def u4 (h:Heap) (l:List (Nat×cF)):Prop:=∀ p∈l,h p.1=some p.2
def o9 (h:Heap) (S:List Nat):Heap:=λm=>if m∈S then(h m).map λ_=>.gone else h m
theorem yM {h:Heap} {S:List Nat} {m:Nat} {o:cF} (hm:m∈S) (ho:o9 h S m=some o):o=.gone:=by
 simp only[o9,if_pos hm,xD]at ho
 obtain⟨_,_,rfl⟩:=ho;rfl
theorem tG {h:Heap} {S:List Nat} {m:Nat} (hm:m∉S):o9 h S m=h m:=by simp only[o9,if_neg hm]
theorem wB {E:Env} {h:Heap} {w:World} (S:List Nat) (b:Nat) (i:vO E h w b):vO E (o9 h S) w b :=
 ⟨i.1,λm o hm ho=>by
  by_cases e:m∈S
  ·rw[yM e hm]at ho;exact ho.elim
  ·rw[tG e]at hm;exact i.2 m o hm ho⟩
theorem aWV {E:Env} {h:Heap} {w:World} (R:Rel E h w) {S:List Nat} {n:Nat} (hS:n∈S) {x:cF} (hn:h n=some x) (hx:x.live) (b:Nat) (hb:E.fp n b):vO E (o9 h S) w b :=
 ⟨R.lt n x b hn hx hb,λm o hm ho hf=>by
  by_cases e:m∈S
  ·rw[yM e hm]at ho;exact ho.elim
  ·rw[tG e]at hm
   have:=R.apart m o n x b hm ho hn hx hf hb
   exact e (this▸hS)⟩
theorem Rel.o9 {E:Env} {h:Heap} {w:World} (R:Rel E h w) (S:List Nat):Rel E (o9 h S) w:=by
 refine⟨R.fin,λm hm=>?_,?_,?_,?_,R.laid.zW (wB S)⟩
 ·by_cases e:m∈S
  ·refine R.dom m λq=>hm ?_
   simp only[Hl.o9,if_pos e,q,bE5]
  ·rw[tG e]at hm;exact R.dom m hm
 ·intro m o b hm ho
  by_cases e:m∈S
  ·rw[yM e hm]at ho;exact ho.elim
  ·rw[tG e]at hm;exact R.lt m o b hm ho
 ·intro m o m' o' b hm ho hm' ho'
  by_cases e:m∈S
  ·rw[yM e hm]at ho;exact ho.elim
  ·by_cases e':m'∈S
   ·rw[yM e' hm']at ho';exact ho'.elim
   ·rw[tG e]at hm;rw[tG e']at hm';exact R.apart m o m' o' b hm ho hm' ho'
 ·intro m o hm
  by_cases e:m∈S
  ·rw[yM e hm];trivial
  ·rw[tG e]at hm;exact(R.obj m o hm).zW λb=>wB S b
theorem Ev.o9 {E:Env} {h:Heap} {w:World} (S:List Nat):Ev E h w E (o9 h S) w :=
 ⟨fL _,λb hb=>⟨rfl,wB S b hb⟩,λ_ _=>rfl,λ_ hn=>⟨rfl,hn⟩,rfl,rfl⟩
mutual
theorem fY.aNM {E:Env} {h:Heap} {w:World} (R:Rel E h w) {S:List Nat}:∀ (x:OV),u4 h x.rows->(∀ p∈x.rows,p.1∈S)->∀ v,fY E h w x.val v->fY E (Hl.o9 h S) w x.u3 v
 | .v x,_,_,v,r=>fY.zW (λb=>wB S b) r
 | .nil sz,_,_,v,r=>Sub.loose sz [] true _ _ _ _ (fY.zW (λb=>wB S b) (show fY E h w (.sl sz [] true) v from r))
 | .sl n sz es,ho,hS,v,r=>by
  have hn:h n=some (.row sz (OV.cells es)):=ho (n,_) (by rw[OV.rows];exact al5)
  have hnS:n∈S:=hS (n,_) (by rw[OV.rows];exact al5)
  simp only[OV.val]at r
  simp only[OV.u3]
  have hcells:∀ i j y,kE (OV.cells es) i j=some y->∃ c,kE es i j=some c/\y=.v c.val:=by
   intro i j y hy
   rw[OV.cells,wN]at hy
   obtain⟨c,hc,rfl⟩:=xD.1 hy
   exact⟨c,hc,rfl⟩
  have hdat:∀ i j y,kE (OV.k8 es) i j=some y->∃ c,kE es i j=some c/\y=c.u3:=by
   intro i j y hy
   rw[OV.qC,wN]at hy
   obtain⟨c,hc,rfl⟩:=xD.1 hy
   exact⟨c,hc,rfl⟩
  have hlen:(OV.k8 es).length=es.length:=by rw[OV.qC,k5]
  have key:∀ L,L=es.length->fY E h w (.os n sz 0 L) v->fY E (Hl.o9 h S) w (.sl sz (OV.k8 es) false) v:=by
   intro L hL r
   cases r with
   |os0 _ _ hd hl =>
    have:es=[]:=aPW hL.symm
    subst this
    exact .sl0 sz false none 0 (λ_=>rfl) (by simp[maxLen]) trivial
   |os _ _ _ _ b o cap t m hd hl hlc hmax hsh hm =>
    obtain⟨b',o',hl',hbS,hs,cs,ct,cv,T,hh,hm',hT,hD,hc,hrr⟩:=aEU R hn (.inr ⟨_,hl⟩)
    rw[hl]at hl'
    obtain⟨rfl,rfl⟩:=nI (dY hl')
    have himm:∀ c,E.fp n c->vO E (Hl.o9 h S) w c:=λc hc=>aWV R hnS hn trivial c hc
    have hcs:∀ i j y,kE (OV.k8 es) i j=some y->∃ c,kE es i j=some c/\y=c.u3/\cs[o+i*sz+j]?=some (cv i j)/\(cv i j).oneCell'=true/\fY E h w c.val (cv i j):=by
     intro i j y hy
     obtain⟨c,hc1,rfl⟩:=hdat i j y hy
     have hcell:kE (OV.cells es) i j=some (.v c.val):=by rw[OV.cells,wN,hc1];rfl
     have h2:=hrr i j _ hcell
     cases h2 with
     |v x c' S' h1 hx=>exact⟨c,hc1,rfl,hc i j _ hcell,h1,hx⟩
    have:=fY.sl (E:=E) (h:=Hl.o9 h S) (w:=w) sz (OV.k8 es) false b (o+0*sz) cap cv (himm b hbS) (by rw[hlen,←hL];exact hlc) hmax (λe=>by simp at e)
     (λe he=>by
      rw[OV.qC,vZ]at he
      obtain⟨e',he',rfl⟩:=he
      have:=hs (e'.map λc=>Cell.v c.val) (vZ.2 ⟨e',he',rfl⟩)
      simpa using this)
     (λi j y hy=>by
      obtain⟨c,_,_,h1,_,_⟩:=hcs i j y hy
      simp only[World.cell?,hh]
      rw[←h1]
      simp)
     (λi j y hy=>by obtain⟨c,_,_,_,h1,_⟩:=hcs i j y hy;exact h1)
     (λi j y hy=>by
      obtain⟨c,hc1,rfl,_,_,h1⟩:=hcs i j y hy
      obtain⟨e,he,hj⟩:=mY hc1
      exact aLX R es (λp hp=>ho p (by rw[OV.rows];exact al6 _ hp)) (λp hp=>hS p (by rw[OV.rows];exact al6 _ hp)) e (rS he) c (rS hj) _ h1)
    rw[hlen,←hL]at this
    exact this
  exact key _ rfl r
theorem aLX {E:Env} {h:Heap} {w:World} (R:Rel E h w) {S:List Nat}:∀ (es:List (List OV)),u4 h (OV.cW es)->(∀ p∈OV.cW es,p.1∈S)->∀ e∈es,∀ c∈e,∀ v,fY E h w c.val v->fY E (Hl.o9 h S) w c.u3 v
 | [],_,_,e,he,_,_,_,_=>by simp at he
 |a::es,ho,hS,e,he,c,hc,v,r=>by
  rcases p7.1 he with h1|h1
  ·rw[h1]at hc
   exact a1I R a (λp hp=>ho p (by rw[OV.cW];exact aCH _ hp)) (λp hp=>hS p (by rw[OV.cW];exact aCH _ hp)) c hc v r
  ·exact aLX R es (λp hp=>ho p (by rw[OV.cW];exact xV _ hp)) (λp hp=>hS p (by rw[OV.cW];exact xV _ hp)) e h1 c hc v r
theorem a1I {E:Env} {h:Heap} {w:World} (R:Rel E h w) {S:List Nat}:∀ (e:List OV),u4 h (OV.cQ e)->(∀ p∈OV.cQ e,p.1∈S)->∀ c∈e,∀ v,fY E h w c.val v->fY E (Hl.o9 h S) w c.u3 v
 | [],_,_,c,hc,_,_=>by simp at hc
 |a::e,ho,hS,c,hc,v,r=>by
  rcases p7.1 hc with h1|h1
  ·rw[h1]at r ⊢
   exact fY.aNM R a (λp hp=>ho p a89) (λp hp=>hS p a89) v r
  ·exact a1I R e (λp hp=>ho p a88) (λp hp=>hS p a88) c h1 v r
end
mutual
def aC.eQ:aC->Bool
 | .any | .bool _ | .int _ _ | .str _ | .lB | .aV | .xS | .lS | .rP=>true
 | .os _ _ _ _ | .op _ _ _ _ | .mp _=>true
 | .sl _ es _=>es.isEmpty
 | .agg cs=>aC.nO cs
 | .iF cs=>aC.nO cs
 | _=>false
def aC.nO:List aC->Bool
 | []=>true
 |x::xs=>x.eQ && aC.nO xs
end
theorem aC.aHI:∀ {l:List aC},aC.nO l=true->∀ (i:Nat) x,l[i]?=some x->x.eQ=true
 |y::l,h,0,x,hx=>by simp only[aC.nO,oN]at h;simp at hx;subst hx;exact h.1
 |y::l,h,i+1,x,hx=>by simp only[aC.nO,oN]at h;exact aC.aHI h.2 i x a0H
 | [],_,i,x,hx=>by simp at hx
def Cell.eQ:Cell->Bool
 | .v x=>x.eQ
 | .own _ _=>false
def cF.eQ:cF->Bool
 | .row _ es=>es.all λe=>e.all Cell.eQ
 | .map _ _ _=>false
 | .raw _ _=>true
 | .abs _=>true
 | .gone=>true
theorem fY.eQ {E E':Env} {h h':Heap} {w w':World} (hl:∀ n,E.used n->E'.loc n=E.loc n/\E'.used n) (hs:∀ b,b<w.heap.size->w'.shape? b=w.shape? b) {x:aC} {v:Value} (r:fY E h w x v) (hx:x.eQ=true):fY E' h' w' x v:=by
 induction r with
 |any v=>exact .any v
 |bool b=>exact .bool b
 |int k n=>exact .int k n
 |str s hl=>exact .str s hl
 |lB=>exact .lB
 |aV=>exact .aV
 |xS=>exact .xS
 |lS=>exact .lS
 |rP=>exact .rP
 |sl0 sz t a cap ht hmax ha=>exact .sl0 sz t a cap ht hmax ha
 |sl sz es t b o cap cv hi hcap hmax ht hs' hc h1 hr ih =>
  simp only[aC.eQ,List.isEmpty_iff]at hx
  subst hx
  exact .sl0 sz t _ cap (λe=>by have:=ht e;simpa using this) hmax trivial
 |ip sz es i off b o cv hi hs' hc h1 hr ih=>simp[aC.eQ]at hx
 |os n sz i len b o cap t m hd hl' hlc hmax hsh hm=>exact .os n sz i len b o cap t m (hl n hd).2 ((hl n hd).1.trans hl') hlc hmax ((hs b (aP8 hsh)).trans hsh) hm
 |os0 n sz hd hl'=>exact .os0 n sz (hl n hd).2 ((hl n hd).1.trans hl')
 |op n sz i off b o hd hl'=>exact .op n sz i off b o (hl n hd).2 ((hl n hd).1.trans hl')
 |agg cs vs hle hr ih=>exact .agg cs vs hle λi x v a b=>ih i x v a b (aC.aHI (by simpa only[aC.eQ]using hx) i x a)
 |iF cs vs hle hr ih=>exact .iF cs vs hle λi x v a b=>ih i x v a b (aC.aHI (by simpa only[aC.eQ]using hx) i x a)
 |fn f cs ds vs us hle hr hle' hr' ih ih'=>simp[aC.eQ]at hx
 |iface t x v hr ih=>simp[aC.eQ]at hx
 |mp n b o hd hl'=>exact .mp n b o (hl n hd).2 ((hl n hd).1.trans hl')
theorem aJI.eQ {E E':Env} {h h':Heap} {w w':World} (hl:∀ n,E.used n->E'.loc n=E.loc n/\E'.used n) (hs:∀ b,b<w.heap.size->w'.shape? b=w.shape? b) {n:Nat} {o:cF} (hn:E'.loc n=E.loc n) (hfp:E'.fp n=E.fp n)
  (hm:∀ b,E.fp n b->w'.heap[b]?=w.heap[b]?) (ho:o.eQ=true) (r:aJI E h w n o):aJI E' h' w' n o:=by
 cases o with
 |gone=>trivial
 |raw t cs=>obtain⟨b,hb,hf,hr⟩:=r;exact⟨b,hn.trans hb,by rw[hfp];exact hf,(hm b hf).trans hr⟩
 |abs Q=>obtain⟨b,hb,hf,w0,hq,ha⟩:=r;exact⟨b,hn.trans hb,by rw[hfp];exact hf,w0,by rw[hfp];exact hq,λc hc=>by rw[hfp]at hc;exact(hm c hc).trans (ha c hc)⟩
 |map _ _ _=>simp[cF.eQ]at ho
 |row sz es =>
  rcases r with⟨b,o',h1,h2⟩|⟨h1,h2⟩
  ·refine .inl ⟨b,o',hn.trans h1,?_⟩
   obtain⟨hb,hsz,cs,t,cv,T,hh,hle,hT,hD,hc,hr⟩:=h2
   rw[hfp]
   refine⟨hb,hsz,cs,t,cv,T,(hm b hb).trans hh,hle,hT,hD,hc,λi j x hx=>?_⟩
   have hsx:x.eQ=true:=by
    obtain⟨e,he,hj⟩:=mY hx
    have h3:=zV.1 ho e (rS he)
    exact zV.1 h3 x (rS hj)
   have hx':=hr i j x hx
   cases x with
   |own _ _=>simp[Cell.eQ]at hsx
   |v y =>
    generalize cv i j=cc at hx'
    cases hx' with
    |v _ _ _ h1' hy=>exact .v y _ _ h1' (hy.eQ hl hs hsx)
  ·exact .inr ⟨h1,hn.trans h2⟩
def OR {α:Type} (R:α->List OV->Prop):List α->List (List OV)->Prop
 | [],[]=>True
 |x::l,e::es=>R x e/\OR R l es
 | _,_=>False
def OS {α:Type} (R:α->List OV->Prop) (sz:Nat) (l:List α) (y:OV):Prop:=(y=.nil sz/\l=[])∨∃ n es,y=.sl n sz es/\OR R l es
def oP {α:Type} (c:α->aC) (x:α) (e:List OV):Prop:=e=[.v (c x)]
theorem OR.length {α:Type} {R:α->List OV->Prop}:∀ {l:List α} {es:List (List OV)},OR R l es->l.length=es.length
 | [],[],_=>rfl
 |x::l,e::es,h=>by simpa using OR.length h.2
 | [],_::_,h=>h.elim
 | _::_,[],h=>h.elim
theorem OR.get {α:Type} {R:α->List OV->Prop}:∀ {l:List α} {es:List (List OV)},OR R l es->∀ (i:Nat) x e,l[i]?=some x->es[i]?=some e->R x e
 |x::l,e::es,h,0,y,d,hy,hd=>by simp at hy hd;subst hy;subst hd;exact h.1
 |x::l,e::es,h,i+1,y,d,hy,hd=>OR.get h.2 i y d (by simpa using hy) (by simpa using hd)
 | [],[],_,i,y,d,hy,_=>by simp at hy
 | [],_::_,h,_,_,_,_,_=>h.elim
 | _::_,[],h,_,_,_,_,_=>h.elim
theorem OR.append {α:Type} {R:α->List OV->Prop}:∀ {l l':List α} {es es':List (List OV)},OR R l es->OR R l' es'->OR R (l++l') (es++es')
 | [],_,[],_,_,h=>h
 |x::l,_,e::es,_,a,h=>⟨a.1,OR.append a.2 h⟩
 | [],_,_::_,_,a,_=>a.elim
 | _::_,_,[],_,a,_=>a.elim
theorem OR.u3 {α:Type} {R:α->List OV->Prop} {c:α->List aC} (hR:∀ x e,R x e->e.map OV.u3=c x):∀ {l:List α} {es:List (List OV)},OR R l es->OV.k8 es=l.map c
 | [],[],_=>rfl
 |x::l,e::es,h=>by rw[OV.k8,OR.u3 hR h.2,OV.aC6,hR x e h.1];rfl
 | [],_::_,h=>h.elim
 | _::_,[],h=>h.elim
theorem OS.u3 {α:Type} {R:α->List OV->Prop} {c:α->List aC} {sz:Nat} {l:List α} {y:OV} (hR:∀ x e,R x e->e.map OV.u3=c x) (h:OS R sz l y):y.u3=.sl sz (l.map c) false:=by
 rcases h with⟨rfl,rfl⟩|⟨n,es,rfl,h⟩
 ·rfl
 ·simp only[OV.u3,OR.u3 hR h]
def cS (l:List (Nat×cF)):List Nat:=l.map (·.1)
def bSZ (S:List Nat) (h h':Heap):Prop:=∀ m,m∉S->h' m=h m
open Go.ChangeShapes Go.WideShapes
def rR {α:Type} (s:α->Nat) (l:List α):Nat:=l.length+(l.map s).sum
theorem fF {α:Type} (s:α->Nat) (l:List α):rR s l=l.length+(l.map s).sum:=rfl
theorem OV.kX:∀ (a b:List OV),OV.cQ (a++b)=OV.cQ a++OV.cQ b
 | [],b=>rfl
 |x::a,b=>by rw[aED,OV.cQ,OV.kX a b,OV.cQ,qT]
theorem OV.xJ:∀ (a b:List (List OV)),OV.cW (a++b)=OV.cW a++OV.cW b
 | [],b=>rfl
 |x::a,b=>by rw[aED,OV.cW,OV.xJ a b,OV.cW,qT]
theorem eG (a b:List (Nat×cF)):cS (a++b)=cS a++cS b:=tA
theorem eV {l:List (Nat×cF)} {m:Nat}:m∈cS l↔∃ o,(m,o)∈l:=by
 simp[cS]
structure eW (h:Heap) (l:List (Nat×cF)) (h':Heap):Prop where
 nodup:(cS l).Nodup
 fresh:∀ m∈cS l,h m=none
 oJ:u4 h' l
 upto:bSZ (cS l) h h'
theorem eW.nil (h:Heap):eW h [] h:=⟨List.nodup_nil,by simp[cS],by simp[u4],λm _=>rfl⟩
theorem eW.one {h:Heap} {n:Nat} {o:cF} (hn:h n=none):eW h [(n,o)] (bT h n o) :=
 ⟨by simp[cS],by simpa[cS]using hn,by simp[u4],λm hm=>aD _ _ _ _ (by simpa[cS]using hm)⟩
theorem eW.append {h h1 h2:Heap} {a b:List (Nat×cF)} (x:eW h a h1) (y:eW h1 b h2):eW h (a++b) h2:=by
 have dis:∀ m∈cS a,m∉cS b:=λm hm hb=>by
  obtain⟨o,ho⟩:=eV.1 hm
  have:=y.fresh m hb
  rw[x.oJ _ ho]at this;cases this
 refine⟨?_,?_,?_,?_⟩
 ·rw[eG]
  exact aDX.2 ⟨x.nodup,y.nodup,λp hp q hq e=>dis p hp (e▸hq)⟩
 ·intro m hm
  rw[eG,pH]at hm
  by_cases hb:m∈cS a
  ·exact x.fresh m hb
  ·rcases hm with hm|hm
   ·exact absurd hm hb
   ·rw[←x.upto m hb];exact y.fresh m hm
 ·intro p hp
  rcases pH.1 hp with hp|hp
  ·have:p.1∈cS a:=eV.2 ⟨p.2,hp⟩
   rw[y.upto p.1 (dis _ this)];exact x.oJ p hp
  ·exact y.oJ p hp
 ·intro m hm
  rw[eG,pH]at hm
  rw[y.upto m λq=>hm (.inr q),x.upto m λq=>hm (.inl q)]
theorem eW.perm {h h':Heap} {a b:List (Nat×cF)} (x:eW h a h') (p:a.Perm b):eW h b h' :=
 ⟨(p.map _).nodup_iff.1 x.nodup,λm hm=>x.fresh m (((p.map (·.1)).mem_iff).2 hm),λq hq=>x.oJ q (p.mem_iff.2 hq),λm hm=>x.upto m λq=>hm (((p.map (·.1)).mem_iff).1 q)⟩
theorem eW.set {h h':Heap} {n:Nat} {o o':cF} {l:List (Nat×cF)} (x:eW h ((n,o)::l) h'):eW h ((n,o')::l) (bT h' n o'):=by
 have hnd:=x.nodup
 have hn:n∉cS l:=by
  have:(cS ((n,o)::l)).Nodup:=hnd
  simp only[cS,lU,aZN]at this
  exact this.1
 refine⟨hnd,x.fresh,?_,λm hm=>?_⟩
 ·intro p hp
  rcases p7.1 hp with rfl|hp
  ·exact bG _ _ _
  ·have:p.1≠n:=λe=>hn (e▸eV.2 ⟨p.2,hp⟩)
   rw[aD _ _ _ _ this];exact x.oJ p (al6 _ hp)
 ·have:m≠n:=λe=>hm (by subst e;simp[cS])
  rw[aD _ _ _ _ this];exact x.upto m hm
def u5 (h:Heap) (S:List Nat):Heap:=λm=>if m∈S then none else h m
theorem aQ3 (h:Heap) (S:List Nat):(u5 h S).le h:=λm=>by
 by_cases e:m∈S
 ·exact .inl (if_pos e)
 ·exact .inr (if_neg e)
theorem eW.drop {h h':Heap} {a b:List (Nat×cF)} (x:eW h (a++b) h'):eW h b (u5 h' (cS a)):=by
 have hnd:=x.nodup
 rw[eG]at hnd
 obtain⟨_,nb,dis⟩:=aDX.1 hnd
 refine⟨nb,λm hm=>x.fresh m (by rw[eG];exact xV _ hm),λp hp=>?_,λm hm=>?_⟩
 ·have:p.1∉cS a:=λq=>dis _ q _ (eV.2 ⟨p.2,hp⟩) rfl
  simp only[u5,if_neg this]
  exact x.oJ p (xV _ hp)
 ·by_cases e:m∈cS a
  ·simp only[u5,if_pos e]
   exact(x.fresh m (by rw[eG];exact aCH _ e)).symm
  ·simp only[u5,if_neg e]
   exact x.upto m (by rw[eG];simp[e,hm])
theorem bGN {P:Program} {f:FuncId} {args:List aC} {r:aC} {K:aC->Heap->Prop} (h:Heap) (a:gK P f args h K)
  (hk:∀ r' h',K r' h'->∃ l,eW h l h'/\∀ E w v,Rel E h' w->fY E h' w r' v->fY E (o9 h' (cS l)) w r v):gK P f args h λr' h'=>r'=r/\h'=h :=
 ⟨a.1,λE w vs R hv=>Calls.mono (a.2 E w vs R hv) λe w' he=>by
  cases e <;> try exact he
  obtain⟨r',h',E',k,ev,R',rx⟩:=he
  obtain⟨l,nw,hr⟩:=hk r' h' k
  have hle:h.le (o9 h' (cS l)):=λm=>by
   by_cases e:m∈cS l
   ·exact .inl (nw.fresh m e)
   ·rw[tG e,nw.upto m e];exact .inr rfl
  refine⟨r,h,E',⟨rfl,rfl⟩,ev.trans ((Ev.o9 _).forget hle),(R'.o9 _).forget hle,?_⟩
  refine fY.zW (λb hb=>vO.le hle hb) (hr E' w' _ R' rx)⟩
theorem eT.aNM {E:Env} {h:Heap} {w:World} (R:Rel E h w) {S:List Nat}:∀ (e:List OV) (vs:List Value),u4 h (OV.cQ e)->(∀ p∈OV.cQ e,p.1∈S)->eT E h w (e.map OV.val) vs->eT E (o9 h S) w (e.map OV.u3) vs
 | [],[],_,_,_=>trivial
 |x::e,v::vs,ho,hS,hr=>⟨fY.aNM R x (λp hp=>ho p a89) (λp hp=>hS p a89) v hr.1,
   eT.aNM R e vs (λp hp=>ho p a88) (λp hp=>hS p a88) hr.2⟩
 | [],_::_,_,_,hr=>hr.elim
 | _::_,[],_,_,hr=>hr.elim
theorem fY.a1J {E:Env} {h:Heap} {w:World} (R:Rel E h w) {S:List Nat} (e:List OV) (v:Value) (ho:u4 h (OV.cQ e)) (hS:∀ p∈OV.cQ e,p.1∈S) (hr:fY E h w (.agg (e.map OV.val)) v):fY E (o9 h S) w (.agg (e.map OV.u3)) v:=by
 cases hr with
 |agg _ vs hl hr =>
  have:=eT.aNM R e vs ho hS (eT.mk hl hr)
  exact .agg _ vs this.length this.get
def oS {α:Type} (R:α->List OV->Prop) (sz:Nat) (l:List α) (e:List OV):Prop:=∃ y,e=[y]/\OS R sz l y
theorem zF {α:Type} {c:α->aC} {x:α} {e:List OV} (h:oP c x e):e.map OV.u3=[c x]:=by
 unfold oP at h;subst h;rfl
theorem bS0 {α:Type} {R:α->List OV->Prop} {c:α->List aC} {sz:Nat} {l:List α} {e:List OV} (hR:∀ x e,R x e->e.map OV.u3=c x) (h:oS R sz l e):e.map OV.u3=[.sl sz (l.map c) false]:=by
 obtain⟨y,rfl,h⟩:=h
 simp only[lU,tP,OS.u3 hR h]
structure aLY (h:Heap) (T:List Nat) (l:List (Nat×cF)) (h':Heap):Prop where
 nodup:(T++cS l).Nodup
 fresh:∀ m∈T++cS l,h m=none
 there:∀ m∈T,h' m≠none
 oJ:u4 h' l
 upto:bSZ (T++cS l) h h'
theorem aLY.bY8 {h h':Heap} {l:List (Nat×cF)} (x:aLY h [] l h'):eW h l h':=⟨x.nodup,x.fresh,x.oJ,x.upto⟩
theorem eW.toT {h h':Heap} {l:List (Nat×cF)} (x:eW h l h'):aLY h [] l h':=⟨x.nodup,x.fresh,by simp,x.oJ,x.upto⟩
theorem aLY.drop {h h':Heap} {T:List Nat} {l:List (Nat×cF)} (x:aLY h T l h'):eW h l (u5 h' T):=by
 obtain⟨_,nb,dis⟩:=aDX.1 x.nodup
 refine⟨nb,λm hm=>x.fresh m (xV _ hm),λp hp=>?_,λm hm=>?_⟩
 ·have:p.1∉T:=λq=>dis _ q _ (eV.2 ⟨p.2,hp⟩) rfl
  simp only[u5,if_neg this]
  exact x.oJ p hp
 ·by_cases e:m∈T
  ·simp only[u5,if_pos e]
   exact(x.fresh m (aCH _ e)).symm
  ·simp only[u5,if_neg e]
   exact x.upto m (by simp[e,hm])
theorem aLY.some {h h':Heap} {T:List Nat} {l:List (Nat×cF)} (x:aLY h T l h') {m:Nat} (hm:m∈T++cS l):h' m≠none:=by
 rcases pH.1 hm with hm|hm
 ·exact x.there m hm
 ·obtain⟨o,ho⟩:=eV.1 hm
  rw[x.oJ _ ho];simp
theorem aLY.row {h h':Heap} {T:List Nat} {l:List (Nat×cF)} (x:aLY h T l h') {n:Nat} {o:cF} (hn:h' n=none):aLY h T ((n,o)::l) (bT h' n o):=by
 have xT:n∉T++cS l:=λq=>x.some q hn
 have nd:=aDX.1 x.nodup
 refine⟨aDX.2 ⟨nd.1,?_,?_⟩,?_,?_,λp hp=>?_,λm hm=>?_⟩
 ·show(n::cS l).Nodup
  exact aZN.2 ⟨λq=>xT (xV _ q),nd.2.1⟩
 ·intro a ha b hb e
  have hb':b∈n::cS l:=hb
  rcases p7.1 hb' with rfl|hb'
  ·exact xT (e▸aCH _ ha)
  ·exact nd.2.2 a ha b hb' e
 ·intro m hm
  rcases pH.1 hm with hm|hm
  ·exact x.fresh m (aCH _ hm)
  ·have hm':m∈n::cS l:=hm
   rcases p7.1 hm' with rfl|hm'
   ·rw[←x.upto m xT];exact hn
   ·exact x.fresh m (xV _ hm')
 ·intro m hm
  have:m≠n:=λe=>xT (e▸aCH _ hm)
  rw[aD _ _ _ _ this];exact x.there m hm
 ·rcases p7.1 hp with rfl|hp
  ·exact bG _ _ _
  ·have:p.1≠n:=λe=>xT (e▸xV _ (eV.2 ⟨p.2,hp⟩))
   rw[aD _ _ _ _ this];exact x.oJ p hp
 ·have h1:m≠n:=λe=>hm (e▸xV _ a0J)
  rw[aD _ _ _ _ h1]
  refine x.upto m λq=>hm ?_
  rcases pH.1 q with q|q
  ·exact aCH _ q
  ·exact xV _ (al6 _ q)
theorem eW.keep {h h':Heap} {l:List (Nat×cF)} (x:eW h l h') {n:Nat} {o:cF} (hn:h n=some o):h' n=some o:=by
 rw[x.upto n λq=>by rw[x.fresh n q]at hn;cases hn];exact hn
theorem aLY.set {h h':Heap} {T:List Nat} {n:Nat} {o o':cF} {l:List (Nat×cF)} (x:aLY h T ((n,o)::l) h'):aLY h T ((n,o')::l) (bT h' n o'):=by
 have nd:=aDX.1 x.nodup
 have nd2:(n::cS l).Nodup:=nd.2.1
 refine⟨x.nodup,x.fresh,λm hm=>?_,λp hp=>?_,λm hm=>?_⟩
 ·by_cases e:m=n
  ·subst e;simp
  ·rw[aD _ _ _ _ e];exact x.there m hm
 ·rcases p7.1 hp with rfl|hp
  ·exact bG _ _ _
  ·have:p.1≠n:=λe=>(aZN.1 nd2).1 (e▸eV.2 ⟨p.2,hp⟩)
   rw[aD _ _ _ _ this];exact x.oJ p (al6 _ hp)
 ·have h1:m≠n:=λe=>hm (e▸xV _ a0J)
  rw[aD _ _ _ _ h1];exact x.upto m hm
theorem sE {α:Type} {c:α->aC}:∀ (l:List α),OR (oP c) l (l.map λx=>[.v (c x)])
 | []=>trivial
 |x::l=>⟨rfl,sE l⟩
theorem tH {α:Type} (c:α->aC) (l:List α):OV.cells (l.map λx=>[OV.v (c x)])=(l.map λx=>[c x]).map (List.map .v):=by
 simp[OV.cells,OV.val]
theorem wT {α:Type} (c:α->aC):∀ (l:List α),OV.cW (l.map λx=>[OV.v (c x)])=[]
 | []=>rfl
 |x::l=>by rw[lU,OV.cW,wT c l];rfl
theorem OV.bE (x:aC):(OV.v x).val=x:=rfl
theorem OS.flat {α:Type} {R:α->List OV->Prop} {sz:Nat} {l:List α} {y:OV} (h:OS R sz l y):y.val.flat=true:=by
 rcases h with⟨rfl,_⟩|⟨n,es,rfl,_⟩ <;> rfl
theorem OS.one {α:Type} {R:α->List OV->Prop} {sz:Nat} {l:List α} {y:OV} (h:OS R sz l y):y.val.cells=[y.val]:=by
 rcases h with⟨rfl,_⟩|⟨n,es,rfl,_⟩ <;> rfl
theorem aT0 (es:List (List OV)) (e:List OV):OV.cW (es++[e])=OV.cW es++OV.cQ e:=by
 rw[OV.xJ];simp only[OV.cW,wP]
def tU (P:Program) (f:FuncId) (args:List aC) (Q:aC->List (Nat×cF)->Prop):Prop:=∀ h:Heap,gK P f args h λr h'=>∃ l,Q r l/\eW h l h'
theorem eW.under {g h':Heap} {n:Nat} {o:cF} {l:List (Nat×cF)} (hg:g n=none) (x:eW (bT g n o) l h'):∃ g',h'=bT g' n o/\eW g l g'/\g' n=none:=by
 have hn:n∉cS l:=λq=>by have:=x.fresh n q;simp at this
 have hk:h' n=some o:=x.keep (bG _ _ _)
 refine⟨u5 h' [n],?_,⟨x.nodup,λm hm=>?_,λp hp=>?_,λm hm=>?_⟩,by simp[u5]⟩
 ·funext m
  by_cases e:m=n
  ·subst e;rw[bG,hk]
  ·rw[aD _ _ _ _ e];simp[u5,e]
 ·have e:m≠n:=λe=>hn (e▸hm)
  have:=x.fresh m hm
  rwa [aD _ _ _ _ e]at this
 ·have e:p.1≠n:=λe=>hn (e▸eV.2 ⟨p.2,hp⟩)
  have:u5 h' [n] p.1=h' p.1:=by simp[u5,e]
  rw[this];exact x.oJ p hp
 ·by_cases e:m=n
  ·subst e;rw[hg];simp[u5]
  ·have:u5 h' [n] m=h' m:=by simp[u5,e]
   rw[this,x.upto m hm,aD _ _ _ _ e]
section
variable {P:Program} {f:FuncId} {args:List aC} {Q:aC->List (Nat×cF)->Prop} {K:aC->Heap->Prop} {t:Tag K}
end
theorem b50 {P:Program} {f:FuncId} {fn:Func} {c:Code} (N:Nat) (keep ib:List Nat) (mk:Marks) {args:List aC} {Q:aC->List (Nat×cF)->Prop} (hmix:P.follows .mixedOrders=true) (hf:P.funcs[f]?=some fn) (hb:fn.body=some c)
  (hck:(jG P f && decide (fn.ntmps=N) && iV N mk c)=true) (hl:args.length<=N)
  (hw:∀ h,p2 P N keep ib mk c (λτ h'=>n9 P fn.results (λr h'=>∃ r1 g l,Shift r h' r1 g/\Q r1 l/\eW h l g) () .normal τ h') (n9 P fn.results (λr h'=>∃ r1 g l,Shift r h' r1 g/\Q r1 l/\eW h l g) ()) (rU 0 args) h ()):tU P f args Q:=by
 intro h
 have h1:gK P f args h (λr h'=>∃ r1 g l,Shift r h' r1 g/\Q r1 l/\eW h l g) :=
  gK.mono (bY6 (K:=λr h'=>∃ r1 g l,Shift r h' r1 g/\Q r1 l/\eW h l g) N keep ib mk hmix hf hb hck hl (by
   have:=hw h
   refine Eq.mp ?_ this
   have e:(λr h'=>∃ r1 g l,Shift r h' r1 g/\Q r1 l/\eW h l g)=(λr h'=>∃ g':Heap,g'.le h'/\∃ r1 g l,Shift r g' r1 g/\Q r1 l/\eW h l g):=by
    funext r h'
    refine propext ⟨λ⟨r1,g,l,s,q⟩=>⟨h',Heap.le_refl _,r1,g,l,s,q⟩,λ⟨g',hl,r1,g,l,s,q⟩=>⟨r1,g,l,(Shift.of (Sub.refl _) hl).trans s,q⟩⟩
   rw[e])) λr h' q=>q
 exact zD (fn:=fn) (c:=c) (N:=N) h1 λr h' ⟨r1,g,l,s,q,n⟩=>⟨r1,g,s,l,q,n⟩
theorem tU.eA {P:Program} {f:FuncId} {args:List aC} {Q:aC->List (Nat×cF)->Prop} {r:aC} (a:tU P f args Q)
  (hk:∀ r' l,Q r' l->∀ E w v h',u4 h' l->Rel E h' w->fY E h' w r' v->fY E (o9 h' (cS l)) w r v):dQ P f args r:=λh =>
 bGN h (a h) λr' h' ⟨l,q,hn⟩=>⟨l,hn,λE w v R rx=>hk r' l q E w v h' hn.oJ R rx⟩
theorem tU.sub {P:Program} {f:FuncId} {xs ys:List aC} {Q:aC->List (Nat×cF)->Prop} (s:bQ xs ys) (a:tU P f ys Q):tU P f xs Q:=λh=>gK.sub s (a h)
def vU (h:Heap):Heap:=λm=>(h m).map λ_=>.gone
theorem aC7 {h:Heap} {m:Nat} {o:cF} (ho:vU h m=some o):o=.gone:=by
 simp only[vU,xD]at ho
 obtain⟨_,_,rfl⟩:=ho;rfl
theorem aBV {E:Env} {h:Heap} {w:World} {b:Nat} (hb:b<w.heap.size):vO E (vU h) w b:=⟨hb,λm o hm ho=>by rw[aC7 hm]at ho;exact ho.elim⟩
theorem Rel.vU {E:Env} {h:Heap} {w:World} (R:Rel E h w):Rel E (vU h) w:=by
 refine⟨R.fin,λm hm=>R.dom m λq=>hm (by simp[Hl.vU,q]),?_,?_,?_,R.laid.zW λb hb=>aBV hb.1⟩
 ·intro m o b hm ho;rw[aC7 hm]at ho;exact ho.elim
 ·intro m o m' o' b hm ho;rw[aC7 hm]at ho;exact ho.elim
 ·intro m o hm;rw[aC7 hm];trivial
theorem gK.bPY {P:Program} {f:FuncId} {args args':List aC} {h:Heap} {K:aC->Heap->Prop} {K':aC->List (Nat×cF)->Prop}
  (hview:∀ E w vs,Rel E h w->eT E h w args vs->eT E (vU h) w args' vs) (a:gK P f args' (vU h) K)
  (hK:∀ r h',K r h'->∃ l,K' r l/\eW (vU h) l h'/\r.eQ=true/\∀ p∈l,p.2.eQ=true) :
  gK P f args h λr h'=>∃ l,K' r l/\eW h l h':=by
 refine⟨a.1,λE w vs R hv=>Calls.mono (a.2 E w vs R.vU (hview E w vs R hv)) λe w' he=>?_⟩
 cases e <;> try exact he
 obtain⟨r,h',E',k,ev,R',rx⟩:=he
 obtain⟨l,k',nw,hr,hsol⟩:=hK r h' k
 have hnew:∀ m∈cS l,h m=none:=λm hm=>by
  have:=nw.fresh m hm
  simpa[vU]using this
 let h2:Heap:=λm=>if m∈cS l then h' m else h m
 have e1:∀ m,m∈cS l->h2 m=h' m:=λm hm=>if_pos hm
 have e2:∀ m,m∉cS l->h2 m=h m:=λm hm=>if_neg hm
 let E2:Env:={ loc:=E'.loc,fp:=λn=>if n∈cS l then E'.fp n else E.fp n,used:=E'.used }
 have f1:∀ m,m∈cS l->E2.fp m=E'.fp m:=λm hm=>if_pos hm
 have f2:∀ m,m∉cS l->E2.fp m=E.fp m:=λm hm=>if_neg hm
 have a4S:∀ b,b<w.heap.size->vO E (vU h) w b:=λb hb=>aBV hb
 have solL:∀ m o,m∈cS l->h' m=some o->o.eQ=true:=λm o hm ho=>by
  obtain⟨o',ho'⟩:=eV.1 hm
  have:=nw.oJ _ ho'
  rw[ho]at this
  obtain rfl:=dY this
  exact hsol _ ho'
 have evA:Ev E h w E2 h2 w':=by
  refine⟨ev.size,λb hb=>?_,ev.shape,ev.loc,ev.os,ev.out⟩
  have h1:=ev.keep b (a4S b hb.1)
  refine⟨h1.1,h1.2.1,λm o hm ho hf=>?_⟩
  by_cases e:m∈cS l
  ·rw[e1 m e]at hm;rw[f1 m e]at hf;exact h1.2.2 m o hm ho hf
  ·rw[e2 m e]at hm;rw[f2 m e]at hf;exact hb.2 m o hm ho hf
 have R2:Rel E2 h2 w':=by
  refine⟨R'.fin,λm hm=>?_,?_,?_,?_,R.laid.ev evA⟩
  ·by_cases e:m∈cS l
   ·rw[e1 m e]at hm;exact R'.dom m hm
   ·rw[e2 m e]at hm;exact(ev.loc m (R.dom m hm)).2
  ·intro m o b hm ho hf
   by_cases e:m∈cS l
   ·rw[e1 m e]at hm;rw[f1 m e]at hf;exact R'.lt m o b hm ho hf
   ·rw[e2 m e]at hm;rw[f2 m e]at hf;exact bEZ (R.lt m o b hm ho hf) ev.size
  ·intro m o m' o' b hm ho hm' ho' hf hf'
   by_cases e:m∈cS l
   ·rw[e1 m e]at hm;rw[f1 m e]at hf
    by_cases e':m'∈cS l
    ·rw[e1 m' e']at hm';rw[f1 m' e']at hf';exact R'.apart m o m' o' b hm ho hm' ho' hf hf'
    ·rw[e2 m' e']at hm';rw[f2 m' e']at hf'
     exact absurd hf ((ev.keep b (a4S b (R.lt m' o' b hm' ho' hf'))).2.2 m o hm ho)
   ·rw[e2 m e]at hm;rw[f2 m e]at hf
    by_cases e':m'∈cS l
    ·rw[e1 m' e']at hm';rw[f1 m' e']at hf'
     exact absurd hf' ((ev.keep b (a4S b (R.lt m o b hm ho hf))).2.2 m' o' hm' ho')
    ·rw[e2 m' e']at hm';rw[f2 m' e']at hf';exact R.apart m o m' o' b hm ho hm' ho' hf hf'
  ·intro m o hm
   by_cases e:m∈cS l
   ·rw[e1 m e]at hm
    exact aJI.eQ (E:=E') (E':=E2) (λn hn=>⟨rfl,hn⟩) (λ_ _=>rfl) rfl (f1 m e) (λ_ _=>rfl) (solL m o e hm) (R'.obj m o hm)
   ·rw[e2 m e]at hm
    cases o with
    |gone=>trivial
    |row sz es=>exact(R.obj m _ hm).ev evA (ev.loc m (R.dom m (by simp[hm]))).1 (f2 m e) λb _ hb=>(ev.keep b (a4S b (R.lt m _ b hm trivial hb))).1
    |abs Q=>exact(R.obj m _ hm).ev evA (ev.loc m (R.dom m (by simp[hm]))).1 (f2 m e) λb _ hb=>(ev.keep b (a4S b (R.lt m _ b hm trivial hb))).1
    |raw t cs=>exact(R.obj m _ hm).ev evA (ev.loc m (R.dom m (by simp[hm]))).1 (f2 m e) λb _ hb=>(ev.keep b (a4S b (R.lt m _ b hm trivial hb))).1
    |map kt et l'=>exact(R.obj m _ hm).ev evA (ev.loc m (R.dom m (by simp[hm]))).1 (f2 m e) λb _ hb=>(ev.keep b (a4S b (R.lt m _ b hm trivial hb))).1
 refine⟨r,h2,E2,⟨l,k',⟨nw.nodup,hnew,λp hp=>?_,λm hm=>e2 m hm⟩⟩,evA,R2,fY.eQ (E:=E') (E':=E2) (λn hn=>⟨rfl,hn⟩) (λ_ _=>rfl) rx hr⟩
 rw[e1 p.1 (eV.2 ⟨p.2,hp⟩)];exact nw.oJ p hp
def View (h:Heap) (x x':aC):Prop:=∀ E w v,Rel E h w->fY E h w x v->fY E (vU h) w x' v
def dU (h:Heap):List aC->List aC->Prop
 | [],[]=>True
 |x::xs,y::ys=>View h x y/\dU h xs ys
 | _,_=>False
theorem bS1 {E:Env} {h:Heap} {w:World} {b:Nat} (i:vO E h w b):vO E (vU h) w b:=aBV i.1
theorem View.same (h:Heap) (x:aC):View h x x:=λE w v R r=>r.zW λb i=>bS1 i
theorem View.sub {h:Heap} {x y z:aC} (a:View h x y) (s:Sub y z):View h x z:=λE w v R r=>s _ _ _ _ (a E w v R r)
theorem aHJ {E:Env} {h:Heap} {w:World} {S:List Nat}:∀ b,vO E (Hl.o9 h S) w b->vO E (vU h) w b:=λb i=>aBV i.1
theorem View.ov {h:Heap} (y:OV) (ho:u4 h y.rows):View h y.val y.u3:=λE w v R r =>
 (fY.aNM R (S:=cS y.rows) y ho (λp hp=>eV.2 ⟨p.2,hp⟩) v r).zW aHJ
theorem View.agg {h:Heap} (e:List OV) (ho:u4 h (OV.cQ e)):View h (.agg (e.map OV.val)) (.agg (e.map OV.u3)):=λE w v R r =>
 (fY.a1J R (S:=cS (OV.cQ e)) e v ho (λp hp=>eV.2 ⟨p.2,hp⟩) r).zW aHJ
theorem View.op {h:Heap} {n sz i off:Nat} (es:List (List OV)) (hn:h n=some (.row sz (OV.cells es))) (hne:es≠[]) (ho:u4 h (OV.cW es)):View h (.op n sz i off) (.ip sz (OV.k8 es) i off):=by
 intro E w v R r
 cases v <;> try(cases r;done)
 cases r with
 |op _ _ _ _ b o hd hl =>
  obtain⟨b',o',hl',hbS,hs,cs,ct,cv,T,hh,hm',hT,hD,hc,hrr⟩:=aEU R hn (.inr ⟨_,hl⟩)
  rw[hl]at hl'
  obtain⟨rfl,rfl⟩:=nI (dY hl')
  have hcs:∀ i j y,kE (OV.k8 es) i j=some y->∃ c,kE es i j=some c/\y=c.u3/\cs[o+i*sz+j]?=some (cv i j)/\(cv i j).oneCell'=true/\fY E h w c.val (cv i j):=by
   intro i j y hy
   rw[OV.qC,wN]at hy
   obtain⟨c,hc1,rfl⟩:=xD.1 hy
   have hcell:kE (OV.cells es) i j=some (.v c.val):=by rw[OV.cells,wN,hc1];rfl
   have h2:=hrr i j _ hcell
   generalize hcv:cv i j=z at h2
   cases h2 with
   |v x c' S' h1 hx=>exact⟨c,hc1,rfl,hcv▸hc i j _ hcell,h1,hx⟩
  refine .ip sz (OV.k8 es) i off b o cv (aBV (R.lt n _ b hn trivial hbS)) ?_ ?_ ?_ ?_
  ·intro e he
   rw[OV.qC,vZ]at he
   obtain⟨e',he',rfl⟩:=he
   have:=hs (e'.map λc=>Cell.v c.val) (vZ.2 ⟨e',he',rfl⟩)
   simpa using this
  ·intro i j y hy
   obtain⟨c,_,_,h1,_,_⟩:=hcs i j y hy
   simp only[World.cell?,hh]
   rw[←h1]
   simp
  ·intro i j y hy;obtain⟨c,_,_,_,h1,_⟩:=hcs i j y hy;exact h1
  ·intro i j y hy
   obtain⟨c,hc1,rfl,_,_,h1⟩:=hcs i j y hy
   obtain⟨e,he,hj⟩:=mY hc1
   exact(aLX R (S:=cS (OV.cW es)) es ho (λp hp=>eV.2 ⟨p.2,hp⟩) e (rS he) c (rS hj) _ h1).zW aHJ
theorem dU.a1A {h:Heap}:∀ {xs ys:List aC},dU h xs ys->∀ E w vs,Rel E h w->eT E h w xs vs->eT E (vU h) w ys vs
 | [],[],_,E,w,[],R,r=>trivial
 |x::xs,y::ys,hv,E,w,v::vs,R,r=>⟨hv.1 E w v R r.1,dU.a1A hv.2 E w vs R r.2⟩
 | [],[],_,E,w,_::_,R,r=>r.elim
 |x::xs,y::ys,hv,E,w,[],R,r=>r.elim
 | [],_::_,h,_,_,_,_,_=>h.elim
 | _::_,[],h,_,_,_,_,_=>h.elim
theorem dU.nil {h:Heap}:dU h [] []:=trivial
theorem dU.cons {h:Heap} {x y:aC} {xs ys:List aC} (a:View h x y) (b:dU h xs ys):dU h (x::xs) (y::ys):=⟨a,b⟩
def aWW (Q:aC->List (Nat×cF)->Prop):Prop:=∀ r l,Q r l->r.eQ=true/\∀ p∈l,p.2.eQ=true
theorem tU.bLR {P:Program} {f:FuncId} {args args':List aC} {Q:aC->List (Nat×cF)->Prop} {h:Heap} (a:tU P f args' Q) (hv:dU h args args') (hQ:aWW Q):gK P f args h λr h'=>∃ l,Q r l/\eW h l h' :=
 gK.bPY hv.a1A (a (vU h)) λr h' ⟨l,q,n⟩=>⟨l,q,n,(hQ r l q).1,(hQ r l q).2⟩
theorem dQ.bLR {P:Program} {f:FuncId} {args args':List aC} {r:aC} {h:Heap} (a:dQ P f args' r) (hv:dU h args args') (hr:r.eQ=true):gK P f args h λr' h'=>r'=r/\h'=h :=
 (gK.bPY (K':=λr' l=>r'=r/\l=[]) hv.a1A (a (vU h)) λr' h' ⟨e,e'⟩=>by
  subst e;subst e';exact⟨[],⟨rfl,rfl⟩,.nil _,hr,by simp⟩).mono λr' h' ⟨l,⟨e1,e2⟩,n⟩=>by
  subst e2
  exact⟨e1,funext λm=>n.upto m a0J⟩
section
variable {P:Program} {f:FuncId} {args args':List aC} {Q:aC->List (Nat×cF)->Prop} {K:aC->Heap->Prop} {t:Tag K} {g:Heap}
theorem aH.aJ3 {r:aC} (a:dQ P f args' r) (hv:dU g args args') (hr:r.eQ=true) (k:K r g):aH P f args g K t :=
 aH.kF (a.bLR hv hr) λr' h' ⟨e,e'⟩=>by subst e;subst e';exact k
end
mutual
def OV.sol:OV->Bool
 | .v x=>x.eQ
 | .nil _=>true
 | .sl _ _ es=>OV.xZ es
def OV.xZ:List (List OV)->Bool
 | []=>true
 |e::es=>OV.lL e && OV.xZ es
def OV.lL:List OV->Bool
 | []=>true
 |x::e=>x.sol && OV.lL e
end
theorem OV.aU0:∀ {x:OV},x.sol=true->x.val.eQ=true
 | .v x,h=>by simpa only[OV.sol,OV.val]using h
 | .nil _,_=>by simp[OV.val,aC.eQ]
 | .sl _ _ _,_=>by simp[OV.val,aC.eQ]
theorem OV.aQ4:∀ (e:List OV),OV.lL e=e.all OV.sol
 | []=>rfl
 |x::e=>by rw[OV.lL,OV.aQ4 e];rfl
theorem OV.aNN:∀ (es:List (List OV)),OV.xZ es=es.all (λe=>e.all OV.sol)
 | []=>rfl
 |e::es=>by rw[OV.xZ,OV.aNN es,OV.aQ4];rfl
theorem OV.aQ5:∀ {e:List OV},OV.lL e=true->aC.nO (e.map OV.val)=true
 | [],_=>rfl
 |x::e,h=>by
  simp only[OV.lL,oN]at h
  simp only[lU,aC.nO,OV.aU0 h.1,OV.aQ5 h.2,Bool.and_self]
theorem OV.a1K {sz:Nat} {es:List (List OV)} (h:OV.xZ es=true):(cF.row sz (OV.cells es)).eQ=true:=by
 rw[OV.aNN]at h
 simp only[cF.eQ,OV.cells,List.all_map,zV,Function.comp_apply]at h ⊢
 intro e he c hc
 exact OV.aU0 (h e he c hc)
mutual
theorem OV.a4U:∀ {x:OV},x.sol=true->∀ p∈x.rows,p.2.eQ=true
 | .v _,_=>by simp[OV.rows]
 | .nil _,_=>by simp[OV.rows]
 | .sl n sz es,h=>λp hp=>by
  rw[OV.rows]at hp
  rcases p7.1 hp with rfl|hp
  ·exact OV.a1K (by simpa only[OV.sol]using h)
  ·exact OV.aE9 (by simpa only[OV.sol]using h) p hp
theorem OV.aE9:∀ {es:List (List OV)},OV.xZ es=true->∀ p∈OV.cW es,p.2.eQ=true
 | [],_=>by simp[OV.cW]
 |e::es,h=>λp hp=>by
  simp only[OV.xZ,oN]at h
  rw[OV.cW]at hp
  rcases pH.1 hp with hp|hp
  ·exact OV.aBA h.1 p hp
  ·exact OV.aE9 h.2 p hp
theorem OV.aBA:∀ {e:List OV},OV.lL e=true->∀ p∈OV.cQ e,p.2.eQ=true
 | [],_=>by simp[OV.cQ]
 |x::e,h=>λp hp=>by
  simp only[OV.lL,oN]at h
  rw[OV.cQ]at hp
  rcases pH.1 hp with hp|hp
  ·exact OV.a4U h.1 p hp
  ·exact OV.aBA h.2 p hp
end
theorem aLZ {α:Type} {c:α->aC} (hc:∀ x,(c x).eQ=true) {x:α} {e:List OV} (h:oP c x e):OV.lL e=true:=by
 unfold oP at h;subst h;simp[OV.lL,OV.sol,hc]
theorem x9 {P:Program} {f:FuncId} {fn:Func} {c:Code} (N:Nat) (keep ib:List Nat) (mk:Marks) {args:List aC} {Q:aC->List (Nat×cF)->Prop} (hf:P.funcs[f]?=some fn) (hw:∀ h,p2 P N keep ib mk c (λτ h'=>n9 P fn.results (λr h'=>∃ r1 g l,Shift r h' r1 g/\Q r1 l/\eW h l g) () .normal τ h') (n9 P fn.results (λr h'=>∃ r1 g l,Shift r h' r1 g/\Q r1 l/\eW h l g) ()) (rU 0 args) h ()) (hmix:P.follows .mixedOrders=true:=by exact mix) (hb:fn.body=some c:=by rfl) (hck:(jG P f && decide (fn.ntmps=N) && iV N mk c)=true:=by kernel_rfl) (hl:args.length<=N:=by simp):tU P f args Q :=
 b50 N keep ib mk hmix hf hb hck hl hw
def QS (R:OV->Prop) (w:aC->aC:=λx=>x):aC->List (Nat×cF)->Prop:=λr l=>∃ y,R y/\r=w y.val/\l=y.rows
def QA (R:List OV->Prop) (w:aC->aC:=λx=>x):aC->List (Nat×cF)->Prop:=λr l=>∃ e,R e/\r=w (.agg (e.map OV.val))/\l=OV.cQ e
theorem eW.row {h h':Heap} {l:List (Nat×cF)} (x:eW h l h') {n:Nat} {o:cF} (hn:h' n=none):eW h ((n,o)::l) (bT h' n o):=(x.toT.row hn).bY8
theorem bDE {l:List aC}:(aC.agg l).eQ=aC.nO l:=by simp only[aC.eQ]
theorem QA.eQ {R:List OV->Prop} {w:aC->aC} (hR:∀ e,R e->OV.lL e=true) (hw:∀ x:aC,x.eQ=true->(w x).eQ=true):aWW (QA R w):=λr l ⟨y,hy,e1,e2⟩=>by
 subst e1 e2
 exact⟨hw _ (by rw[bDE];exact OV.aQ5 (hR y hy)),OV.aBA (hR y hy)⟩
theorem QS.eA {P:Program} {f:FuncId} {args:List aC} {R:OV->Prop} {d:aC} (a:tU P f args (QS R)) (hd:∀ y,R y->y.u3=d):dQ P f args d :=
 a.eA λr' l ⟨y,hy,e1,e2⟩ E w v h' ho R rx=>by
  subst e1 e2
  rw[←hd y hy]
  exact fY.aNM R y ho (λp hp=>eV.2 ⟨p.2,hp⟩) v rx
theorem OS.nil {α:Type} {R:α->List OV->Prop} {sz:Nat}:OS R sz [] (.nil sz):=.inl ⟨rfl,rfl⟩
theorem OS.mk {α:Type} {R:α->List OV->Prop} {sz n:Nat} {l:List α} {es:List (List OV)} (h:OR R l es):OS R sz l (.sl n sz es):=.inr ⟨n,es,rfl,h⟩
theorem OV.lY (sz:Nat):(OV.nil sz).rows=[]:=by rw[OV.rows]
theorem OV.rN (x:aC):(OV.v x).rows=[]:=by rw[OV.rows]
theorem OV.lM (n sz:Nat) (es:List (List OV)):(OV.sl n sz es).rows=(n,.row sz (OV.cells es))::OV.cW es:=by rw[OV.rows]
theorem OV.j9:OV.cQ []=[]:=by rw[OV.cQ]
theorem OV.gG (x:OV) (e:List OV):OV.cQ (x::e)=x.rows++OV.cQ e:=by rw[OV.cQ]
theorem OV.r7 (sz:Nat):(OV.nil sz).val=.sl sz [] true:=rfl
theorem OV.p8 (n sz:Nat) (es:List (List OV)):(OV.sl n sz es).val=.os n sz 0 es.length:=rfl
theorem OV.aG:List.map OV.val []=[]:=rfl
theorem OV.aR (x:OV) (e:List OV):List.map OV.val (x::e)=x.val::e.map OV.val:=rfl
structure Chg (h h':Heap) (l l':List (Nat×cF)):Prop where
 names:cS l'=cS l
 oJ:u4 h' l'
 upto:bSZ (cS l) h h'
theorem Chg.trans {h h1 h2:Heap} {a b c:List (Nat×cF)} (x:Chg h h1 a b) (y:Chg h1 h2 b c):Chg h h2 a c :=
 ⟨y.names.trans x.names,y.oJ,λm hm=>(y.upto m (by rw[x.names];exact hm)).trans (x.upto m hm)⟩
theorem u4.left {h:Heap} {a b:List (Nat×cF)} (o:u4 h (a++b)):u4 h a:=λp hp=>o p (aCH _ hp)
theorem u4.right {h:Heap} {a b:List (Nat×cF)} (o:u4 h (a++b)):u4 h b:=λp hp=>o p (xV _ hp)
theorem Chg.mid {h h':Heap} {a l l' b:List (Nat×cF)} (o:u4 h (a++(l++b))) (nd:(cS (a++(l++b))).Nodup) (c:Chg h h' l l'):Chg h h' (a++(l++b)) (a++(l'++b)):=by
 have nd':=nd
 rw[eG,eG]at nd'
 obtain⟨_,n2,d1⟩:=aDX.1 nd'
 obtain⟨_,_,d2⟩:=aDX.1 n2
 refine⟨by rw[eG,eG,eG,eG,c.names],λp hp=>?_,λm hm=>c.upto m λq=>hm ?_⟩
 ·rcases pH.1 hp with hp|hp
  ·have hm:p.1∈cS a:=eV.2 ⟨p.2,hp⟩
   rw[c.upto p.1 λq=>d1 _ hm _ (aCH _ q) rfl]
   exact o p (aCH _ hp)
  ·rcases pH.1 hp with hp|hp
   ·exact c.oJ p hp
   ·have hm:p.1∈cS b:=eV.2 ⟨p.2,hp⟩
    rw[c.upto p.1 λq=>d2 _ q _ hm rfl]
    exact o p (xV _ (xV _ hp))
 ·rw[eG,eG]
  exact xV _ (aCH _ q)
theorem Chg.set {h:Heap} {n:Nat} {o o':cF} {l:List (Nat×cF)} (ow:u4 h ((n,o)::l)) (nd:(cS ((n,o)::l)).Nodup):Chg h (bT h n o') ((n,o)::l) ((n,o')::l):=by
 have hn:n∉cS l:=(aZN.1 (show(n::cS l).Nodup from nd)).1
 refine⟨rfl,λp hp=>?_,λm hm=>?_⟩
 ·rcases p7.1 hp with rfl|hp
  ·exact bG _ _ _
  ·have:p.1≠n:=λe=>hn (e▸eV.2 ⟨p.2,hp⟩)
   rw[aD _ _ _ _ this];exact ow p (al6 _ hp)
 ·have:m≠n:=λe=>hm (by rw[e];exact al5)
  exact aD _ _ _ _ this
theorem Chg.nodup {h h':Heap} {a b:List (Nat×cF)} (c:Chg h h' a b) (nd:(cS a).Nodup):(cS b).Nodup:=by rw[c.names];exact nd
theorem eW.chg {h h1 h2:Heap} {l l':List (Nat×cF)} (x:eW h l h1) (c:Chg h1 h2 l l'):eW h l' h2 :=
 ⟨c.nodup x.nodup,λm hm=>x.fresh m (c.names▸hm),c.oJ,λm hm=>(c.upto m (c.names▸hm)).trans (x.upto m (c.names▸hm))⟩
theorem aU1 {a l b:List (Nat×cF)} (nd:(cS (a++(l++b))).Nodup):(cS l).Nodup:=by
 rw[eG,eG]at nd
 exact(aDX.1 (aDX.1 nd).2.1).1
theorem OR.split {α:Type} {R:α->List OV->Prop}:∀ {l:List α} {es:List (List OV)},OR R l es->∀ k (hk:k<l.length),∃ A e B,es=A++e::B/\A.length=k/\R l[k] e
 |x::l,e::es,h,0,_=>⟨[],e,es,rfl,rfl,h.1⟩
 |x::l,e::es,h,k+1,hk=>by
  obtain⟨A,e',B,h1,h2,h3⟩:=OR.split h.2 k a0I
  exact⟨e::A,e',B,by rw[h1];rfl,by simp[h2],by simpa using h3⟩
 | [],[],_,k,hk=>by simp at hk
 | [],_::_,h,_,_=>h.elim
 | _::_,[],h,_,_=>h.elim
theorem aWX (a b:List (List OV)):OV.cells (a++b)=OV.cells a++OV.cells b:=by simp[OV.cells]
theorem bO (x:OV) (e:List OV):((x::e).map λc=>Cell.v c.val)=.v x.val::e.map λc=>Cell.v c.val:=rfl
theorem bY:(([]:List OV).map λc=>Cell.v c.val)=[]:=rfl
theorem aJ4 (a b:List (List OV)):OV.cW (a++b)=OV.cW a++OV.cW b:=OV.xJ a b
theorem aGY (e:List OV) (b:List (List OV)):OV.cW (e::b)=OV.cQ e++OV.cW b:=by rw[OV.cW]
theorem u4.up {g:Heap} {l:List (Nat×cF)} {n:Nat} {o:cF} (ow:u4 g l) (hn:g n=none):u4 (bT g n o) l:=λp hp=>by
 have:p.1≠n:=λe=>by have:=ow p hp;rw[e,hn]at this;cases this
 rw[aD _ _ _ _ this];exact ow p hp
theorem eW.un0 {g h':Heap} {l:List (Nat×cF)}  (x:eW g l h'):∃ g',h'=g'/\eW g l g':=by
 exact⟨h',rfl,x⟩
theorem aH.wn0 {P:Program} {f:FuncId} {args:List aC} {Q:aC->List (Nat×cF)->Prop} {K:aC->Heap->Prop} {t:Tag K} {g:Heap} (a:tU P f args Q)  (k:∀ r l g',Q r l->eW g l g'->K r g'):aH P f args g K t :=
 aH.kF (a _) λr h' ⟨l,q,hq⟩=>by
  obtain⟨g',e0,q2⟩:=hq.un0;subst e0
  exact k r l _ q q2
theorem aH.wl0 {P:Program} {f:FuncId} {args args':List aC} {Q:aC->List (Nat×cF)->Prop} {K:aC->Heap->Prop} {t:Tag K} {g:Heap} (a:tU P f args' Q) (hv:dU g args args') (hQ:aWW Q)  (k:∀ r l g',Q r l->eW g l g'->K r g'):aH P f args g K t :=
 aH.kF (a.bLR hv hQ) λr h' ⟨l,q,hq⟩=>by
  obtain⟨g',e0,q2⟩:=hq.un0;subst e0
  exact k r l _ q q2
theorem eW.un1 {g h':Heap} {n0:Nat} {o0:cF} {l:List (Nat×cF)} (h0:g n0=none) (x:eW (bT g n0 o0) l h'):∃ g',h'=(bT g' n0 o0)/\eW g l g'/\g' n0=none:=by
 exact x.under h0
theorem aH.wn1 {P:Program} {f:FuncId} {args:List aC} {Q:aC->List (Nat×cF)->Prop} {K:aC->Heap->Prop} {t:Tag K} {g:Heap} {n0:Nat} {o0:cF} (a:tU P f args Q) (h0:g n0=none) (k:∀ r l g',Q r l->eW g l g'->g' n0=none->K r (bT g' n0 o0)):aH P f args (bT g n0 o0) K t :=
 aH.kF (a _) λr h' ⟨l,q,hq⟩=>by
  obtain⟨g',rfl,q2,z0⟩:=hq.un1 h0
  exact k r l _ q q2 z0
theorem eW.un2 {g h':Heap} {n0:Nat} {o0:cF} {n1:Nat} {o1:cF} {l:List (Nat×cF)} (h0:g n0=none) (h1:n1≠n0/\g n1=none) (x:eW (bT (bT g n0 o0) n1 o1) l h'):∃ g',h'=(bT (bT g' n0 o0) n1 o1)/\eW g l g'/\g' n0=none/\g' n1=none:=by
 obtain⟨g1,rfl,x1,q1⟩:=x.under (by simp only[lX];exact h1)
 obtain⟨g2,rfl,x2,z0⟩:=eW.un1 h0 x1
 refine⟨g2,rfl,x2,z0,?_⟩
 simp only[lX]at q1
 exact q1.2
theorem aH.oX {P:Program} {f:FuncId} {args:List aC} {Q:aC->List (Nat×cF)->Prop} {K:aC->Heap->Prop} {t:Tag K} {g:Heap} {n0:Nat} {o0:cF} {n1:Nat} {o1:cF} (a:tU P f args Q) (h0:g n0=none) (h1:n1≠n0/\g n1=none) (k:∀ r l g',Q r l->eW g l g'->g' n0=none->g' n1=none->K r (bT (bT g' n0 o0) n1 o1)):aH P f args (bT (bT g n0 o0) n1 o1) K t :=
 aH.kF (a _) λr h' ⟨l,q,hq⟩=>by
  obtain⟨g',rfl,q2,z0,z1⟩:=hq.un2 h0 h1
  exact k r l _ q q2 z0 z1
theorem aH.wl2 {P:Program} {f:FuncId} {args args':List aC} {Q:aC->List (Nat×cF)->Prop} {K:aC->Heap->Prop} {t:Tag K} {g:Heap} {n0:Nat} {o0:cF} {n1:Nat} {o1:cF} (a:tU P f args' Q) (hv:dU (bT (bT g n0 o0) n1 o1) args args') (hQ:aWW Q) (h0:g n0=none) (h1:n1≠n0/\g n1=none) (k:∀ r l g',Q r l->eW g l g'->g' n0=none->g' n1=none->K r (bT (bT g' n0 o0) n1 o1)):aH P f args (bT (bT g n0 o0) n1 o1) K t :=
 aH.kF (a.bLR hv hQ) λr h' ⟨l,q,hq⟩=>by
  obtain⟨g',rfl,q2,z0,z1⟩:=hq.un2 h0 h1
  exact k r l _ q q2 z0 z1
theorem eW.un3 {g h':Heap} {n0:Nat} {o0:cF} {n1:Nat} {o1:cF} {n2:Nat} {o2:cF} {l:List (Nat×cF)} (h0:g n0=none) (h1:n1≠n0/\g n1=none) (h2:n2≠n1/\n2≠n0/\g n2=none) (x:eW (bT (bT (bT g n0 o0) n1 o1) n2 o2) l h'):∃ g',h'=(bT (bT (bT g' n0 o0) n1 o1) n2 o2)/\eW g l g'/\g' n0=none/\g' n1=none/\g' n2=none:=by
 obtain⟨g1,rfl,x1,q1⟩:=x.under (by simp only[lX];exact h2)
 obtain⟨g2,rfl,x2,z0,z1⟩:=eW.un2 h0 h1 x1
 refine⟨g2,rfl,x2,z0,z1,?_⟩
 simp only[lX]at q1
 exact q1.2.2
theorem aH.wn3 {P:Program} {f:FuncId} {args:List aC} {Q:aC->List (Nat×cF)->Prop} {K:aC->Heap->Prop} {t:Tag K} {g:Heap} {n0:Nat} {o0:cF} {n1:Nat} {o1:cF} {n2:Nat} {o2:cF} (a:tU P f args Q) (h0:g n0=none) (h1:n1≠n0/\g n1=none) (h2:n2≠n1/\n2≠n0/\g n2=none) (k:∀ r l g',Q r l->eW g l g'->g' n0=none->g' n1=none->g' n2=none->K r (bT (bT (bT g' n0 o0) n1 o1) n2 o2)):aH P f args (bT (bT (bT g n0 o0) n1 o1) n2 o2) K t :=
 aH.kF (a _) λr h' ⟨l,q,hq⟩=>by
  obtain⟨g',rfl,q2,z0,z1,z2⟩:=hq.un3 h0 h1 h2
  exact k r l _ q q2 z0 z1 z2
theorem eW.un4 {g h':Heap} {n0:Nat} {o0:cF} {n1:Nat} {o1:cF} {n2:Nat} {o2:cF} {n3:Nat} {o3:cF} {l:List (Nat×cF)} (h0:g n0=none) (h1:n1≠n0/\g n1=none) (h2:n2≠n1/\n2≠n0/\g n2=none) (h3:n3≠n2/\n3≠n1/\n3≠n0/\g n3=none) (x:eW (bT (bT (bT (bT g n0 o0) n1 o1) n2 o2) n3 o3) l h'):∃ g',h'=(bT (bT (bT (bT g' n0 o0) n1 o1) n2 o2) n3 o3)/\eW g l g'/\g' n0=none/\g' n1=none/\g' n2=none/\g' n3=none:=by
 obtain⟨g1,rfl,x1,q1⟩:=x.under (by simp only[lX];exact h3)
 obtain⟨g2,rfl,x2,z0,z1,z2⟩:=eW.un3 h0 h1 h2 x1
 refine⟨g2,rfl,x2,z0,z1,z2,?_⟩
 simp only[lX]at q1
 exact q1.2.2.2
theorem aH.wn4 {P:Program} {f:FuncId} {args:List aC} {Q:aC->List (Nat×cF)->Prop} {K:aC->Heap->Prop} {t:Tag K} {g:Heap} {n0:Nat} {o0:cF} {n1:Nat} {o1:cF} {n2:Nat} {o2:cF} {n3:Nat} {o3:cF} (a:tU P f args Q) (h0:g n0=none) (h1:n1≠n0/\g n1=none) (h2:n2≠n1/\n2≠n0/\g n2=none) (h3:n3≠n2/\n3≠n1/\n3≠n0/\g n3=none) (k:∀ r l g',Q r l->eW g l g'->g' n0=none->g' n1=none->g' n2=none->g' n3=none->K r (bT (bT (bT (bT g' n0 o0) n1 o1) n2 o2) n3 o3)):aH P f args (bT (bT (bT (bT g n0 o0) n1 o1) n2 o2) n3 o3) K t :=
 aH.kF (a _) λr h' ⟨l,q,hq⟩=>by
  obtain⟨g',rfl,q2,z0,z1,z2,z3⟩:=hq.un4 h0 h1 h2 h3
  exact k r l _ q q2 z0 z1 z2 z3
theorem eW.un5 {g h':Heap} {n0:Nat} {o0:cF} {n1:Nat} {o1:cF} {n2:Nat} {o2:cF} {n3:Nat} {o3:cF} {n4:Nat} {o4:cF} {l:List (Nat×cF)} (h0:g n0=none) (h1:n1≠n0/\g n1=none) (h2:n2≠n1/\n2≠n0/\g n2=none) (h3:n3≠n2/\n3≠n1/\n3≠n0/\g n3=none) (h4:n4≠n3/\n4≠n2/\n4≠n1/\n4≠n0/\g n4=none) (x:eW (bT (bT (bT (bT (bT g n0 o0) n1 o1) n2 o2) n3 o3) n4 o4) l h'):∃ g',h'=(bT (bT (bT (bT (bT g' n0 o0) n1 o1) n2 o2) n3 o3) n4 o4)/\eW g l g'/\g' n0=none/\g' n1=none/\g' n2=none/\g' n3=none/\g' n4=none:=by
 obtain⟨g1,rfl,x1,q1⟩:=x.under (by simp only[lX];exact h4)
 obtain⟨g2,rfl,x2,z0,z1,z2,z3⟩:=eW.un4 h0 h1 h2 h3 x1
 refine⟨g2,rfl,x2,z0,z1,z2,z3,?_⟩
 simp only[lX]at q1
 exact q1.2.2.2.2
theorem aH.wn5 {P:Program} {f:FuncId} {args:List aC} {Q:aC->List (Nat×cF)->Prop} {K:aC->Heap->Prop} {t:Tag K} {g:Heap} {n0:Nat} {o0:cF} {n1:Nat} {o1:cF} {n2:Nat} {o2:cF} {n3:Nat} {o3:cF} {n4:Nat} {o4:cF} (a:tU P f args Q) (h0:g n0=none) (h1:n1≠n0/\g n1=none) (h2:n2≠n1/\n2≠n0/\g n2=none) (h3:n3≠n2/\n3≠n1/\n3≠n0/\g n3=none) (h4:n4≠n3/\n4≠n2/\n4≠n1/\n4≠n0/\g n4=none) (k:∀ r l g',Q r l->eW g l g'->g' n0=none->g' n1=none->g' n2=none->g' n3=none->g' n4=none->K r (bT (bT (bT (bT (bT g' n0 o0) n1 o1) n2 o2) n3 o3) n4 o4)):aH P f args (bT (bT (bT (bT (bT g n0 o0) n1 o1) n2 o2) n3 o3) n4 o4) K t :=
 aH.kF (a _) λr h' ⟨l,q,hq⟩=>by
  obtain⟨g',rfl,q2,z0,z1,z2,z3,z4⟩:=hq.un5 h0 h1 h2 h3 h4
  exact k r l _ q q2 z0 z1 z2 z3 z4
theorem eW.un6 {g h':Heap} {n0:Nat} {o0:cF} {n1:Nat} {o1:cF} {n2:Nat} {o2:cF} {n3:Nat} {o3:cF} {n4:Nat} {o4:cF} {n5:Nat} {o5:cF} {l:List (Nat×cF)} (h0:g n0=none) (h1:n1≠n0/\g n1=none) (h2:n2≠n1/\n2≠n0/\g n2=none) (h3:n3≠n2/\n3≠n1/\n3≠n0/\g n3=none) (h4:n4≠n3/\n4≠n2/\n4≠n1/\n4≠n0/\g n4=none) (h5:n5≠n4/\n5≠n3/\n5≠n2/\n5≠n1/\n5≠n0/\g n5=none) (x:eW (bT (bT (bT (bT (bT (bT g n0 o0) n1 o1) n2 o2) n3 o3) n4 o4) n5 o5) l h'):∃ g',h'=(bT (bT (bT (bT (bT (bT g' n0 o0) n1 o1) n2 o2) n3 o3) n4 o4) n5 o5)/\eW g l g'/\g' n0=none/\g' n1=none/\g' n2=none/\g' n3=none/\g' n4=none/\g' n5=none:=by
 obtain⟨g1,rfl,x1,q1⟩:=x.under (by simp only[lX];exact h5)
 obtain⟨g2,rfl,x2,z0,z1,z2,z3,z4⟩:=eW.un5 h0 h1 h2 h3 h4 x1
 refine⟨g2,rfl,x2,z0,z1,z2,z3,z4,?_⟩
 simp only[lX]at q1
 exact q1.2.2.2.2.2
theorem aH.wn6 {P:Program} {f:FuncId} {args:List aC} {Q:aC->List (Nat×cF)->Prop} {K:aC->Heap->Prop} {t:Tag K} {g:Heap} {n0:Nat} {o0:cF} {n1:Nat} {o1:cF} {n2:Nat} {o2:cF} {n3:Nat} {o3:cF} {n4:Nat} {o4:cF} {n5:Nat} {o5:cF} (a:tU P f args Q) (h0:g n0=none) (h1:n1≠n0/\g n1=none) (h2:n2≠n1/\n2≠n0/\g n2=none) (h3:n3≠n2/\n3≠n1/\n3≠n0/\g n3=none) (h4:n4≠n3/\n4≠n2/\n4≠n1/\n4≠n0/\g n4=none) (h5:n5≠n4/\n5≠n3/\n5≠n2/\n5≠n1/\n5≠n0/\g n5=none) (k:∀ r l g',Q r l->eW g l g'->g' n0=none->g' n1=none->g' n2=none->g' n3=none->g' n4=none->g' n5=none->K r (bT (bT (bT (bT (bT (bT g' n0 o0) n1 o1) n2 o2) n3 o3) n4 o4) n5 o5)):aH P f args (bT (bT (bT (bT (bT (bT g n0 o0) n1 o1) n2 o2) n3 o3) n4 o4) n5 o5) K t :=
 aH.kF (a _) λr h' ⟨l,q,hq⟩=>by
  obtain⟨g',rfl,q2,z0,z1,z2,z3,z4,z5⟩:=hq.un6 h0 h1 h2 h3 h4 h5
  exact k r l _ q q2 z0 z1 z2 z3 z4 z5
theorem eW.un7 {g h':Heap} {n0:Nat} {o0:cF} {n1:Nat} {o1:cF} {n2:Nat} {o2:cF} {n3:Nat} {o3:cF} {n4:Nat} {o4:cF} {n5:Nat} {o5:cF} {n6:Nat} {o6:cF} {l:List (Nat×cF)} (h0:g n0=none) (h1:n1≠n0/\g n1=none) (h2:n2≠n1/\n2≠n0/\g n2=none) (h3:n3≠n2/\n3≠n1/\n3≠n0/\g n3=none) (h4:n4≠n3/\n4≠n2/\n4≠n1/\n4≠n0/\g n4=none) (h5:n5≠n4/\n5≠n3/\n5≠n2/\n5≠n1/\n5≠n0/\g n5=none) (h6:n6≠n5/\n6≠n4/\n6≠n3/\n6≠n2/\n6≠n1/\n6≠n0/\g n6=none) (x:eW (bT (bT (bT (bT (bT (bT (bT g n0 o0) n1 o1) n2 o2) n3 o3) n4 o4) n5 o5) n6 o6) l h'):∃ g',h'=(bT (bT (bT (bT (bT (bT (bT g' n0 o0) n1 o1) n2 o2) n3 o3) n4 o4) n5 o5) n6 o6)/\eW g l g'/\g' n0=none/\g' n1=none/\g' n2=none/\g' n3=none/\g' n4=none/\g' n5=none/\g' n6=none:=by
 obtain⟨g1,rfl,x1,q1⟩:=x.under (by simp only[lX];exact h6)
 obtain⟨g2,rfl,x2,z0,z1,z2,z3,z4,z5⟩:=eW.un6 h0 h1 h2 h3 h4 h5 x1
 refine⟨g2,rfl,x2,z0,z1,z2,z3,z4,z5,?_⟩
 simp only[lX]at q1
 exact q1.2.2.2.2.2.2
theorem aH.wn7 {P:Program} {f:FuncId} {args:List aC} {Q:aC->List (Nat×cF)->Prop} {K:aC->Heap->Prop} {t:Tag K} {g:Heap} {n0:Nat} {o0:cF} {n1:Nat} {o1:cF} {n2:Nat} {o2:cF} {n3:Nat} {o3:cF} {n4:Nat} {o4:cF} {n5:Nat} {o5:cF} {n6:Nat} {o6:cF} (a:tU P f args Q) (h0:g n0=none) (h1:n1≠n0/\g n1=none) (h2:n2≠n1/\n2≠n0/\g n2=none) (h3:n3≠n2/\n3≠n1/\n3≠n0/\g n3=none) (h4:n4≠n3/\n4≠n2/\n4≠n1/\n4≠n0/\g n4=none) (h5:n5≠n4/\n5≠n3/\n5≠n2/\n5≠n1/\n5≠n0/\g n5=none) (h6:n6≠n5/\n6≠n4/\n6≠n3/\n6≠n2/\n6≠n1/\n6≠n0/\g n6=none) (k:∀ r l g',Q r l->eW g l g'->g' n0=none->g' n1=none->g' n2=none->g' n3=none->g' n4=none->g' n5=none->g' n6=none->K r (bT (bT (bT (bT (bT (bT (bT g' n0 o0) n1 o1) n2 o2) n3 o3) n4 o4) n5 o5) n6 o6)):aH P f args (bT (bT (bT (bT (bT (bT (bT g n0 o0) n1 o1) n2 o2) n3 o3) n4 o4) n5 o5) n6 o6) K t :=
 aH.kF (a _) λr h' ⟨l,q,hq⟩=>by
  obtain⟨g',rfl,q2,z0,z1,z2,z3,z4,z5,z6⟩:=hq.un7 h0 h1 h2 h3 h4 h5 h6
  exact k r l _ q q2 z0 z1 z2 z3 z4 z5 z6
theorem OR.aJ5 {α:Type} {R:α->List OV->Prop}:∀ {l:List α} {es:List (List OV)},(∀ x∈l,∀ e,R x e->OV.lL e=true)->OR R l es->OV.xZ es=true
 | [],[],_,_=>rfl
 |x::l,e::es,hR,h=>by rw[OV.xZ,hR x al5 e h.1,OR.aJ5 (λy hy=>hR y (al6 _ hy)) h.2];rfl
 | [],_::_,_,h=>h.elim
 | _::_,[],_,h=>h.elim
theorem OS.aJ5 {α:Type} {R:α->List OV->Prop} {sz:Nat} {l:List α} {y:OV} (hR:∀ x∈l,∀ e,R x e->OV.lL e=true) (h:OS R sz l y):y.sol=true:=by
 rcases h with⟨rfl,_⟩|⟨n,es,rfl,h⟩
 ·rfl
 ·simp only[OV.sol];exact h.aJ5 hR
theorem bLS {α:Type} {R:α->List OV->Prop} {sz:Nat} {l:List α} {e:List OV} (hR:∀ x∈l,∀ e,R x e->OV.lL e=true) (h:oS R sz l e):OV.lL e=true:=by
 obtain⟨y,rfl,h⟩:=h
 simp[OV.lL,h.aJ5 hR]
def aWY (w:aC->aC):Prop:=∀ (E:Env) (h g:Heap) (W:World) (x y:aC) (v:Value),(∀ b,vO E h W b->vO E g W b)->(∀ u,fY E h W x u->fY E g W y u)->fY E h W (w x) v->fY E g W (w y) v
theorem bLT:aWY λx=>x:=λE h g W x y v _ hr r=>hr v r
theorem eT.hole {E:Env} {h g:Heap} {W:World} {x y:aC} (hi:∀ b,vO E h W b->vO E g W b) (hr:∀ u,fY E h W x u->fY E g W y u):∀ (a b:List aC) (vs:List Value),eT E h W (a++x::b) vs->eT E g W (a++y::b) vs
 | [],b,v::vs,r=>⟨hr v r.1,eT.zW hi r.2⟩
 |z::a,b,v::vs,r=>⟨r.1.zW hi,eT.hole hi hr a b vs r.2⟩
 | [],b,[],r=>r.elim
 |z::a,b,[],r=>r.elim
theorem aJ6 (a b:List aC):aWY λx=>.iF (a++x::b):=λE h g W x y v hi hr r=>by
 generalize hc:a++x::b=cs at r
 cases r with
 |iF _ vs hl hrr =>
  subst hc
  have:=eT.hole hi hr a b vs (eT.mk hl hrr)
  exact .iF _ vs this.length this.get
theorem QS.bDG {P:Program} {f:FuncId} {args:List aC} {R:OV->Prop} {w:aC->aC} {d:aC} (a:tU P f args (QS R w)) (hd:∀ y,R y->y.u3=d) (hw:aWY w):dQ P f args (w d) :=
 a.eA λr' l ⟨y,hy,e1,e2⟩ E W v h' ho R' rx=>by
  subst e1 e2
  rw[←hd y hy]
  exact hw E h' _ W y.val y.u3 v (λb=>wB _ b) (λu ru=>fY.aNM R' y ho (λp hp=>eV.2 ⟨p.2,hp⟩) u ru) rx
theorem QA.bDG {P:Program} {f:FuncId} {args:List aC} {R:List OV->Prop} {w:aC->aC} {d:List aC} (a:tU P f args (QA R w)) (hd:∀ e,R e->e.map OV.u3=d) (hw:aWY w):dQ P f args (w (.agg d)) :=
 a.eA λr' l ⟨y,hy,e1,e2⟩ E W v h' ho R' rx=>by
  subst e1 e2
  rw[←hd y hy]
  exact hw E h' _ W (.agg (y.map OV.val)) (.agg (y.map OV.u3)) v (λb=>wB _ b) (λu ru=>fY.a1J R' y u ho (λp hp=>eV.2 ⟨p.2,hp⟩) ru) rx
def mX (sz len:Nat):Option Nat->aC
 |none=>.sl sz [] true
 |some n=>.os n sz 0 len
def c7 (h:Heap) (o:cF):Option Nat->Heap
 |none=>h
 |some n=>bT h n o
theorem dD (sz len:Nat):mX sz len none=.sl sz [] true:=rfl
theorem bZ (sz len n:Nat):mX sz len (some n)=.os n sz 0 len:=rfl
theorem aN (h:Heap) (o:cF):c7 h o none=h:=rfl
theorem aL (h:Heap) (o:cF) (n:Nat):c7 h o (some n)=bT h n o:=rfl
theorem nP {h:Heap} {n b:Nat} {o r:cF} (hn:h n=none):(bT h b r).le (bT (bT (bT h n o) n .gone) b r):=λm=>by
 by_cases e:m=b
 ·subst e;right;simp
 ·rw[aD _ _ _ _ e,aD _ _ _ _ e]
  by_cases e2:m=n
  ·subst e2;exact .inl hn
  ·right;rw[aD _ _ _ _ e2,aD _ _ _ _ e2]
def k7 {α:Type} (h:Heap) (l:List α):Option Nat->Prop
 |none=>l=[]
 |some n=>h n=none
theorem cZ {α:Type} (h:Heap) (l:List α):k7 h l none=(l=[]):=rfl
theorem b8 {α:Type} (h:Heap) (l:List α) (n:Nat):k7 h l (some n)=(h n=none):=rfl
theorem grown {α:Type} {c:α->aC} {h:Heap} {sz:Nat} {l:List α} {o:Option Nat} (hs:k7 h l o) :
  ∃ y:OV,OS (oP c) sz l y/\y.val=mX sz l.length o/\eW h y.rows (c7 h (.row sz ((l.map λx=>[c x]).map (List.map .v))) o):=by
 cases o with
 |none=>exact⟨.nil sz,.inl ⟨rfl,hs⟩,rfl,by rw[OV.lY];exact eW.nil h⟩
 |some n =>
  refine⟨.sl n sz (l.map λx=>[.v (c x)]),OS.mk (sE l),by simp[OV.val,mX],?_⟩
  rw[OV.lM,wT,tH]
  exact eW.one hs
theorem iX {α:Type} (c:α->aC) (l:List α) (x:α):List.take l.length ((l.map λx=>[c x]).map (List.map Cell.v))++[[Cell.v (c x)]]=((l++[x]).map λx=>[c x]).map (List.map .v):=by
 rw[gF aS]
 simp
theorem View.b51 {h:Heap} {c:List aC} (e:List OV) (hd:e.map OV.u3=c) (ho:u4 h (OV.cQ e)):View h (.agg (e.map OV.val)) (.agg c):=hd▸View.agg e ho
theorem View.ovD {h:Heap} {d:aC} (y:OV) (hd:y.u3=d) (ho:u4 h y.rows):View h y.val d:=hd▸View.ov y ho
theorem aWZ {α:Type} {c:α->aC} {l:List α} {sz:Nat} {h:Heap} (e:(l.map λx=>[c x])=[]):∃ r1 g l1,Shift .aV h r1 g/\QS (OS (oP c) sz l) (λx=>x) r1 l1/\eW h l1 g:=by
 obtain rfl:l=[]:=by simpa using e
 exact⟨_,_,_,Shift.of (Sub.nil sz true) (Heap.le_refl _),⟨.nil sz,OS.nil,rfl,rfl⟩,by rw[OV.lY];exact eW.nil h⟩
theorem aW0 {α:Type} {c:α->aC} {l:List α} {sz:Nat} {h:Heap} (e:(l.map λx=>[c x])=[]):∃ r1 g l1,Shift (.sl sz [] true) h r1 g/\QS (OS (oP c) sz l) (λx=>x) r1 l1/\eW h l1 g:=by
 obtain rfl:l=[]:=by simpa using e
 exact⟨_,_,_,cR _ _,⟨.nil sz,OS.nil,rfl,rfl⟩,by rw[OV.lY];exact eW.nil h⟩
theorem aOR {α:Type} {c:α->aC} {l:List α} {sz n:Nat} {h:Heap} (hn:h n=none) :
  ∃ r1 g l1,Shift (.os n sz 0 l.length) (bT h n (.row sz ((l.map λx=>[c x]).map (List.map .v)))) r1 g/\QS (OS (oP c) sz l) (λx=>x) r1 l1/\eW h l1 g:=by
 refine⟨_,_,_,cR _ _,⟨.sl n sz (l.map λx=>[.v (c x)]),OS.mk (sE l),by simp[OV.val],rfl⟩,?_⟩
 rw[OV.lM,wT,tH]
 exact eW.one hn
def jV (sz len:Nat):Option Nat->aC
 |none=>.aV
 |some n=>.os n sz 0 len
theorem bJ (sz len:Nat):jV sz len none=.aV:=rfl
theorem aY (sz len n:Nat):jV sz len (some n)=.os n sz 0 len:=rfl
def wU (g:Heap) (es:List (List OV)):Option Nat->Prop
 |none=>es=[]
 |some n=>g n=none
theorem jP (g:Heap) (es:List (List OV)):wU g es none=(es=[]):=rfl
theorem kM (g:Heap) (es:List (List OV)) (n:Nat):wU g es (some n)=(g n=none):=rfl
def gov (sz:Nat) (es:List (List OV)):Option Nat->OV
 |none=>.nil sz
 |some n=>.sl n sz es
theorem bGO (sz:Nat) (es:List (List OV)):gov sz es none=.nil sz:=rfl
theorem bGP (sz:Nat) (es:List (List OV)) (n:Nat):gov sz es (some n)=.sl n sz es:=rfl
theorem wC {α:Type} {R:α->List OV->Prop} {sz:Nat} {l:List α} {es:List (List OV)} {g:Heap} {o:Option Nat} (h:OR R l es) (hs:wU g es o):OS R sz l (gov sz es o):=by
 cases o with
 |none=>rw[jP]at hs;subst hs;exact .inl ⟨rfl,by have:=h.length;simpa using this⟩
 |some n=>exact OS.mk h
theorem wL {sz:Nat} {es:List (List OV)} {o:Option Nat}:Sub (jV sz es.length o) (gov sz es o).val:=by
 cases o with
 |none=>exact Sub.nil _ _
 |some n=>exact Sub.refl _
theorem q9 {sz:Nat} {es:List (List OV)} {h g:Heap} {o:Option Nat} (x:eW h (OV.cW es) g) (hs:wU g es o):eW h (gov sz es o).rows (c7 g (.row sz (OV.cells es)) o):=by
 cases o with
 |none=>rw[jP]at hs;subst hs;rw[bGO,OV.lY,aN];simpa[OV.cW]using x
 |some n=>rw[bGP,OV.lM,aL];exact x.row hs
theorem aP5 (es:List (List OV)):List.take es.length (OV.cells es)=OV.cells es:=gF (by simp[OV.cells])
theorem aHA (es:List (List OV)) (e:List OV):OV.cells (es++[e])=OV.cells es++[e.map λc=>Cell.v c.val]:=by rw[aWX];rfl
theorem aUG (e:List OV):OV.cells [e]=[e.map λc=>Cell.v c.val]:=rfl
theorem fR (sz len:Nat) (o:Option Nat):(jV sz len o).flat=true:=by cases o <;> rfl
theorem iN (sz len:Nat) (o:Option Nat):(jV sz len o).cells=[jV sz len o]:=by cases o <;> rfl
theorem aUI (es:List (List OV)):(OV.cells es).length=es.length:=by simp[OV.cells]
theorem OR.snoc {α:Type} {R:α->List OV->Prop} {l:List α} {es:List (List OV)} {e:List OV} {k:Nat} (h:OR R (l.take k) es) (hk:k<l.length) (he:R l[k] e):OR R (l.take (k+1)) (es++[e]):=by
 rw[kP hk]
 exact OR.append h ⟨he,trivial⟩
theorem eW.snoc {h g g1:Heap} {es:List (List OV)} {e:List OV} (x:eW h (OV.cW es) g) (y:eW g (OV.cQ e) g1):eW h (OV.cW (es++[e])) g1:=by
 rw[aT0];exact x.append y
theorem eZ {g:Heap} {R:cF} {o:Option Nat} {m:Nat} (hg:g m=none) (hon:∀ n,o=some n->¬n=m):c7 g R o m=none:=by
 cases o with
 |none=>exact hg
 |some n =>
  have:=hon n rfl
  rw[aL,aD _ _ _ _ λe=>this e.symm];exact hg
theorem aUH:OV.cells []=[]:=rfl
theorem nB {n m:Nat} {g:Heap} {x y:cF} (h:¬n=m):bT (bT g n x) m y=bT (bT g m y) n x:=by
 funext q;simp only[fN];split <;> split <;> simp_all
theorem aOS {α:Type} (c:α->aC) {l:List α} {sz m:Nat} {g:Heap} (hm:g m=none) :
  ∃ (y:OV) (g1:Heap),OS (oP c) sz l y/\y.val=.os m sz 0 l.length/\eW g y.rows g1/\g1=bT g m (.row sz ((l.map λx=>[c x]).map (List.map .v))) :=
 ⟨.sl m sz (l.map λx=>[.v (c x)]),_,OS.mk (sE l),by simp[OV.val],by rw[OV.lM,wT,tH];exact eW.one hm,rfl⟩
theorem aL0 {α:Type} (a b c:List α):(a++b++c).Perm (a++c++b):=by
 rw[qT,qT];exact List.Perm.append_left a List.perm_append_comm
def Heap.wk (g h:Heap):Prop:=∀ E w,Rel E h w->Rel E g w/\∀ b,vO E h w b->vO E g w b
theorem Heap.iO {g h:Heap} (hl:g.le h):g.wk h:=λE w R=>⟨R.forget hl,λb i=>vO.le hl i⟩
theorem Heap.wk.trans {a b c:Heap} (x:a.wk b) (y:b.wk c):a.wk c:=λE w R =>
 ⟨(x E w (y E w R).1).1,λd i=>(x E w (y E w R).1).2 d ((y E w R).2 d i)⟩
theorem Heap.wk.ev {g h:Heap} (x:g.wk h) {E:Env} {w:World} (R:Rel E h w):Ev E h w E g w :=
 ⟨fL _,λb hb=>⟨rfl,(x E w R).2 b hb⟩,λ_ _=>rfl,λ_ hn=>⟨rfl,hn⟩,rfl,rfl⟩
theorem tE.wk {P:Program} {N:Nat} {c:Code} {Q:Exit->cJ->Heap->Prop} {τ:cJ} {h g:Heap} (hl:g.wk h) (x:tE P N c Q τ g):tE P N c Q τ h :=
 λds E w a R r=>Code.wp_mono (λe a' w' y=>xF.trans (hl.ev R) y) (x ds E w a (hl E w R).1 (r.ev (hl.ev R)))
theorem tE.bGQ {P:Program} {N:Nat} {c:Code} {Q:Exit->cJ->Heap->Prop} {τ:cJ} {h:Heap} {α:Type} (S:α->cJ) (H:α->Heap) (side:α->Prop) (μ:α->Nat) (x₀:α)
  (h₀:dT (S x₀) τ/\(H x₀).wk h/\side x₀)
  (round:∀ x,side x->tE P N c (aBR (λτ' h'=>∃ x',dT (S x') τ'/\(H x').wk h'/\side x'/\μ x'<μ x) Q) (S x) (H x)):tE P N (.loop c) Q τ h :=
 tE.loop (λx τ h=>dT (S x) τ/\(H x).wk h/\side x) μ x₀ h₀ λx τ h ⟨h1,h2,h3⟩ =>
  tE.wk h2 (tE.weaken h1 (Heap.le_refl _) ((round x h3).mono λe τ h q=>by
   cases e <;> simp only[aBR]at q ⊢ <;> first|exact q|(obtain⟨x',a,b,c,d⟩:=q;exact⟨x',⟨a,b,c⟩,d⟩)))
theorem bGQ {P:Program} {N:Nat} {keep ib:List Nat} {mk:Marks} {c:Code} {Q:Exit->cJ->Heap->Prop} {τ:cJ} {h:Heap} {t:Tag (Code.loop c,Q)} {α:Type} (hmix:P.follows .mixedOrders=true) (hc:iV N mk c=true) (S:α->cJ) (H:α->Heap) (side:α->Prop) (μ:α->Nat) (x₀:α)
  (h₀:dT (S x₀) τ/\(H x₀).wk h/\side x₀)
  (round:∀ x,side x->p2 P N keep ib mk c (λτ' h'=>∃ x',dT (S x') τ'/\(H x').wk h'/\side x'/\μ x'<μ x) Q (S x) (H x) ()):aLU P N (.loop c) Q τ h t :=
 tE.bGQ S H side μ x₀ h₀ λx hx=>aQY hmix c _ _ _ _ hc (round x hx)
theorem a4V {P:Program} {N:Nat} (keep ib:List Nat) (mk:Marks) {c:Code} {Q:Exit->cJ->Heap->Prop} {τ:cJ} {h:Heap} {t:Tag (Code.loop c,Q)} {α:Type} (S:α->cJ) (H:α->Heap) (side:α->Prop) (μ:α->Nat) (x₀:α)
  (h₀:dT (S x₀) τ/\(H x₀).wk h/\side x₀)
  (round:∀ x,side x->p2 P N keep ib mk c (λτ' h'=>∃ x',dT (S x') τ'/\(H x').wk h'/\side x'/\μ x'<μ x) Q (S x) (H x) ()) (hmix:P.follows .mixedOrders=true:=by exact mix) (hc:iV N mk c=true:=by kernel_rfl):aLU P N (.loop c) Q τ h t :=
 bGQ (keep:=keep) (ib:=ib) (mk:=mk) hmix hc S H side μ x₀ h₀ round
def aFA (x y:Cell):Prop:=∀ E h w c S,aA6 E h w x c S->aA6 E h w y c S
theorem aFA.refl (x:Cell):aFA x x:=λ_ _ _ _ _ r=>r
theorem aFA.v {x y:aC} (s:Sub x y):aFA (.v x) (.v y):=λE h w c S r=>by
 cases r with
 |v _ _ _ h1 hx=>exact .v _ _ _ h1 (s _ _ _ _ hx)
def iM:List (List Cell)->List (List Cell)->Prop
 | [],[]=>True
 |a::l,b::m=>(a.length=b.length/\∀ (j:Nat) (x:Cell),b[j]?=some x->∃ y,a[j]?=some y/\aFA y x)/\iM l m
 | _,_=>False
theorem iM.refl:∀ l,iM l l
 | []=>trivial
 |a::l=>⟨⟨rfl,λj x h=>⟨x,h,.refl x⟩⟩,iM.refl l⟩
theorem iM.last {a b:List Cell} (hl:a.length=b.length) (hc:∀ (j:Nat) (x:Cell),b[j]?=some x->∃ y,a[j]?=some y/\aFA y x):∀ l,iM (l++[a]) (l++[b])
 | []=>⟨⟨hl,hc⟩,trivial⟩
 |c::l=>⟨⟨rfl,λj x h=>⟨x,h,.refl x⟩⟩,iM.last hl hc l⟩
theorem iM.length:∀ {l m},iM l m->l.length=m.length
 | [],[],_=>rfl
 |a::l,b::m,h=>by rw[al2,al2,iM.length h.2]
 | [],_::_,h=>h.elim
 | _::_,[],h=>h.elim
theorem iM.size {sz:Nat}:∀ {l m},iM l m->(∀ e∈l,e.length=sz)->∀ e∈m,e.length=sz
 | [],[],_,_=>by simp
 |a::l,b::m,h,hs=>λe he=>by
  rcases p7.1 he with rfl|he
  ·rw[←h.1.1];exact hs a al5
  ·exact iM.size h.2 (λe he=>hs e (al6 _ he)) e he
 | [],_::_,h,_=>h.elim
 | _::_,[],h,_=>h.elim
theorem iM.kE:∀ {l m} (i j:Nat) (x:Cell),iM l m->Hl.kE m i j=some x->∃ y,Hl.kE l i j=some y/\aFA y x
 | [],[],i,j,x,_,h=>by simp[Hl.kE]at h
 |a::l,b::m,0,j,x,w,h=>by simp only[Hl.kE,a32,a33]at h ⊢;exact w.1.2 j x h
 |a::l,b::m,i+1,j,x,w,h=>by simp only[Hl.kE,aUB]at h ⊢;exact iM.kE i j x w.2 h
 | [],_::_,_,_,_,w,_=>w.elim
 | _::_,[],_,_,_,w,_=>w.elim
theorem Heap.aHL {g h:Heap} {m sz:Nat} {es es':List (List Cell)} (hg:∀ q,q≠m->g q=h q) (hm:h m=some (.row sz es)) (gm:g m=some (.row sz es')) (hw:iM es es'):g.wk h:=λE w R=>by
 have live:∀ q o,g q=some o->∃ o',h q=some o'/\(o.live->o'.live):=λq o ho=>by
  by_cases e:q=m
  ·subst e;exact⟨_,hm,λ_=>trivial⟩
  ·rw[hg q e]at ho;exact⟨o,ho,id⟩
 have live':∀ q o,h q=some o->∃ o',g q=some o'/\(o.live->o'.live):=λq o ho=>by
  by_cases e:q=m
  ·subst e;exact⟨_,gm,λ_=>trivial⟩
  ·rw[←hg q e]at ho;exact⟨o,ho,id⟩
 have zW:∀ b,vO E h w b->vO E g w b:=λb i=>⟨i.1,λq o ho hl=>by
  obtain⟨o',h1,h2⟩:=live q o ho;exact i.2 q o' h1 (h2 hl)⟩
 refine⟨⟨R.fin,λn hn=>R.dom n λe=>?_,λn o b hn hl=>?_,λn o n' o' b hn hl hn' hl'=>?_,λn o hn=>?_,R.laid.zW zW⟩,zW⟩
 ·by_cases e2:n=m
  ·subst e2;rw[hm]at e;cases e
  ·rw[hg n e2]at hn;exact hn e
 ·obtain⟨o2,h1,h2⟩:=live n o hn
  exact R.lt n o2 b h1 (h2 hl)
 ·obtain⟨o2,h1,h2⟩:=live n o hn
  obtain⟨o3,h3,h4⟩:=live n' o' hn'
  exact R.apart n o2 n' o3 b h1 (h2 hl) h3 (h4 hl')
 ·by_cases e:n=m
  ·subst e
   rw[gm]at hn
   obtain rfl:=dY hn
   rcases R.obj n _ hm with⟨b,o2,hl,ra⟩|⟨he,hl⟩
   ·refine .inl ⟨b,o2,hl,ra.hb,hw.size ra.size,?_⟩
    obtain⟨cs,t,cv,T,h1,h2,h3,h4,h5,h6⟩:=ra.mem
    refine⟨cs,t,cv,T,h1,by rw[←hw.length];exact h2,h3,h4,λi j x hx=>?_,λi j x hx=>?_⟩
    ·obtain⟨y,hy,_⟩:=hw.kE i j x hx;exact h5 i j y hy
    ·obtain⟨y,hy,hyx⟩:=hw.kE i j x hx;exact(hyx _ _ _ _ _ (h6 i j y hy)).zW zW
   ·subst he
    have:es'=[]:=by have:=hw.length;simp at this;exact aZM.1 this.symm
    exact .inr ⟨this,hl⟩
  ·rw[hg n e]at hn
   exact(R.obj n o hn).zW zW
theorem iM.sub {xs ys:List aC} (s:bQ xs ys) (A:List (List Cell)):iM (A++[xs.map .v]) (A++[ys.map .v]):=by
 refine iM.last (by simpa using s.1) (λj x hx=>?_) A
 rw[rM,xD]at hx
 obtain⟨y,hy,rfl⟩:=hx
 have hlt:j<ys.length:=(mU.1 hy).1
 have hxl:j<xs.length:=by rw[s.1];exact hlt
 have hx2:xs[j]?=some xs[j]:=b6 hxl
 exact⟨.v xs[j],by rw[rM,hx2];rfl,aFA.v (s.2 j _ _ hx2 hy)⟩
theorem Shift.wk {r' r:aC} {h' h:Heap} (s:Sub r' r) (hl:h.wk h'):Shift r' h' r h:=λE w v R q =>
 ⟨E,hl.ev R,(hl E w R).1,fY.zW (hl E w R).2 (s _ _ _ _ q)⟩
theorem eW.field {h g g':Heap} {A l l' B:List (Nat×cF)} (x:eW h (A++(l++B)) g) (c:Chg g g' l l'):eW h (A++(l'++B)) g':=x.chg (Chg.mid x.oJ x.nodup c)
abbrev Q4:=Option (Nat×Nat×Nat×Nat)
def q1:Q4->Option Nat|none=>none|some x=>some x.1
def q2:Q4->Option Nat|none=>none|some x=>some x.2.1
def q3:Q4->Option Nat|none=>none|some x=>some x.2.2.1
def q4:Q4->Option Nat|none=>none|some x=>some x.2.2.2
theorem jI:q1 none=none:=rfl
theorem jJ:q2 none=none:=rfl
theorem jK:q3 none=none:=rfl
theorem jL:q4 none=none:=rfl
theorem iH (a b c d:Nat):q1 (some (a,b,c,d))=some a:=rfl
theorem iI (a b c d:Nat):q2 (some (a,b,c,d))=some b:=rfl
theorem iJ (a b c d:Nat):q3 (some (a,b,c,d))=some c:=rfl
theorem iK (a b c d:Nat):q4 (some (a,b,c,d))=some d:=rfl
def a96 (g:Heap) (n m k:Nat):Q4->Prop
 |none=>k=0
 |some (a,b,c,d)=>(g a=none/\g b=none/\g c=none/\g d=none)/\(a≠b/\a≠c/\a≠d/\b≠c/\b≠d/\c≠d)/\(a≠n/\b≠n/\c≠n/\d≠n)/\(a≠m/\b≠m/\c≠m/\d≠m)
theorem aC9 (g:Heap) (n m k:Nat):a96 g n m k none=(k=0):=rfl
theorem qD (g:Heap) (n m k a b c d:Nat):a96 g n m k (some (a,b,c,d))=((g a=none/\g b=none/\g c=none/\g d=none)/\(a≠b/\a≠c/\a≠d/\b≠c/\b≠d/\c≠d)/\(a≠n/\b≠n/\c≠n/\d≠n)/\(a≠m/\b≠m/\c≠m/\d≠m)):=rfl
def kY (k:Nat) (e:List Cell):List (List Cell):=List.replicate k e
theorem aF5 (k:Nat) (e:List Cell):List.take k (kY k e)++[e]=kY (k+1) e:=by
 rw[kY,kY,gF aS,List.replicate_succ']
theorem aZ8 (k:Nat) (e:List Cell):(kY k e).length=k:=al9
theorem OR.kY {α:Type} {R:α->List OV->Prop} {x:α} {e:List OV} (h:R x e):∀ k,OR R (List.replicate k x) (List.replicate k e)
 |0=>trivial
 |k+1=>⟨h,OR.kY h k⟩
theorem aDA (e:List OV) (k:Nat):OV.cells (List.replicate k e)=Hl.kY k (e.map λc=>Cell.v c.val):=by simp[OV.cells,Hl.kY]
theorem gR {e:List OV} (h:OV.cQ e=[]):∀ k,OV.cW (List.replicate k e)=[]
 |0=>rfl
 |k+1=>by rw[bKK,OV.cW,h,gR h k];rfl
theorem iM.kY {a b:List aC} (s:bQ a b):∀ k,iM (Hl.kY k (a.map .v)) (Hl.kY k (b.map .v))
 |0=>trivial
 |k+1=>by
  have h:=iM.sub s []
  exact⟨h.1,iM.kY s k⟩
theorem aJ7 (e:List Cell):kY 1 e=[e]:=rfl
theorem eW.four {h g:Heap} {L:List (Nat×cF)} (w:eW h L g) {a b c d:Nat} {ra rb rc rd:cF} (ha:g a=none) (hb:g b=none) (hc:g c=none) (hd:g d=none)
  (ab:a≠b) (ac:a≠c) (ad:a≠d) (bc:b≠c) (bd:b≠d) (cd:c≠d):eW h (L++[(a,ra),(b,rb),(c,rc),(d,rd)]) (bT (bT (bT (bT g a ra) b rb) c rc) d rd):=by
 have h1:=w.row (o:=ra) ha
 have h2:=h1.row (n:=b) (o:=rb) (by rw[aD _ _ _ _ ab.symm];exact hb)
 have h3:=h2.row (n:=c) (o:=rc) (by rw[aD _ _ _ _ bc.symm,aD _ _ _ _ ac.symm];exact hc)
 have h4:=h3.row (n:=d) (o:=rd) (by rw[aD _ _ _ _ cd.symm,aD _ _ _ _ bd.symm,aD _ _ _ _ ad.symm];exact hd)
 refine h4.perm ?_
 exact(List.Perm.append_right L (List.reverse_perm [(a,ra),(b,rb),(c,rc),(d,rd)])).trans List.perm_append_comm
def bPZ (R:List OV->Prop) (z:List aC):Prop:=∃ e,R e/\OV.cQ e=[]/\Sub (.agg z) (.agg (e.map OV.val))
def bS2 (w:aC->aC):Prop:=∀ x y,Sub x y->Sub (w x) (w y)
theorem bQ.mid {x y:aC} (s:Sub x y) (b:List aC):∀ a:List aC,bQ (a++x::b) (a++y::b)
 | []=>.cons s (.refl b)
 |z::a=>.cons (.refl z) (bQ.mid s b a)
theorem kJ (a b:List aC):bS2 λx=>.iF (a++x::b):=λ_ _ s=>Sub.iF (bQ.mid s b a)
theorem rV {R:List OV->Prop} {w:aC->aC} {z:List aC} {h h':Heap} (hz:bPZ R z) (hw:bS2 w) (hl:h.le h'):∃ r1 g l,Shift (w (.agg z)) h' r1 g/\QA R w r1 l/\eW h l g:=by
 obtain⟨e,h1,h2,h3⟩:=hz
 exact⟨_,h,_,Shift.of (hw _ _ h3) hl,⟨e,h1,rfl,h2.symm⟩,eW.nil h⟩
theorem aF6 {R:List OV->Prop} {w:aC->aC} {e:List OV} {h h' g:Heap} (hR:R e) (hn:eW h (OV.cQ e) g) (hl:g.le h'):∃ r1 g l,Shift (w (.agg (e.map OV.val))) h' r1 g/\QA R w r1 l/\eW h l g :=
 ⟨_,g,_,Shift.of (Sub.refl _) hl,⟨e,hR,rfl,rfl⟩,hn⟩
theorem xK {α:Type} (c:α->aC) (l:List α) (k:Nat) (x:α):((l.map λx=>[c x]).map (List.map Cell.v)).set k [Cell.v (c x)]=((l.set k x).map λx=>[c x]).map (List.map Cell.v):=by
 rw[aZO,aZO,aZP];rfl
theorem OR.zX {α:Type} {c:α->aC}:∀ {l:List α} {es:List (List OV)},OR (oP c) l es->es=l.map λx=>[.v (c x)]
 | [],[],_=>rfl
 |x::l,e::es,h=>by rw[lU,←OR.zX h.2,show e=[.v (c x)]from h.1]
 | [],_::_,h=>h.elim
 | _::_,[],h=>h.elim
theorem OS.zX {α:Type} {c:α->aC} {sz:Nat} {l:List α} {y:OV} (h:OS (oP c) sz l y):(y=.nil sz/\l=[])∨∃ n,y=.sl n sz (l.map λx=>[.v (c x)]):=by
 rcases h with h|⟨n,es,rfl,h⟩
 ·exact .inl h
 ·exact .inr ⟨n,by rw[h.zX]⟩
theorem OV.jX {α:Type} (c:α->aC) (n sz:Nat) (l:List α):(OV.sl n sz (l.map λx=>[.v (c x)])).val=.os n sz 0 l.length:=by rw[OV.p8,k5]
theorem eW.aNP {h g:Heap} (e1:List OV) {e2:List OV} {n sz:Nat} {es:List (List OV)} (x:eW h (OV.cQ (e1++OV.sl n sz es::e2)) g):g n=some (.row sz (OV.cells es)) :=
 x.oJ (n,_) (by rw[OV.kX,OV.gG,OV.lM];simp)
theorem eW.aHM {α:Type} {c:α->aC} {h g:Heap} (e1:List OV) {e2:List OV} {n sz:Nat} {l:List α} (x:eW h (OV.cQ (e1++OV.sl n sz (l.map λx=>[.v (c x)])::e2)) g):g n=some (.row sz ((l.map λx=>[c x]).map (List.map .v))):=by
 rw[x.aNP e1,tH]
theorem eW.bZA {h g:Heap} (e1:List OV) {e2:List OV} {n sz:Nat} {es es':List (List OV)} (x:eW h (OV.cQ (e1++OV.sl n sz es::e2)) g) (h0:OV.cW es'=OV.cW es) :
  eW h (OV.cQ (e1++OV.sl n sz es'::e2)) (bT g n (.row sz (OV.cells es'))):=by
 rw[OV.kX,OV.gG,OV.lM]at x ⊢
 rw[h0]
 have o1:=x.oJ.right.left
 have nd:=aU1 x.nodup
 exact x.field (Chg.set o1 nd)
theorem eW.aQ6 {α:Type} {c:α->aC} {h g:Heap} (e1:List OV) {e2:List OV} {n sz:Nat} {l l':List α} (x:eW h (OV.cQ (e1++OV.sl n sz (l.map λx=>[.v (c x)])::e2)) g) :
  eW h (OV.cQ (e1++OV.sl n sz (l'.map λx=>[.v (c x)])::e2)) (bT g n (.row sz ((l'.map λx=>[c x]).map (List.map .v)))):=by
 rw[←tH];exact x.bZA e1 (by rw[wT,wT])
theorem eW.pP {h g:Heap} (e1:List OV) {e2:List OV} {n sz:Nat} {es:List (List OV)} {m sz':Nat} {es':List (List OV)} (x:eW h (OV.cQ (e1++OV.sl n sz es::e2)) g) (hm:OV.sl m sz' es'∈e2):n≠m:=by
 have nd:=x.nodup
 rw[OV.kX,OV.gG,OV.lM,eG]at nd
 have n2:=(aDX.1 nd).2.1
 rw[aED]at n2
 simp only[cS,lU,tA,aZN,pH,not_or]at n2
 intro e
 refine n2.1.2 ?_
 subst e
 exact vZ.2 ⟨(n,.row sz' (OV.cells es')),OV.aJ2 hm (by rw[OV.lM];exact al5),rfl⟩
theorem eK {g:Heap} {n m:Nat} {o:cF} (hn:g n=some o) (hm:g m=none):n≠m:=λe=>by rw[e,hm]at hn;cases hn
theorem bGR {P:Program} {N:Nat} {keep ib:List Nat} {mk:Marks} {c:Code} {Q:Exit->cJ->Heap->Prop} {τ:cJ} {h:Heap} {t:Tag (Code.loop c,Q)} {α:Type} (hmix:P.follows .mixedOrders=true) (hc:iV N mk c=true) (S:α->cJ) (side:α->Prop) (μ:α->Nat) (x₀:α)
  (h₀:dT (S x₀) τ/\side x₀)
  (round:∀ x,side x->p2 P N keep ib mk c (λτ' h'=>∃ x',dT (S x') τ'/\h.le h'/\side x'/\μ x'<μ x) Q (S x) h ()):aLU P N (.loop c) Q τ h t :=
 a09 hmix hc S (λ_=>h) side μ x₀ ⟨h₀.1,Heap.le_refl _,h₀.2⟩ round
theorem aFB {h:Heap} {n:Nat} {o:cF} (hn:h n=some o):bT h n o=h:=by
 funext q;simp only[fN];split
 ·subst_vars;exact hn.symm
 ·rfl
theorem bLU {P:Program} {N:Nat} {keep ib:List Nat} {mk:Marks} {c:Code} {Q:Exit->cJ->Heap->Prop} {τ:cJ} {h:Heap} {t:Tag (Code.loop c,Q)} {α:Type} (hmix:P.follows .mixedOrders=true) (hc:iV N mk c=true) (S:α->cJ) (n:Nat) (R:α->cF) (side:α->Prop) (μ:α->Nat) (x₀:α)
  (h₀:dT (S x₀) τ/\h n=some (R x₀)/\side x₀)
  (round:∀ x,side x->p2 P N keep ib mk c (λτ' h'=>∃ x',dT (S x') τ'/\(bT h n (R x')).le h'/\side x'/\μ x'<μ x) Q (S x) (bT h n (R x)) ()):aLU P N (.loop c) Q τ h t :=
 a09 hmix hc S (λx=>bT h n (R x)) side μ x₀ ⟨h₀.1,by simp only[aFB h₀.2.1];exact Heap.le_refl _,h₀.2.2⟩ round
theorem Heap.cD {g h:Heap} {n:Nat} {o:cF} (hl:g.le h):(bT g n o).le (bT h n o):=λq=>by
 simp only[fN];split
 ·exact .inr rfl
 ·exact hl q
def aL1 (h0:Heap) (nb sz:Nat) (Q:aC->List OV->Prop):aC->Heap->Prop:=λr h'=>∃ e' g',Q r e'/\h'=bT g' nb (.row sz (OV.cells [e']))/\g' nb=none/\eW h0 (OV.cQ e') g'
theorem eW.over {h g:Heap} {l:List (Nat×cF)} {n:Nat} {o:cF} (w:eW h l g) (hn:g n=none):eW (bT h n o) l (bT g n o):=by
 have hne:∀ m∈cS l,m≠n:=λm hm e=>by
  obtain⟨x,hx⟩:=eV.1 hm
  have:=w.oJ (m,x) hx
  rw[e,hn]at this;cases this
 refine⟨w.nodup,λm hm=>?_,λp hp=>?_,λm hm=>?_⟩
 ·rw[aD _ _ _ _ (hne m hm)];exact w.fresh m hm
 ·rw[aD _ _ _ _ (hne p.1 (eV.2 ⟨p.2,hp⟩))];exact w.oJ p hp
 ·simp only[fN];split
  ·rfl
  ·exact w.upto m hm
theorem eW.base {h g:Heap} {l:List (Nat×cF)} {n:Nat} {o:cF} (w:eW (bT h n o) l g) (hn:h n=none):∃ g',g'.le g/\eW h l g'/\g' n=none/\g=bT g' n o:=by
 have hne:∀ m∈cS l,m≠n:=λm hm e=>by
  have:=w.fresh m hm
  rw[e,bG]at this;cases this
 have hg:g n=some o:=by
  rw[w.upto n (λhm=>hne n hm rfl),bG]
 refine⟨λm=>if m=n then none else g m,λm=>?_,⟨w.nodup,λm hm=>?_,λp hp=>?_,λm hm=>?_⟩,by simp,?_⟩
 ·by_cases e:m=n <;> simp[e]
 ·have:=w.fresh m hm;rwa [aD _ _ _ _ (hne m hm)]at this
 ·simp only[if_neg (hne p.1 (eV.2 ⟨p.2,hp⟩))];exact w.oJ p hp
 ·show(if m=n then none else g m)=h m
  split
  ·subst_vars;exact hn.symm
  ·rename_i e;rw[w.upto m hm,aD _ _ _ _ e]
 ·funext m;simp only[fN];split
  ·subst_vars;exact hg
  ·rename_i e;simp
theorem cV (e:List OV):OV.cells [e]=[e.map λc=>Cell.v c.val]:=rfl
theorem View.box {T:List aC} {g:Heap} {nb sz:Nat} {e:List OV} (hd:e.map OV.u3=T) (hn:g nb=none) (ho:u4 g (OV.cQ e)):View (bT g nb (.row sz (OV.cells [e]))) (.op nb sz 0 0) (.ip sz [T] 0 0):=by
 have:=View.op (h:=bT g nb (.row sz (OV.cells [e]))) (n:=nb) (sz:=sz) (i:=0) (off:=0) [e] (by rw[bG]) aS (by
  have h1:OV.cW [e]=OV.cQ e:=by simp[OV.cW]
  rw[h1];exact ho.up hn)
 have h2:OV.k8 [e]=[T]:=by rw[OV.qC];simp[hd]
 rwa [h2]at this
theorem eW.le {h g:Heap} {l:List (Nat×cF)} (w:eW h l g):h.le g:=λq=>by
 by_cases hq:q∈cS l
 ·exact .inl (w.fresh q hq)
 ·exact .inr (w.upto q hq).symm
theorem bDH {α:Type} {A B:List α} {x y:α}:(A++x::B).set A.length y=A++y::B:=by simp
theorem eW.aU2 {h g g2:Heap} (e1:List OV) {e2:List OV} {n sz:Nat} {es:List (List OV)} {k:Nat} {enew:List OV} (x:eW h (OV.cQ (e1++OV.sl n sz es::e2)) g) (y:eW g (OV.cQ enew) g2) (hk:k<es.length) :
  ∃ g3,g3.le (bT g2 n (.row sz (OV.cells (es.set k enew))))/\eW h (OV.cQ (e1++OV.sl n sz (es.set k enew)::e2)) g3:=by
 obtain⟨A,old,B,rfl,hA⟩:∃ A old B,es=A++old::B/\A.length=k:=⟨es.take k,es[k],es.drop (k+1),by simp,by simp;omega⟩
 subst hA
 rw[bDH]
 have z:=x.append y
 rw[OV.kX,OV.gG,OV.lM,aJ4,aGY]at z
 have z2:=z.perm (b:=OV.cQ old++(OV.cQ e1++((n,.row sz (OV.cells (A++old::B)))::(OV.cW A++(OV.cQ enew++OV.cW B))++OV.cQ e2))) (by
  classical
  rw[List.perm_iff_count]
  intro q
  simp only[bFD,aED,List.count_cons]
  omega)
 have z3:=z2.drop
 refine⟨bT (u5 g2 (cS (OV.cQ old))) n (.row sz (OV.cells (A++enew::B))),Heap.cD (aQ3 _ _),?_⟩
 rw[OV.kX,OV.gG,OV.lM,aJ4,aGY]
 exact z3.field (l:=(n,.row sz (OV.cells (A++old::B)))::(OV.cW A++(OV.cQ enew++OV.cW B))) (Chg.set z3.oJ.right.left (aU1 z3.nodup))
theorem tI (es:List (List OV)) (k:Nat) (e:List OV) (c:List Cell) (hc:c=e.map λc=>Cell.v c.val):(OV.cells es).set k c=OV.cells (es.set k e):=by
 rw[hc,OV.cells,OV.cells,aZP]
theorem wD {es:List (List OV)} {k:Nat} {e:List OV} (h:es[k]?=some e):(OV.cells es)[k]?=some (e.map λc=>Cell.v c.val):=by
 rw[OV.cells,rM,h];rfl
theorem OR.a1L {α:Type} {R:α->List OV->Prop}:∀ {l:List α} {es:List (List OV)},OR R l es->∀ (k:Nat) x,l[k]?=some x->∃ e,es[k]?=some e/\R x e
 | [],[],_,k,x,h=>by simp at h
 |a::l,b::es,h,0,x,e=>by simp at e;subst e;exact⟨b,rfl,h.1⟩
 |a::l,b::es,h,k+1,x,e=>OR.a1L h.2 k x (by simpa using e)
 | [],_::_,h,_,_,_=>h.elim
 | _::_,[],h,_,_,_=>h.elim
theorem OR.set {α:Type} {R:α->List OV->Prop}:∀ {l:List α} {es:List (List OV)},OR R l es->∀ (k:Nat) x e,R x e->OR R (l.set k x) (es.set k e)
 | [],[],_,k,x,e,_=>by simp[OR]
 |a::l,b::es,h,0,x,e,he=>⟨he,h.2⟩
 |a::l,b::es,h,k+1,x,e,he=>⟨h.1,OR.set h.2 k x e he⟩
 | [],_::_,h,_,_,_,_=>h.elim
 | _::_,[],h,_,_,_,_=>h.elim
theorem OS.some {α:Type} {R:α->List OV->Prop} {sz:Nat} {l:List α} {y:OV} (h:OS R sz l y) (hl:0<l.length):∃ n es,y=.sl n sz es/\OR R l es:=by
 rcases h with⟨_,h⟩|h
 ·rw[h]at hl;simp at hl
 ·exact h
def leX (S:List Nat) (g h:Heap):Prop:=∀ q,q∉S->g q=none∨g q=h q
theorem jM {g h:Heap} (x:leX [] g h):g.le h:=λq=>x q aS
theorem gN (S:List Nat) (g:Heap):leX S g g:=λq _=>.inr rfl
theorem jN {S:List Nat} {g h:Heap} {n:Nat} {o:cF} (hn:h n=some o) (x:leX (n::S) g h):leX S (bT g n o) h:=λq hq=>by
 simp only[fN];split
 ·subst_vars;exact .inr hn.symm
 ·rename_i e;exact x q (by simp only[p7,not_or];exact⟨e,hq⟩)
theorem fS {S:List Nat} {g h:Heap} {n:Nat} {o:cF} (hn:n∈S∨g n=none) (x:leX S g h):leX S g (bT h n o):=λq hq=>by
 simp only[fN];split
 ·subst_vars
  rcases hn with hn|hn
  ·exact absurd hn hq
  ·exact .inl hn
 ·exact x q hq
theorem aFC {R:List OV->Prop} {w:aC->aC} {e:List OV} {h h' g:Heap} {r:aC} (hr:r=w (.agg (e.map OV.val))) (hR:R e) (hn:eW h (OV.cQ e) g) (hl:g.le h'):∃ r1 g l,Shift r h' r1 g/\QA R w r1 l/\eW h l g:=by
 rw[hr];exact aF6 hR hn hl
theorem Heap.le_none {g h:Heap} (hl:g.le h) {n:Nat} (hn:h n=none):g n=none:=by
 rcases hl n with e|e
 ·exact e
 ·rw[e,hn]
theorem gK.wk {P:Program} {f:FuncId} {args:List aC} {g h:Heap} {K:aC->Heap->Prop} (hl:g.wk h) (a:gK P f args g K):gK P f args h K :=
 ⟨a.1,λE w vs R r=>by
  obtain⟨R',hi⟩:=hl E w R
  exact(a.2 E w vs R' (eT.zW hi r)).mono λe w' q=>by
   cases e with
   |returned v =>
    obtain⟨r,h',E',k,ev,R2,r2⟩:=q
    exact⟨r,h',E',k,(hl.ev R).trans ev,R2,r2⟩
   | _=>exact q.elim⟩
theorem aH.wk {P:Program} {f:FuncId} {args:List aC} {g h:Heap} {K:aC->Heap->Prop} {t:Tag K} (hl:g.wk h) (a:aH P f args g K t):aH P f args h K t:=gK.wk hl a
theorem gK.shift {P:Program} {f:FuncId} {args:List aC} {h:Heap} {K K':aC->Heap->Prop} (a:gK P f args h K') (hk:∀ r h',K' r h'->∃ g:Heap,g.wk h'/\K r g):gK P f args h K :=
 ⟨a.1,λE w vs R r=>by
  exact(a.2 E w vs R r).mono λe w' q=>by
   cases e with
   |returned v =>
    obtain⟨r,h',E',k,ev,R2,r2⟩:=q
    obtain⟨g,hg,k'⟩:=hk r h' k
    obtain⟨R3,hi⟩:=hg E' w' R2
    exact⟨r,g,E',k',ev.trans (hg.ev R2),R3,fY.zW hi r2⟩
   | _=>exact q.elim⟩
theorem iM.setAt {xs ys:List aC} (s:bQ xs ys):∀ (l:List (List Cell)) (k:Nat),iM (l.set k (xs.map .v)) (l.set k (ys.map .v))
 | [],k=>by simp[iM]
 |a::l,0=>by
  have h:=iM.sub s []
  exact⟨h.1,iM.refl l⟩
 |a::l,k+1=>⟨(iM.refl [a]).1,iM.setAt s l k⟩
def upL (c:List Int) (k:Nat):List Int:=c.take k++List.replicate (c.length-k) 0
theorem bLV (n:Nat):(List.replicate n [aC.int .i64 0]).map (List.map Cell.v)=((List.replicate n (0:Int)).map λn=>[aC.int .i64 n]).map (List.map Cell.v):=by simp
theorem aDB {P:Program} {N:Nat} (keep ib:List Nat) (mk:Marks) {c:Code} {Q:Exit->cJ->Heap->Prop} {τ:cJ} {h:Heap} {t:Tag (Code.loop c,Q)} {α:Type} (S:α->cJ) (side:α->Prop) (μ:α->Nat) (x₀:α) (h₀:dT (S x₀) τ/\side x₀) (round:∀ x,side x->p2 P N keep ib mk c (λτ' h'=>∃ x',dT (S x') τ'/\h.le h'/\side x'/\μ x'<μ x) Q (S x) h ()) (hmix:P.follows .mixedOrders=true:=by exact mix) (hc:iV N mk c=true:=by kernel_rfl):aLU P N (.loop c) Q τ h t :=
 bGR (keep:=keep) (ib:=ib) (mk:=mk) hmix hc S side μ x₀ h₀ round
theorem aW1 {P:Program} {N:Nat} (keep ib:List Nat) (mk:Marks) {c:Code} {Q:Exit->cJ->Heap->Prop} {τ:cJ} {h:Heap} {t:Tag (Code.loop c,Q)} {α:Type} (S:α->cJ) (n:Nat) (R:α->cF) (side:α->Prop) (μ:α->Nat) (x₀:α) (h₀:dT (S x₀) τ/\h n=some (R x₀)/\side x₀) (round:∀ x,side x->p2 P N keep ib mk c (λτ' h'=>∃ x',dT (S x') τ'/\(bT h n (R x')).le h'/\side x'/\μ x'<μ x) Q (S x) (bT h n (R x)) ()) (hmix:P.follows .mixedOrders=true:=by exact mix) (hc:iV N mk c=true:=by kernel_rfl):aLU P N (.loop c) Q τ h t :=
 bLU (keep:=keep) (ib:=ib) (mk:=mk) hmix hc S n R side μ x₀ h₀ round
theorem a97 {E:Env} {h:Heap} {w:World} (k:Nat) (os:Array Obj):Ev E h w E h (Go.Sort.grow (w.drewN k) os):=by
 have hb:∀ b,b<w.heap.size->(Go.Sort.grow (w.drewN k) os).heap[b]?=w.heap[b]?:=λb hb=>by
  show(w.heap++os)[b]?=_
  rw[bE9 hb]
 refine⟨?_,λb i=>⟨hb b i.1,?_,i.2⟩,λb i=>?_,λ_ hn=>⟨rfl,hn⟩,rfl,rfl⟩
 ·show w.heap.size<=(w.heap++os).size
  simp
 ·show b<(w.heap++os).size
  have:=i.1
  simp;omega
 ·simp only[World.shape?,hb b i]
theorem bGS {E:Env} {h:Heap} {w:World} (R:Rel E h w) (k:Nat) (os:Array Obj):Rel E h (Go.Sort.grow (w.drewN k) os) :=
 have ev:=a97 (E:=E) (h:=h) (w:=w) k os
 ⟨R.fin,R.dom,λn x b hn hx hb=>bEZ (R.lt n x b hn hx hb) ev.size,R.apart,
  λn x hn=>(R.obj n x hn).ev ev rfl rfl λc hx hc=>by
   have:=R.lt n x c hn hx hc
   show(w.heap++os)[c]?=_
   rw[bE9 this],R.laid.ev ev⟩
theorem bDI {P:Program} {f:FuncId} {args:List aC} {r:aC} (hc:jG P f=true)
  (H:∀ E h w vs,Rel E h w->eT E h w args vs->Calls P f vs.toArray w λe w'=>∃ v,e=.returned v/\(∀ E' h' w',fY E' h' w' r v)/\∃ k os,w'=Go.Sort.grow (w.drewN k) os):dQ P f args r:=λh =>
 ⟨hc,λE w vs R rl=>(H E h w vs R rl).mono λe w' q=>by
  obtain⟨v,rfl,hv,k,os,rfl⟩:=q
  exact⟨r,h,E,⟨rfl,rfl⟩,a97 k os,bGS R k os,hv _ _ _⟩⟩
theorem LaidIn.var {E:Env} {h:Heap} {w:World} (x:LaidIn E h w) {P:Program} {name:String} {g:Nat} {Q:Array Value->Prop} (hg:P.globalNamed name=some g) (hm:(g,Q)∈oO):∃ cs,w.var? P name=some cs/\Q cs:=by
 obtain⟨_,cs,t,f,ht,q⟩:=x _ hm
 exact⟨cs,by simp only[World.var?,hg,a33,ht],q⟩
theorem LaidIn.cell {E:Env} {h:Heap} {w:World} (x:LaidIn E h w) {g:Nat} {Q:Array Value->Prop} (hm:(g,Q)∈oO):∃ cs,(∀ i,w.cell? ⟨g,i,none⟩=cs[i]?)/\Q cs:=by
 obtain⟨_,cs,t,f,ht,q⟩:=x _ hm
 exact⟨cs,λi=>by simp only[World.cell?,ht];simp,q⟩
theorem aQ7 {E:Env} {h:Heap} {w w':World} (x:Go.RowKit.Below w.heap.size w w'):Ev E h w E h w':=by
 refine⟨x.size,λb i=>⟨x.block b i.1,bEZ i.1 x.size,i.2⟩,λb i=>?_,λ_ hn=>⟨rfl,hn⟩,x.os,x.output⟩
 unfold World.shape?
 rw[x.block b i]
theorem aU3 {E:Env} {h:Heap} {w w':World} (R:Rel E h w) (x:Go.RowKit.Below w.heap.size w w'):Rel E h w' :=
 have ev:=aQ7 (E:=E) (h:=h) x
 ⟨R.fin,R.dom,λn o b hn hx hb=>bEZ (R.lt n o b hn hx hb) ev.size,R.apart,
  λn o hn=>(R.obj n o hn).ev ev rfl rfl λc hx hc=>x.block c (R.lt n o c hn hx hc),R.laid.ev ev⟩
theorem aL2 {P:Program} {f:FuncId} {args:List aC} {r:aC} (hc:jG P f=true)
  (H:∀ E h w vs,Rel E h w->eT E h w args vs->Calls P f vs.toArray w λe w'=>∃ v,e=.returned v/\(∀ E' h' w',fY E' h' w' r v)/\Go.RowKit.Below w.heap.size w w'):dQ P f args r:=λh =>
 ⟨hc,λE w vs R rl=>(H E h w vs R rl).mono λe w' q=>by
  obtain⟨v,rfl,hv,b⟩:=q
  exact⟨r,h,E,⟨rfl,rfl⟩,aQ7 b,aU3 R b,hv _ _ _⟩⟩
theorem b6A {P:Program} {f:FuncId} {fn:Func} {c:Code} (N:Nat) (keep ib:List Nat) (mk:Marks) {args:List aC} {h:Heap} {K:aC->Heap->Prop} (hmix:P.follows .mixedOrders=true) (hf:P.funcs[f]?=some fn) (hb:fn.body=some c)
  (hck:(jG P f && decide (fn.ntmps=N) && iV N mk c)=true) (hl:args.length<=N)
  (hw:p2 P N keep ib mk c (λτ h'=>n9 P fn.results (λr h'=>∃ r1 g,Shift r h' r1 g/\K r1 g) () .normal τ h') (n9 P fn.results (λr h'=>∃ r1 g,Shift r h' r1 g/\K r1 g) ()) (rU 0 args) h ()):gK P f args h K :=
 zD (fn:=fn) (c:=c) (N:=N) (aQV N keep ib mk hmix hf hb hck hl (K':=λr h'=>∃ r1 g,Shift r h' r1 g/\K r1 g) (K:=λr h'=>∃ r1 g,Shift r h' r1 g/\K r1 g) hw λ_ h' hx=>⟨h',Heap.le_refl _,hx⟩) λr h' hx=>hx
theorem eT.yY {E:Env} {h:Heap} {w:World} (R:Rel E h w) {n sz:Nat} {es:List (List Cell)} (hn:h n=some (.row sz es)):∀ {xs:List aC} {vs:List Value},eT E h w xs vs->lK n sz es.length xs=true->eT E (bT h n .gone) w (nZ n (jD es) xs) vs
 | [],[],_,_=>trivial
 |x::xs,v::vs,r,hb=>by
  simp only[lK,oN]at hb
  exact⟨r.1.yY R hn hb.1,eT.yY R hn r.2 hb.2⟩
 | [],_::_,r,_=>r.elim
 | _::_,[],r,_=>r.elim
theorem aH.a2B {P:Program} {f:FuncId} {args:List aC} {h:Heap} {K:aC->Heap->Prop} {t:Tag K} (n:Nat) {sz:Nat} {es:List (List Cell)} (hn:h n=some (.row sz es)) (hb:lK n sz es.length args=true)
  (a:gK P f (nZ n (jD es) args) (bT h n .gone) K):aH P f args h K t :=
 ⟨a.1,λE w vs R r=>(a.2 E w vs (R.gone hn) (r.yY R hn hb)).mono λe w' q=>by
  cases e with
  |returned v =>
   obtain⟨r,h',E',k,ev,R2,r2⟩:=q
   exact⟨r,h',E',k,(Ev.gone n).trans ev,R2,r2⟩
  | _=>exact q.elim⟩
theorem lW {P:Program} {f:FuncId} {fn:Func} {c:Code} (N:Nat) (keep ib:List Nat) (mk:Marks) {args:List aC} {h:Heap} {K:aC->Heap->Prop} (hf:P.funcs[f]?=some fn) (hw:p2 P N keep ib mk c (λτ h'=>n9 P fn.results (λr h'=>∃ r1 g,Shift r h' r1 g/\K r1 g) () .normal τ h') (n9 P fn.results (λr h'=>∃ r1 g,Shift r h' r1 g/\K r1 g) ()) (rU 0 args) h ()) (hmix:P.follows .mixedOrders=true:=by exact mix) (hb:fn.body=some c:=by rfl) (hck:(jG P f && decide (fn.ntmps=N) && iV N mk c)=true:=by kernel_rfl) (hl:args.length<=N:=by simp):gK P f args h K :=
 b6A N keep ib mk hmix hf hb hck hl hw
open Go.ChangeShapes Go.WideShapes
theorem aTF {H:Type} {enc:TypeId×Value->H} {a:Assume} {C:Checked} {os:Os} {f:FuncId} {fn:Func} {s:ChangeSpec} {conds:List PathCond} {apart fresh handsOn again:Bool} {X:World->Array Value->Prop}
  (hX:∀ (w w':World) (args:Array Value),w.heap=w'.heap->X w args->X w' args)
  (own:ownKnob C.prog.godebug=none) (started:os.Started) (noInit:C.prog.inits.idxOf? f=none) (hfn:C.prog.funcs[f]?=some fn)
  (witness:∃ (w:World) (tape:Tape) (i:Input),w.os=os/\(w.forCall tape i).Shaped C.prog/\i.vars=[]/\Input.okWide C.prog (w.forCall tape i) .any w.heap.size f i /\
   ((s.pre enc C.prog fn conds apart (w.forCall tape i).memory i.args/\X (w.forCall tape i).memory i.args)/\sizedMet enc C.prog fn (OpenSpec.ofChange s) apart (w.forCall tape i).memory i.args)/\a.holds C.prog (lone (Frame.enter C.prog f i.args .normal) [] (w.forCall tape i)))
  (contract:∀ (W:World) (base:Nat) (args:Array Value) (ds gs:List (DataW H)) (before:List MemPlace),W.ShapedOpen C.prog ->
   (∀ (j:Nat) t v,fn.params[j]?=some t->args[j]?=some v->Value.okWide C.prog W .any base t v) ->
   DataW.Whole enc C.prog fn.params.toList s.vars apart W args.toList ds gs before ->
   conds.all (PathCond.test C.prog ⟨fn.params.toList,ds,s.plain.varTypes C.prog,gs⟩)=true ->
   (DataW.weightsEach C.prog (fn.params.toList++s.plain.varTypes C.prog) (ds++gs)).all (·<=reachBytes)=true->X W args ->
   a.holds C.prog (lone (Frame.enter C.prog f args .normal) [] W) ->
   Calls C.prog f args W λe W'=>∃ v,e=.returned v/\s.post enc C.prog fn apart fresh handsOn again W args v W') :
  ReturnsInHanded a C os f .any (λw args=>(s.pre enc C.prog fn conds apart w args/\X w args)/\sizedMet enc C.prog fn (OpenSpec.ofChange s) apart w args) (s.post enc C.prog fn apart fresh handsOn again):=by
 refine returnsInHanded_of_calls own started noInit witness ?_
 intro w tape i _ hsh _ hok hpre hholds
 obtain⟨_,_,_,fn',hfn',_,_,_,_,hval⟩:=hok
 have e:fn'=fn:=dY (hfn'.symm.trans hfn)
 subst e
 obtain⟨⟨⟨ds,gs,before,hw,hc⟩,hx⟩,hz⟩:=hpre
 have hw':=DataW.Whole.of_heap (w':=w.forCall tape i) bS hw
 refine(contract (w.forCall tape i) w.heap.size i.args ds gs before hsh hval hw' hc (hz.weights hw) (hX _ _ _ bS hx) hholds).mono λe W' ⟨v,he,hp⟩=>?_
 subst he
 exact ChangeSpec.post_blind hp
theorem aZD {H:Type} {enc:TypeId×Value->H} {C:Checked} {os:Os} {f:FuncId} {fn:Func} {s:ChangeSpec} {laid:List (String×DataW Unit)}
  (own:ownKnob C.prog.godebug=none) (started:os.Started) (noInit:C.prog.inits.idxOf? f=none) (hfn:C.prog.funcs[f]?=some fn)
  (witness:∃ (w:World) (tape:Tape) (i:Input),w.os=os/\(w.forCall tape i).Shaped C.prog/\i.vars=[]/\Input.okWide C.prog (w.forCall tape i) .any w.heap.size f i /\
   ((s.pre enc C.prog fn [] false (w.forCall tape i).memory i.args/\laidMetH C.prog laid (w.forCall tape i).memory)/\sizedMet enc C.prog fn (OpenSpec.ofChange s) false (w.forCall tape i).memory i.args)/\({}:Assume).holds C.prog (lone (Frame.enter C.prog f i.args .normal) [] (w.forCall tape i)))
  (lo:laidOutB C.prog=true) (mr:mapsRowed C.prog=true)
  (hz:((List.range C.prog.types.size).all λt=>match C.prog.underlying t with|some (.slice e)=>decide (0<C.prog.cellsOf e)|_=>true)=true)
  (T:List TypeId) (hT:bDB C.prog T=true) (hp:fn.params.all (λt=>decide (t<C.prog.types.size) && T.contains t)=true)
  (hsv:s.vars=[]) (hs:∀ ds:List (DataW H),ds.length=fn.params.size->s.fn H ds={ results:=[.lit (.bool true)],args:=ds })
  {tb:TypeId} (hr:fn.resultTypes=#[tb]) (htb:C.prog.underlying tb=some .bool)
  (hc:∀ xs,a1G C.prog fn.params.toList xs->dQ C.prog f xs (.bool true)) (hlaid:∀ W,laidMetH C.prog laid W->W.ShapedOpen C.prog->∀ p∈oO,∃ cs t f,W.heap[p.1]?=some (.cells cs t f)/\p.2 cs) :
  ReturnsInHanded {} C os f .any (λw args=>(s.pre enc C.prog fn [] false w args/\laidMetH C.prog laid w)/\sizedMet enc C.prog fn (OpenSpec.ofChange s) false w args) (s.post enc C.prog fn false true false false):=by
 refine aTF (X:=λw _=>laidMetH C.prog laid w) (λ_ _ _ hh h=>h.of_heap hh) own started noInit hfn witness ?_
 intro W base args ds gs before hsh hval hW _ _ hL _
 have hW0:=hW
 obtain⟨p,q,hA,hV,_,_,_⟩:=hW
 have hp':=bFC.1 hp
 simp only[oN,decide_eq_true_eq]at hp'
 have hbase:∀ (j:Nat) t v,fn.params.toList[j]?=some t->args.toList[j]?=some v->Value.okWide C.prog W .any base t v:=λj t v h1 h2=>hval j t v (by simpa using h1) (by simpa using h2)
 obtain⟨xs,h1,h2,h3⟩:=aUZ hT (E:=a1H) (h:=zE) (λb hb=>aQ2 hb) (λt ht=>by have:=(hp' t (by simpa using ht)).2;simpa using this) hbase hA
 refine Calls.mono (by simpa using(hc xs h1 zE).2 a1H W args.toList (bGM W λp hp=>⟨aQ2 (by obtain⟨cs,t,f,e,_⟩:=hlaid W hL hsh p hp;exact(aWF.1 e).1),hlaid W hL hsh p hp⟩) h2) λe W' he=>?_
 cases e with
 |returned v =>
  obtain⟨r,h',E',⟨rfl,rfl⟩,ev,_,rep⟩:=he
  cases rep
  exact⟨_,rfl,bGL lo mr hz (by rw[bFC];intro t ht;simpa using(hp' t ht).1) hsv hs hr htb hW0 (by simpa using h3) (λb hb=>(ev.keep b (aQ2 hb)).1) ev.os ev.out⟩
 | _=>exact he.elim
theorem kD {P:Program} {n:String} {d:DataW Unit} {r:List (String×DataW Unit)} {w:World} (h:laidMet P ((n,d)::r) w):laidMet P r w:=by
 obtain⟨ps,⟨g,t,cs,fuel,p,q,_,_,_,_,hq,rfl⟩,hn,ha⟩:=h
 exact⟨q,hq,(aDX.1 hn).2.1,λb off hm=>ha b off (xV _ hm)⟩
theorem aCC {P:Program} {W:World} {g:Nat} {t:TypeId} {n nm:String} {d:DataW Unit} {r:List (String×DataW Unit)}
  (h:laidMet P ((n,.iface nm d)::r) W) (hg:P.globalNamed n=some g) (ht:(P.globals[g]?).map (·.type)=some t) (hi:aBQ P t=true) :
  ∃ v,W.cell? ⟨g,0,none⟩=some v/\(v=.nilIface∨∃ te pe,v=.iface te pe):=by
 obtain⟨ms,hu⟩:∃ ms,P.underlying t=some (.interface ms):=by
  unfold aBQ at hi
  split at hi
  ·exact⟨_,by assumption⟩
  ·cases hi
 obtain⟨ps,⟨g0,t0,cs0,f0,p0,q0,hg0,ht0,hv0,hd0,_,_⟩,_,_⟩:=h
 obtain rfl:=dY (hg.symm.trans hg0)
 obtain rfl:=dY (ht.symm.trans ht0)
 obtain⟨f1,u,v,hc,_,_⟩:=iface_of_trod hu hd0
 refine⟨.iface u v,?_,.inr ⟨u,v,rfl⟩⟩
 rw[World.var?_cell hg0 hv0 0]
 rw[←aOB,hc]
 rfl
theorem aDW {w:World} {g:Nat} {Q:Value->Prop} (h:∃ v,w.cell? ⟨g,0,none⟩=some v/\Q v):∃ cs t f,w.heap[g]?=some (.cells cs t f)/\∃ v,cs[0]?=some v/\Q v:=by
 obtain⟨v,hv,hq⟩:=h
 unfold World.cell? at hv
 cases hW:w.heap[g]? with
 |none=>rw[hW]at hv;cases hv
 |some o =>
  rw[hW]at hv
  cases o with
  |cells c t f=>exact⟨c,t,f,rfl,v,by simpa using hv,hq⟩
  | _=>cases hv
theorem a3L {w:World} {g:Nat} {k:IntKind} (h:∃ m,w.cell? ⟨g,0,none⟩=some (.int k m)):∃ cs t f,w.heap[g]?=some (.cells cs t f)/\∃ m,cs[0]?=some (.int k m):=by
 obtain⟨m,hm⟩:=h
 obtain⟨cs,t,f,h1,v,h2,rfl⟩:=aDW (Q:=λv=>v=.int k m) ⟨_,hm,rfl⟩
 exact⟨cs,t,f,h1,m,h2⟩
end Go.Hl

/-
  Contracts of functions and laws of the layer over the walk.
-/
import Derived.Test.YtajjlpophonkoaaGreatDoorHlC
import Derived.KernelRfl
import Derived.Sort.Grow
import Derived.Deep.Draws
import Derived.Below
import Derived.LaidLaws
import Derived.LaidHandle
import Derived.Stop.Joined
import Derived.Lib.LaidTab
import Derived.Shelf.Vars
namespace Go.Hl
set_option linter.unusedVariables false
set_option linter.unusedSimpArgs false
inductive OV where
 |v (x:aC)
 |nil (sz:Nat)
 |sl (n sz:Nat) (es:List (List OV))
def OV.val:OV->aC
 | .v x=>x
 | .nil sz=>.sl sz [] true
 | .sl n sz es=>.os n sz 0 es.length
mutual
def OV.oG:OV->aC
 | .v x=>x
 | .nil sz=>.sl sz [] false
 | .sl n sz es=>.sl sz (OV.jU es) false
def OV.jU:List (List OV)->List (List aC)
 | []=>[]
 |e::es=>OV.aKL e::OV.jU es
def OV.aKL:List OV->List aC
 | []=>[]
 |x::e=>x.oG::OV.aKL e
end
theorem OV.vI:∀ (e:List OV),OV.aKL e=e.map OV.oG
 | []=>rfl
 |x::e=>by rw[OV.aKL,OV.vI e];rfl
theorem OV.kM:∀ (es:List (List OV)),OV.jU es=es.map (List.map OV.oG)
 | []=>rfl
 |e::es=>by rw[OV.jU,OV.kM es,OV.vI];rfl
def OV.cells (es:List (List OV)):List (List Cell):=es.map (List.map λc=>Cell.v c.val)
mutual
def OV.rows:OV->List (Nat×bW)
 | .v _=>[]
 | .nil _=>[]
 | .sl n sz es=>(n,.row sz (OV.cells es))::OV.cT es
def OV.cT:List (List OV)->List (Nat×bW)
 | []=>[]
 |e::es=>OV.dD e++OV.cT es
def OV.dD:List OV->List (Nat×bW)
 | []=>[]
 |x::e=>x.rows++OV.dD e
end
def sM (h:Heap) (l:List (Nat×bW)):Prop:=∀ p∈l,h p.1=some p.2
def jV (h:Heap) (S:List Nat):Heap:=λm=>if m∈S then(h m).map λ_=>.gone else h m
theorem rL {h:Heap} {S:List Nat} {m:Nat} {o:bW} (hm:m∈S) (ho:jV h S m=some o):o=.gone:=by
 simp only[jV,if_pos hm,nJ]at ho
 obtain⟨_,_,rfl⟩:=ho;rfl
theorem lF {h:Heap} {S:List Nat} {m:Nat} (hm:m∉S):jV h S m=h m:=by simp only[jV,if_neg hm]
theorem pM {E:Env} {h:Heap} {w:World} (S:List Nat) (b:Nat) (i:oE E h w b):oE E (jV h S) w b :=
 ⟨i.1,λm o hm ho=>by
  by_cases e:m∈S
  ·rw[rL e hm]at ho;exact ho.elim
  ·rw[lF e]at hm;exact i.2 m o hm ho⟩
theorem aKM {E:Env} {h:Heap} {w:World} (R:Rel E h w) {S:List Nat} {n:Nat} (hS:n∈S) {x:bW} (hn:h n=some x) (hx:x.live) (b:Nat) (hb:E.fp n b):oE E (jV h S) w b :=
 ⟨R.lt n x b hn hx hb,λm o hm ho hf=>by
  by_cases e:m∈S
  ·rw[rL e hm]at ho;exact ho.elim
  ·rw[lF e]at hm
   have:=R.apart m o n x b hm ho hn hx hf hb
   exact e (this▸hS)⟩
theorem Rel.jV {E:Env} {h:Heap} {w:World} (R:Rel E h w) (S:List Nat):Rel E (jV h S) w:=by
 refine⟨R.fin,λm hm=>?_,?_,?_,?_,R.laid.rP (pM S)⟩
 ·by_cases e:m∈S
  ·refine R.dom m λq=>hm ?_
   simp only[Hl.jV,if_pos e,q,aWV]
  ·rw[lF e]at hm;exact R.dom m hm
 ·intro m o b hm ho
  by_cases e:m∈S
  ·rw[rL e hm]at ho;exact ho.elim
  ·rw[lF e]at hm;exact R.lt m o b hm ho
 ·intro m o m' o' b hm ho hm' ho'
  by_cases e:m∈S
  ·rw[rL e hm]at ho;exact ho.elim
  ·by_cases e':m'∈S
   ·rw[rL e' hm']at ho';exact ho'.elim
   ·rw[lF e]at hm;rw[lF e']at hm';exact R.apart m o m' o' b hm ho hm' ho'
 ·intro m o hm
  by_cases e:m∈S
  ·rw[rL e hm];trivial
  ·rw[lF e]at hm;exact(R.obj m o hm).rP λb=>pM S b
theorem Ev.jV {E:Env} {h:Heap} {w:World} (S:List Nat):Ev E h w E (jV h S) w :=
 ⟨j4 _,λb hb=>⟨rfl,pM S b hb⟩,λ_ _=>rfl,λ_ hn=>⟨rfl,hn⟩,rfl,rfl⟩
mutual
theorem dU.aDR {E:Env} {h:Heap} {w:World} (R:Rel E h w) {S:List Nat}:∀ (x:OV),sM h x.rows->(∀ p∈x.rows,p.1∈S)->∀ v,dU E h w x.val v->dU E (Hl.jV h S) w x.oG v
 | .v x,_,_,v,r=>dU.rP (λb=>pM S b) r
 | .nil sz,_,_,v,r=>Sub.loose sz [] true _ _ _ _ (dU.rP (λb=>pM S b) (show dU E h w (.sl sz [] true) v from r))
 | .sl n sz es,ho,hS,v,r=>by
  have hn:h n=some (.row sz (OV.cells es)):=ho (n,_) (by rw[OV.rows];exact u4)
  have hnS:n∈S:=hS (n,_) (by rw[OV.rows];exact u4)
  simp only[OV.val]at r
  simp only[OV.oG]
  have hcells:∀ i j y,gT (OV.cells es) i j=some y->∃ c,gT es i j=some c/\y=.v c.val:=by
   intro i j y hy
   rw[OV.cells,pU]at hy
   obtain⟨c,hc,rfl⟩:=nJ.1 hy
   exact⟨c,hc,rfl⟩
  have hdat:∀ i j y,gT (OV.jU es) i j=some y->∃ c,gT es i j=some c/\y=c.oG:=by
   intro i j y hy
   rw[OV.kM,pU]at hy
   obtain⟨c,hc,rfl⟩:=nJ.1 hy
   exact⟨c,hc,rfl⟩
  have hlen:(OV.jU es).length=es.length:=by rw[OV.kM,iG]
  have key:∀ L,L=es.length->dU E h w (.os n sz 0 L) v->dU E (Hl.jV h S) w (.sl sz (OV.jU es) false) v:=by
   intro L hL r
   cases r with
   |os0 _ _ hd hl =>
    have:es=[]:=a7K hL.symm
    subst this
    exact .y6 sz false none 0 (λ_=>rfl) (by simp[maxLen]) trivial
   |os _ _ _ _ b o cap t m hd hl hlc hmax hsh hm =>
    obtain⟨b',o',hl',hbS,hs,cs,ct,cv,T,hh,hm',hT,hD,hc,hrr⟩:=wY R hn (.inr ⟨_,hl⟩)
    rw[hl]at hl'
    obtain⟨rfl,rfl⟩:=aJ2 (eO hl')
    have himm:∀ c,E.fp n c->oE E (Hl.jV h S) w c:=λc hc=>aKM R hnS hn trivial c hc
    have hcs:∀ i j y,gT (OV.jU es) i j=some y->∃ c,gT es i j=some c/\y=c.oG/\cs[o+i*sz+j]?=some (cv i j)/\(cv i j).oneCell'=true/\dU E h w c.val (cv i j):=by
     intro i j y hy
     obtain⟨c,hc1,rfl⟩:=hdat i j y hy
     have hcell:gT (OV.cells es) i j=some (.v c.val):=by rw[OV.cells,pU,hc1];rfl
     have h2:=hrr i j _ hcell
     cases h2 with
     |v x c' S' h1 hx=>exact⟨c,hc1,rfl,hc i j _ hcell,h1,hx⟩
    have:=dU.sl (E:=E) (h:=Hl.jV h S) (w:=w) sz (OV.jU es) false b (o+0*sz) cap cv (himm b hbS) (by rw[hlen,←hL];exact hlc) hmax (λe=>by simp at e)
     (λe he=>by
      rw[OV.kM,rC]at he
      obtain⟨e',he',rfl⟩:=he
      have:=hs (e'.map λc=>Cell.v c.val) (rC.2 ⟨e',he',rfl⟩)
      simpa using this)
     (λi j y hy=>by
      obtain⟨c,_,_,h1,_,_⟩:=hcs i j y hy
      simp only[World.cell?,hh]
      rw[←h1]
      simp)
     (λi j y hy=>by obtain⟨c,_,_,_,h1,_⟩:=hcs i j y hy;exact h1)
     (λi j y hy=>by
      obtain⟨c,hc1,rfl,_,_,h1⟩:=hcs i j y hy
      obtain⟨e,he,hj⟩:=kF hc1
      exact aCS R es (λp hp=>ho p (by rw[OV.rows];exact rM _ hp)) (λp hp=>hS p (by rw[OV.rows];exact rM _ hp)) e (al6 he) c (al6 hj) _ h1)
    rw[hlen,←hL]at this
    exact this
  exact key _ rfl r
theorem aCS {E:Env} {h:Heap} {w:World} (R:Rel E h w) {S:List Nat}:∀ (es:List (List OV)),sM h (OV.cT es)->(∀ p∈OV.cT es,p.1∈S)->∀ e∈es,∀ c∈e,∀ v,dU E h w c.val v->dU E (Hl.jV h S) w c.oG v
 | [],_,_,e,he,_,_,_,_=>by simp at he
 |a::es,ho,hS,e,he,c,hc,v,r=>by
  rcases oH.1 he with h1|h1
  ·rw[h1]at hc
   exact aNO R a (λp hp=>ho p (by rw[OV.cT];exact al8 _ hp)) (λp hp=>hS p (by rw[OV.cT];exact al8 _ hp)) c hc v r
  ·exact aCS R es (λp hp=>ho p (by rw[OV.cT];exact al7 _ hp)) (λp hp=>hS p (by rw[OV.cT];exact al7 _ hp)) e h1 c hc v r
theorem aNO {E:Env} {h:Heap} {w:World} (R:Rel E h w) {S:List Nat}:∀ (e:List OV),sM h (OV.dD e)->(∀ p∈OV.dD e,p.1∈S)->∀ c∈e,∀ v,dU E h w c.val v->dU E (Hl.jV h S) w c.oG v
 | [],_,_,c,hc,_,_=>by simp at hc
 |a::e,ho,hS,c,hc,v,r=>by
  rcases oH.1 hc with h1|h1
  ·rw[h1]at r ⊢
   exact dU.aDR R a (λp hp=>ho p aRX) (λp hp=>hS p aRX) v r
  ·exact aNO R e (λp hp=>ho p aRW) (λp hp=>hS p aRW) c h1 v r
end
mutual
def aC.kH:aC->Bool
 | .any | .bool _ | .int _ _ | .str _ | .gV | .aW | .qV | .gX | .mT=>true
 | .os _ _ _ _ | .op _ _ _ _ | .mp _=>true
 | .sl _ es _=>es.isEmpty
 | .agg cs=>aC.aCT cs
 | .eW cs=>aC.aCT cs
 | _=>false
def aC.aCT:List aC->Bool
 | []=>true
 |x::xs=>x.kH && aC.aCT xs
end
theorem aC.zS:∀ {l:List aC},aC.aCT l=true->∀ (i:Nat) x,l[i]?=some x->x.kH=true
 |y::l,h,0,x,hx=>by simp only[aC.aCT,lH]at h;simp at hx;subst hx;exact h.1
 |y::l,h,i+1,x,hx=>by simp only[aC.aCT,lH]at h;exact aC.zS h.2 i x aMR
 | [],_,i,x,hx=>by simp at hx
def Cell.kH:Cell->Bool
 | .v x=>x.kH
 | .own _ _=>false
def bW.kH:bW->Bool
 | .row _ es=>es.all λe=>e.all Cell.kH
 | .map _ _ _=>false
 | .raw _ _=>true
 | .abs _=>true
 | .gone=>true
theorem dU.kH {E E':Env} {h h':Heap} {w w':World} (hl:∀ n,E.used n->E'.loc n=E.loc n/\E'.used n) (hs:∀ b,b<w.heap.size->w'.shape? b=w.shape? b) {x:aC} {v:Value} (r:dU E h w x v) (hx:x.kH=true):dU E' h' w' x v:=by
 induction r with
 |any v=>exact .any v
 |bool b=>exact .bool b
 |int k n=>exact .int k n
 |str s hl=>exact .str s hl
 |gV=>exact .gV
 |aW=>exact .aW
 |qV=>exact .qV
 |gX=>exact .gX
 |mT=>exact .mT
 |y6 sz t a cap ht hmax ha=>exact .y6 sz t a cap ht hmax ha
 |sl sz es t b o cap cv hi hcap hmax ht hs' hc h1 hr ih =>
  simp only[aC.kH,List.isEmpty_iff]at hx
  subst hx
  exact .y6 sz t _ cap (λe=>by have:=ht e;simpa using this) hmax trivial
 |ip sz es i off b o cv hi hs' hc h1 hr ih=>simp[aC.kH]at hx
 |os n sz i len b o cap t m hd hl' hlc hmax hsh hm=>exact .os n sz i len b o cap t m (hl n hd).2 ((hl n hd).1.trans hl') hlc hmax ((hs b (aFH hsh)).trans hsh) hm
 |os0 n sz hd hl'=>exact .os0 n sz (hl n hd).2 ((hl n hd).1.trans hl')
 |op n sz i off b o hd hl'=>exact .op n sz i off b o (hl n hd).2 ((hl n hd).1.trans hl')
 |agg cs vs hle hr ih=>exact .agg cs vs hle λi x v a b=>ih i x v a b (aC.zS (by simpa only[aC.kH]using hx) i x a)
 |eW cs vs hle hr ih=>exact .eW cs vs hle λi x v a b=>ih i x v a b (aC.zS (by simpa only[aC.kH]using hx) i x a)
 |fn f cs ds vs us hle hr hle' hr' ih ih'=>simp[aC.kH]at hx
 |iface t x v hr ih=>simp[aC.kH]at hx
 |mp n b o hd hl'=>exact .mp n b o (hl n hd).2 ((hl n hd).1.trans hl')
theorem zI.kH {E E':Env} {h h':Heap} {w w':World} (hl:∀ n,E.used n->E'.loc n=E.loc n/\E'.used n) (hs:∀ b,b<w.heap.size->w'.shape? b=w.shape? b) {n:Nat} {o:bW} (hn:E'.loc n=E.loc n) (hfp:E'.fp n=E.fp n)
  (hm:∀ b,E.fp n b->w'.heap[b]?=w.heap[b]?) (ho:o.kH=true) (r:zI E h w n o):zI E' h' w' n o:=by
 cases o with
 |gone=>trivial
 |raw t cs=>obtain⟨b,hb,hf,hr⟩:=r;exact⟨b,hn.trans hb,by rw[hfp];exact hf,(hm b hf).trans hr⟩
 |abs Q=>obtain⟨b,hb,hf,w0,hq,ha⟩:=r;exact⟨b,hn.trans hb,by rw[hfp];exact hf,w0,by rw[hfp];exact hq,λc hc=>by rw[hfp]at hc;exact(hm c hc).trans (ha c hc)⟩
 |map _ _ _=>simp[bW.kH]at ho
 |row sz es =>
  rcases r with⟨b,o',h1,h2⟩|⟨h1,h2⟩
  ·refine .inl ⟨b,o',hn.trans h1,?_⟩
   obtain⟨hb,hsz,cs,t,cv,T,hh,hle,hT,hD,hc,hr⟩:=h2
   rw[hfp]
   refine⟨hb,hsz,cs,t,cv,T,(hm b hb).trans hh,hle,hT,hD,hc,λi j x hx=>?_⟩
   have hsx:x.kH=true:=by
    obtain⟨e,he,hj⟩:=kF hx
    have h3:=tK.1 ho e (al6 he)
    exact tK.1 h3 x (al6 hj)
   have hx':=hr i j x hx
   cases x with
   |own _ _=>simp[Cell.kH]at hsx
   |v y =>
    generalize cv i j=cc at hx'
    cases hx' with
    |v _ _ _ h1' hy=>exact .v y _ _ h1' (hy.kH hl hs hsx)
  ·exact .inr ⟨h1,hn.trans h2⟩
def OR {α:Type} (R:α->List OV->Prop):List α->List (List OV)->Prop
 | [],[]=>True
 |x::l,e::es=>R x e/\OR R l es
 | _,_=>False
def OS {α:Type} (R:α->List OV->Prop) (sz:Nat) (l:List α) (y:OV):Prop:=(y=.nil sz/\l=[])∨∃ n es,y=.sl n sz es/\OR R l es
def oP {α:Type} (c:α->aC) (x:α) (e:List OV):Prop:=e=[.v (c x)]
theorem OR.length {α:Type} {R:α->List OV->Prop}:∀ {l:List α} {es:List (List OV)},OR R l es->l.length=es.length
 | [],[],_=>rfl
 |x::l,e::es,h=>by simpa using OR.length h.2
 | [],_::_,h=>h.elim
 | _::_,[],h=>h.elim
theorem OR.get {α:Type} {R:α->List OV->Prop}:∀ {l:List α} {es:List (List OV)},OR R l es->∀ (i:Nat) x e,l[i]?=some x->es[i]?=some e->R x e
 |x::l,e::es,h,0,y,d,hy,hd=>by simp at hy hd;subst hy;subst hd;exact h.1
 |x::l,e::es,h,i+1,y,d,hy,hd=>OR.get h.2 i y d (by simpa using hy) (by simpa using hd)
 | [],[],_,i,y,d,hy,_=>by simp at hy
 | [],_::_,h,_,_,_,_,_=>h.elim
 | _::_,[],h,_,_,_,_,_=>h.elim
theorem OR.append {α:Type} {R:α->List OV->Prop}:∀ {l l':List α} {es es':List (List OV)},OR R l es->OR R l' es'->OR R (l++l') (es++es')
 | [],_,[],_,_,h=>h
 |x::l,_,e::es,_,a,h=>⟨a.1,OR.append a.2 h⟩
 | [],_,_::_,_,a,_=>a.elim
 | _::_,_,[],_,a,_=>a.elim
theorem OR.oG {α:Type} {R:α->List OV->Prop} {c:α->List aC} (hR:∀ x e,R x e->e.map OV.oG=c x):∀ {l:List α} {es:List (List OV)},OR R l es->OV.jU es=l.map c
 | [],[],_=>rfl
 |x::l,e::es,h=>by rw[OV.jU,OR.oG hR h.2,OV.vI,hR x e h.1];rfl
 | [],_::_,h=>h.elim
 | _::_,[],h=>h.elim
theorem OS.oG {α:Type} {R:α->List OV->Prop} {c:α->List aC} {sz:Nat} {l:List α} {y:OV} (hR:∀ x e,R x e->e.map OV.oG=c x) (h:OS R sz l y):y.oG=.sl sz (l.map c) false:=by
 rcases h with⟨rfl,rfl⟩|⟨n,es,rfl,h⟩
 ·rfl
 ·simp only[OV.oG,OR.oG hR h]
def bR (l:List (Nat×bW)):List Nat:=l.map (·.1)
def a8M (S:List Nat) (h h':Heap):Prop:=∀ m,m∉S->h' m=h m
open Go.ChangeShapes Go.WideShapes
def pE {α:Type} (s:α->Nat) (l:List α):Nat:=l.length+(l.map s).sum
theorem oQ {α:Type} (s:α->Nat) (l:List α):pE s l=l.length+(l.map s).sum:=rfl
theorem OV.wK:∀ (a b:List (List OV)),OV.cT (a++b)=OV.cT a++OV.cT b
 | [],b=>rfl
 |x::a,b=>by rw[aE9,OV.cT,OV.wK a b,OV.cT,aH1]
theorem jL (a b:List (Nat×bW)):bR (a++b)=bR a++bR b:=zG
theorem dC {l:List (Nat×bW)} {m:Nat}:m∈bR l↔∃ o,(m,o)∈l:=by
 simp[bR]
structure fY (h:Heap) (l:List (Nat×bW)) (h':Heap):Prop where
 nodup:(bR l).Nodup
 fresh:∀ m∈bR l,h m=none
 r8:sM h' l
 upto:a8M (bR l) h h'
theorem fY.nil (h:Heap):fY h [] h:=⟨List.nodup_nil,by simp[bR],by simp[sM],λm _=>rfl⟩
theorem fY.one {h:Heap} {n:Nat} {o:bW} (hn:h n=none):fY h [(n,o)] (aR h n o) :=
 ⟨by simp[bR],by simpa[bR]using hn,by simp[sM],λm hm=>aE _ _ _ _ (by simpa[bR]using hm)⟩
theorem fY.append {h h1 h2:Heap} {a b:List (Nat×bW)} (x:fY h a h1) (y:fY h1 b h2):fY h (a++b) h2:=by
 have dis:∀ m∈bR a,m∉bR b:=λm hm hb=>by
  obtain⟨o,ho⟩:=dC.1 hm
  have:=y.fresh m hb
  rw[x.r8 _ ho]at this;cases this
 refine⟨?_,?_,?_,?_⟩
 ·rw[jL]
  exact aUV.2 ⟨x.nodup,y.nodup,λp hp q hq e=>dis p hp (e▸hq)⟩
 ·intro m hm
  rw[jL,mS]at hm
  by_cases hb:m∈bR a
  ·exact x.fresh m hb
  ·rcases hm with hm|hm
   ·exact absurd hm hb
   ·rw[←x.upto m hb];exact y.fresh m hm
 ·intro p hp
  rcases mS.1 hp with hp|hp
  ·have:p.1∈bR a:=dC.2 ⟨p.2,hp⟩
   rw[y.upto p.1 (dis _ this)];exact x.r8 p hp
  ·exact y.r8 p hp
 ·intro m hm
  rw[jL,mS]at hm
  rw[y.upto m λq=>hm (.inr q),x.upto m λq=>hm (.inl q)]
def qW (h:Heap) (S:List Nat):Heap:=λm=>if m∈S then none else h m
theorem fY.drop {h h':Heap} {a b:List (Nat×bW)} (x:fY h (a++b) h'):fY h b (qW h' (bR a)):=by
 have hnd:=x.nodup
 rw[jL]at hnd
 obtain⟨_,nb,dis⟩:=aUV.1 hnd
 refine⟨nb,λm hm=>x.fresh m (by rw[jL];exact al7 _ hm),λp hp=>?_,λm hm=>?_⟩
 ·have:p.1∉bR a:=λq=>dis _ q _ (dC.2 ⟨p.2,hp⟩) rfl
  simp only[qW,if_neg this]
  exact x.r8 p (al7 _ hp)
 ·by_cases e:m∈bR a
  ·simp only[qW,if_pos e]
   exact(x.fresh m (by rw[jL];exact al8 _ e)).symm
  ·simp only[qW,if_neg e]
   exact x.upto m (by rw[jL];simp[e,hm])
theorem aX8 {P:Program} {f:FuncId} {args:List aC} {r:aC} {K:aC->Heap->Prop} (h:Heap) (a:fH P f args h K)
  (hk:∀ r' h',K r' h'->∃ l,fY h l h'/\∀ E w v,Rel E h' w->dU E h' w r' v->dU E (jV h' (bR l)) w r v):fH P f args h λr' h'=>r'=r/\h'=h :=
 ⟨a.1,λE w vs R hv=>Calls.mono (a.2 E w vs R hv) λe w' he=>by
  cases e <;> try exact he
  obtain⟨r',h',E',k,ev,R',rx⟩:=he
  obtain⟨l,nw,hr⟩:=hk r' h' k
  have hle:h.le (jV h' (bR l)):=λm=>by
   by_cases e:m∈bR l
   ·exact .inl (nw.fresh m e)
   ·rw[lF e,nw.upto m e];exact .inr rfl
  refine⟨r,h,E',⟨rfl,rfl⟩,ev.trans ((Ev.jV _).forget hle),(R'.jV _).forget hle,?_⟩
  refine dU.rP (λb hb=>oE.le hle hb) (hr E' w' _ R' rx)⟩
theorem cU.aDR {E:Env} {h:Heap} {w:World} (R:Rel E h w) {S:List Nat}:∀ (e:List OV) (vs:List Value),sM h (OV.dD e)->(∀ p∈OV.dD e,p.1∈S)->cU E h w (e.map OV.val) vs->cU E (jV h S) w (e.map OV.oG) vs
 | [],[],_,_,_=>trivial
 |x::e,v::vs,ho,hS,hr=>⟨dU.aDR R x (λp hp=>ho p aRX) (λp hp=>hS p aRX) v hr.1,
   cU.aDR R e vs (λp hp=>ho p aRW) (λp hp=>hS p aRW) hr.2⟩
 | [],_::_,_,_,hr=>hr.elim
 | _::_,[],_,_,hr=>hr.elim
theorem dU.aGD {E:Env} {h:Heap} {w:World} (R:Rel E h w) {S:List Nat} (e:List OV) (v:Value) (ho:sM h (OV.dD e)) (hS:∀ p∈OV.dD e,p.1∈S) (hr:dU E h w (.agg (e.map OV.val)) v):dU E (jV h S) w (.agg (e.map OV.oG)) v:=by
 cases hr with
 |agg _ vs hl hr =>
  have:=cU.aDR R e vs ho hS (cU.mk hl hr)
  exact .agg _ vs this.length this.get
theorem aGE {α:Type} {c:α->aC} {x:α} {e:List OV} (h:oP c x e):e.map OV.oG=[c x]:=by
 unfold oP at h;subst h;rfl
structure aIF (h:Heap) (T:List Nat) (l:List (Nat×bW)) (h':Heap):Prop where
 nodup:(T++bR l).Nodup
 fresh:∀ m∈T++bR l,h m=none
 there:∀ m∈T,h' m≠none
 r8:sM h' l
 upto:a8M (T++bR l) h h'
theorem aIF.bE4 {h h':Heap} {l:List (Nat×bW)} (x:aIF h [] l h'):fY h l h':=⟨x.nodup,x.fresh,x.r8,x.upto⟩
theorem fY.toT {h h':Heap} {l:List (Nat×bW)} (x:fY h l h'):aIF h [] l h':=⟨x.nodup,x.fresh,by simp,x.r8,x.upto⟩
theorem aIF.drop {h h':Heap} {T:List Nat} {l:List (Nat×bW)} (x:aIF h T l h'):fY h l (qW h' T):=by
 obtain⟨_,nb,dis⟩:=aUV.1 x.nodup
 refine⟨nb,λm hm=>x.fresh m (al7 _ hm),λp hp=>?_,λm hm=>?_⟩
 ·have:p.1∉T:=λq=>dis _ q _ (dC.2 ⟨p.2,hp⟩) rfl
  simp only[qW,if_neg this]
  exact x.r8 p hp
 ·by_cases e:m∈T
  ·simp only[qW,if_pos e]
   exact(x.fresh m (al8 _ e)).symm
  ·simp only[qW,if_neg e]
   exact x.upto m (by simp[e,hm])
theorem aIF.some {h h':Heap} {T:List Nat} {l:List (Nat×bW)} (x:aIF h T l h') {m:Nat} (hm:m∈T++bR l):h' m≠none:=by
 rcases mS.1 hm with hm|hm
 ·exact x.there m hm
 ·obtain⟨o,ho⟩:=dC.1 hm
  rw[x.r8 _ ho];simp
theorem aIF.row {h h':Heap} {T:List Nat} {l:List (Nat×bW)} (x:aIF h T l h') {n:Nat} {o:bW} (hn:h' n=none):aIF h T ((n,o)::l) (aR h' n o):=by
 have hn1:n∉T++bR l:=λq=>x.some q hn
 have nd:=aUV.1 x.nodup
 refine⟨aUV.2 ⟨nd.1,?_,?_⟩,?_,?_,λp hp=>?_,λm hm=>?_⟩
 ·show(n::bR l).Nodup
  exact List.nodup_cons.2 ⟨λq=>hn1 (al7 _ q),nd.2.1⟩
 ·intro a ha b hb e
  have hb':b∈n::bR l:=hb
  rcases oH.1 hb' with rfl|hb'
  ·exact hn1 (e▸al8 _ ha)
  ·exact nd.2.2 a ha b hb' e
 ·intro m hm
  rcases mS.1 hm with hm|hm
  ·exact x.fresh m (al8 _ hm)
  ·have hm':m∈n::bR l:=hm
   rcases oH.1 hm' with rfl|hm'
   ·rw[←x.upto m hn1];exact hn
   ·exact x.fresh m (al7 _ hm')
 ·intro m hm
  have:m≠n:=λe=>hn1 (e▸al8 _ hm)
  rw[aE _ _ _ _ this];exact x.there m hm
 ·rcases oH.1 hp with rfl|hp
  ·exact aH _ _ _
  ·have:p.1≠n:=λe=>hn1 (e▸al7 _ (dC.2 ⟨p.2,hp⟩))
   rw[aE _ _ _ _ this];exact x.r8 p hp
 ·have h1:m≠n:=λe=>hm (e▸al7 _ (by simp[bR]))
  rw[aE _ _ _ _ h1]
  refine x.upto m λq=>hm ?_
  rcases mS.1 q with q|q
  ·exact al8 _ q
  ·exact al7 _ (rM _ q)
theorem fY.keep {h h':Heap} {l:List (Nat×bW)} (x:fY h l h') {n:Nat} {o:bW} (hn:h n=some o):h' n=some o:=by
 rw[x.upto n λq=>by rw[x.fresh n q]at hn;cases hn];exact hn
theorem aGF {α:Type} {c:α->aC}:∀ (l:List α),OR (oP c) l (l.map λx=>[.v (c x)])
 | []=>trivial
 |x::l=>⟨rfl,aGF l⟩
theorem x9 {α:Type} (c:α->aC) (l:List α):OV.cells (l.map λx=>[OV.v (c x)])=(l.map λx=>[c x]).map (List.map .v):=by
 simp[OV.cells,OV.val]
theorem uJ {α:Type} (c:α->aC):∀ (l:List α),OV.cT (l.map λx=>[OV.v (c x)])=[]
 | []=>rfl
 |x::l=>by rw[qH,OV.cT,uJ c l];rfl
theorem OV.lN (x:aC):(OV.v x).val=x:=rfl
theorem OS.flat {α:Type} {R:α->List OV->Prop} {sz:Nat} {l:List α} {y:OV} (h:OS R sz l y):y.val.flat=true:=by
 rcases h with⟨rfl,_⟩|⟨n,es,rfl,_⟩ <;> rfl
theorem OS.one {α:Type} {R:α->List OV->Prop} {sz:Nat} {l:List α} {y:OV} (h:OS R sz l y):y.val.cells=[y.val]:=by
 rcases h with⟨rfl,_⟩|⟨n,es,rfl,_⟩ <;> rfl
theorem aIG (es:List (List OV)) (e:List OV):OV.cT (es++[e])=OV.cT es++OV.dD e:=by
 rw[OV.wK];simp only[OV.cT,eV]
def FnN (P:Program) (f:FuncId) (args:List aC) (Q:aC->List (Nat×bW)->Prop):Prop:=∀ h:Heap,fH P f args h λr h'=>∃ l,Q r l/\fY h l h'
theorem fY.under {g h':Heap} {n:Nat} {o:bW} {l:List (Nat×bW)} (hg:g n=none) (x:fY (aR g n o) l h'):∃ g',h'=aR g' n o/\fY g l g'/\g' n=none:=by
 have hn:n∉bR l:=λq=>by have:=x.fresh n q;simp at this
 have hk:h' n=some o:=x.keep (aH _ _ _)
 refine⟨qW h' [n],?_,⟨x.nodup,λm hm=>?_,λp hp=>?_,λm hm=>?_⟩,by simp[qW]⟩
 ·funext m
  by_cases e:m=n
  ·subst e;rw[aH,hk]
  ·rw[aE _ _ _ _ e];simp[qW,e]
 ·have e:m≠n:=λe=>hn (e▸hm)
  have:=x.fresh m hm
  rwa [aE _ _ _ _ e]at this
 ·have e:p.1≠n:=λe=>hn (e▸dC.2 ⟨p.2,hp⟩)
  have:qW h' [n] p.1=h' p.1:=by simp[qW,e]
  rw[this];exact x.r8 p hp
 ·by_cases e:m=n
  ·subst e;rw[hg];simp[qW]
  ·have:qW h' [n] m=h' m:=by simp[qW,e]
   rw[this,x.upto m hm,aE _ _ _ _ e]
theorem fY.zT {g h':Heap} {n m:Nat} {x y:bW} {l:List (Nat×bW)} (hn:g n=none) (hm:aR g n x m=none) (q:fY (aR (aR g n x) m y) l h'):∃ g',h'=aR (aR g' n x) m y/\fY g l g'/\g' n=none/\aR g' n x m=none:=by
 obtain⟨g1,rfl,q1,h1⟩:=q.under hm
 obtain⟨g2,rfl,q2,h2⟩:=q1.under hn
 exact⟨g2,rfl,q2,h2,h1⟩
theorem fY.aKN {g h':Heap} {n m k:Nat} {x y z:bW} {l:List (Nat×bW)} (hn:g n=none) (hm:aR g n x m=none) (hk:aR (aR g n x) m y k=none) (q:fY (aR (aR (aR g n x) m y) k z) l h') :
  ∃ g',h'=aR (aR (aR g' n x) m y) k z/\fY g l g'/\g' n=none/\aR g' n x m=none/\aR (aR g' n x) m y k=none:=by
 obtain⟨g1,rfl,q1,h1⟩:=q.under hk
 obtain⟨g2,rfl,q2,h2,h3⟩:=q1.zT hn hm
 exact⟨g2,rfl,q2,h2,h3,h1⟩
section
variable {P:Program} {f:FuncId} {args:List aC} {Q:aC->List (Nat×bW)->Prop} {K:aC->Heap->Prop} {t:Tag K}
end
theorem bK0 {P:Program} {f:FuncId} {fn:Func} {c:Code} (N:Nat) (keep ib:List Nat) (mk:Marks) {args:List aC} {Q:aC->List (Nat×bW)->Prop} (hmix:P.follows .mixedOrders=true) (hf:P.funcs[f]?=some fn) (hb:fn.body=some c)
  (hck:(eT P f && decide (fn.ntmps=N) && e8 N mk c)=true) (hl:args.length<=N)
  (hw:∀ h,lS P N keep ib mk c (λτ h'=>kG P fn.results (λr h'=>∃ r1 g l,Shift r h' r1 g/\Q r1 l/\fY h l g) () .normal τ h') (kG P fn.results (λr h'=>∃ r1 g l,Shift r h' r1 g/\Q r1 l/\fY h l g) ()) (nA 0 args) h ()):FnN P f args Q:=by
 intro h
 have h1:fH P f args h (λr h'=>∃ r1 g l,Shift r h' r1 g/\Q r1 l/\fY h l g) :=
  fH.mono (bE2 (K:=λr h'=>∃ r1 g l,Shift r h' r1 g/\Q r1 l/\fY h l g) N keep ib mk hmix hf hb hck hl (by
   have:=hw h
   refine Eq.mp ?_ this
   have e:(λr h'=>∃ r1 g l,Shift r h' r1 g/\Q r1 l/\fY h l g)=(λr h'=>∃ g':Heap,g'.le h'/\∃ r1 g l,Shift r g' r1 g/\Q r1 l/\fY h l g):=by
    funext r h'
    refine propext ⟨λ⟨r1,g,l,s,q⟩=>⟨h',Heap.le_refl _,r1,g,l,s,q⟩,λ⟨g',hl,r1,g,l,s,q⟩=>⟨r1,g,l,(Shift.of (Sub.refl _) hl).trans s,q⟩⟩
   rw[e])) λr h' q=>q
 exact r6 (fn:=fn) (c:=c) (N:=N) h1 λr h' ⟨r1,g,l,s,q,n⟩=>⟨r1,g,s,l,q,n⟩
theorem FnN.dB {P:Program} {f:FuncId} {args:List aC} {Q:aC->List (Nat×bW)->Prop} {r:aC} (a:FnN P f args Q)
  (hk:∀ r' l,Q r' l->∀ E w v h',sM h' l->Rel E h' w->dU E h' w r' v->dU E (jV h' (bR l)) w r v):eX P f args r:=λh =>
 aX8 h (a h) λr' h' ⟨l,q,hn⟩=>⟨l,hn,λE w v R rx=>hk r' l q E w v h' hn.r8 R rx⟩
def p6 (h:Heap):Heap:=λm=>(h m).map λ_=>.gone
theorem vJ {h:Heap} {m:Nat} {o:bW} (ho:p6 h m=some o):o=.gone:=by
 simp only[p6,nJ]at ho
 obtain⟨_,_,rfl⟩:=ho;rfl
theorem uK {E:Env} {h:Heap} {w:World} {b:Nat} (hb:b<w.heap.size):oE E (p6 h) w b:=⟨hb,λm o hm ho=>by rw[vJ hm]at ho;exact ho.elim⟩
theorem Rel.p6 {E:Env} {h:Heap} {w:World} (R:Rel E h w):Rel E (p6 h) w:=by
 refine⟨R.fin,λm hm=>R.dom m λq=>hm (by simp[Hl.p6,q]),?_,?_,?_,R.laid.rP λb hb=>uK hb.1⟩
 ·intro m o b hm ho;rw[vJ hm]at ho;exact ho.elim
 ·intro m o m' o' b hm ho;rw[vJ hm]at ho;exact ho.elim
 ·intro m o hm;rw[vJ hm];trivial
theorem fH.bE5 {P:Program} {f:FuncId} {args args':List aC} {h:Heap} {K:aC->Heap->Prop} {K':aC->List (Nat×bW)->Prop}
  (hview:∀ E w vs,Rel E h w->cU E h w args vs->cU E (p6 h) w args' vs) (a:fH P f args' (p6 h) K)
  (hK:∀ r h',K r h'->∃ l,K' r l/\fY (p6 h) l h'/\r.kH=true/\∀ p∈l,p.2.kH=true) :
  fH P f args h λr h'=>∃ l,K' r l/\fY h l h':=by
 refine⟨a.1,λE w vs R hv=>Calls.mono (a.2 E w vs R.p6 (hview E w vs R hv)) λe w' he=>?_⟩
 cases e <;> try exact he
 obtain⟨r,h',E',k,ev,R',rx⟩:=he
 obtain⟨l,k',nw,hr,hsol⟩:=hK r h' k
 have hnew:∀ m∈bR l,h m=none:=λm hm=>by
  have:=nw.fresh m hm
  simpa[p6]using this
 let h2:Heap:=λm=>if m∈bR l then h' m else h m
 have e1:∀ m,m∈bR l->h2 m=h' m:=λm hm=>if_pos hm
 have e2:∀ m,m∉bR l->h2 m=h m:=λm hm=>if_neg hm
 let E2:Env:={ loc:=E'.loc,fp:=λn=>if n∈bR l then E'.fp n else E.fp n,used:=E'.used }
 have f1:∀ m,m∈bR l->E2.fp m=E'.fp m:=λm hm=>if_pos hm
 have f2:∀ m,m∉bR l->E2.fp m=E.fp m:=λm hm=>if_neg hm
 have aP7:∀ b,b<w.heap.size->oE E (p6 h) w b:=λb hb=>uK hb
 have solL:∀ m o,m∈bR l->h' m=some o->o.kH=true:=λm o hm ho=>by
  obtain⟨o',ho'⟩:=dC.1 hm
  have:=nw.r8 _ ho'
  rw[ho]at this
  obtain rfl:=eO this
  exact hsol _ ho'
 have evA:Ev E h w E2 h2 w':=by
  refine⟨ev.size,λb hb=>?_,ev.shape,ev.loc,ev.os,ev.out⟩
  have h1:=ev.keep b (aP7 b hb.1)
  refine⟨h1.1,h1.2.1,λm o hm ho hf=>?_⟩
  by_cases e:m∈bR l
  ·rw[e1 m e]at hm;rw[f1 m e]at hf;exact h1.2.2 m o hm ho hf
  ·rw[e2 m e]at hm;rw[f2 m e]at hf;exact hb.2 m o hm ho hf
 have R2:Rel E2 h2 w':=by
  refine⟨R'.fin,λm hm=>?_,?_,?_,?_,R.laid.ev evA⟩
  ·by_cases e:m∈bR l
   ·rw[e1 m e]at hm;exact R'.dom m hm
   ·rw[e2 m e]at hm;exact(ev.loc m (R.dom m hm)).2
  ·intro m o b hm ho hf
   by_cases e:m∈bR l
   ·rw[e1 m e]at hm;rw[f1 m e]at hf;exact R'.lt m o b hm ho hf
   ·rw[e2 m e]at hm;rw[f2 m e]at hf;exact aUM (R.lt m o b hm ho hf) ev.size
  ·intro m o m' o' b hm ho hm' ho' hf hf'
   by_cases e:m∈bR l
   ·rw[e1 m e]at hm;rw[f1 m e]at hf
    by_cases e':m'∈bR l
    ·rw[e1 m' e']at hm';rw[f1 m' e']at hf';exact R'.apart m o m' o' b hm ho hm' ho' hf hf'
    ·rw[e2 m' e']at hm';rw[f2 m' e']at hf'
     exact absurd hf ((ev.keep b (aP7 b (R.lt m' o' b hm' ho' hf'))).2.2 m o hm ho)
   ·rw[e2 m e]at hm;rw[f2 m e]at hf
    by_cases e':m'∈bR l
    ·rw[e1 m' e']at hm';rw[f1 m' e']at hf'
     exact absurd hf' ((ev.keep b (aP7 b (R.lt m o b hm ho hf))).2.2 m' o' hm' ho')
    ·rw[e2 m' e']at hm';rw[f2 m' e']at hf';exact R.apart m o m' o' b hm ho hm' ho' hf hf'
  ·intro m o hm
   by_cases e:m∈bR l
   ·rw[e1 m e]at hm
    exact zI.kH (E:=E') (E':=E2) (λn hn=>⟨rfl,hn⟩) (λ_ _=>rfl) rfl (f1 m e) (λ_ _=>rfl) (solL m o e hm) (R'.obj m o hm)
   ·rw[e2 m e]at hm
    cases o with
    |gone=>trivial
    |row sz es=>exact(R.obj m _ hm).ev evA (ev.loc m (R.dom m (by simp[hm]))).1 (f2 m e) λb _ hb=>(ev.keep b (aP7 b (R.lt m _ b hm trivial hb))).1
    |abs Q=>exact(R.obj m _ hm).ev evA (ev.loc m (R.dom m (by simp[hm]))).1 (f2 m e) λb _ hb=>(ev.keep b (aP7 b (R.lt m _ b hm trivial hb))).1
    |raw t cs=>exact(R.obj m _ hm).ev evA (ev.loc m (R.dom m (by simp[hm]))).1 (f2 m e) λb _ hb=>(ev.keep b (aP7 b (R.lt m _ b hm trivial hb))).1
    |map kt et l'=>exact(R.obj m _ hm).ev evA (ev.loc m (R.dom m (by simp[hm]))).1 (f2 m e) λb _ hb=>(ev.keep b (aP7 b (R.lt m _ b hm trivial hb))).1
 refine⟨r,h2,E2,⟨l,k',⟨nw.nodup,hnew,λp hp=>?_,λm hm=>e2 m hm⟩⟩,evA,R2,dU.kH (E:=E') (E':=E2) (λn hn=>⟨rfl,hn⟩) (λ_ _=>rfl) rx hr⟩
 rw[e1 p.1 (dC.2 ⟨p.2,hp⟩)];exact nw.r8 p hp
def View (h:Heap) (x x':aC):Prop:=∀ E w v,Rel E h w->dU E h w x v->dU E (p6 h) w x' v
def qX (h:Heap):List aC->List aC->Prop
 | [],[]=>True
 |x::xs,y::ys=>View h x y/\qX h xs ys
 | _,_=>False
theorem a8N {E:Env} {h:Heap} {w:World} {b:Nat} (i:oE E h w b):oE E (p6 h) w b:=uK i.1
theorem View.same (h:Heap) (x:aC):View h x x:=λE w v R r=>r.rP λb i=>a8N i
theorem View.sub {h:Heap} {x y z:aC} (a:View h x y) (s:Sub y z):View h x z:=λE w v R r=>s _ _ _ _ (a E w v R r)
theorem zU {E:Env} {h:Heap} {w:World} {S:List Nat}:∀ b,oE E (Hl.jV h S) w b->oE E (p6 h) w b:=λb i=>uK i.1
theorem View.ov {h:Heap} (y:OV) (ho:sM h y.rows):View h y.val y.oG:=λE w v R r =>
 (dU.aDR R (S:=bR y.rows) y ho (λp hp=>dC.2 ⟨p.2,hp⟩) v r).rP zU
theorem View.agg {h:Heap} (e:List OV) (ho:sM h (OV.dD e)):View h (.agg (e.map OV.val)) (.agg (e.map OV.oG)):=λE w v R r =>
 (dU.aGD R (S:=bR (OV.dD e)) e v ho (λp hp=>dC.2 ⟨p.2,hp⟩) r).rP zU
theorem View.op {h:Heap} {n sz i off:Nat} (es:List (List OV)) (hn:h n=some (.row sz (OV.cells es))) (hne:es≠[]) (ho:sM h (OV.cT es)):View h (.op n sz i off) (.ip sz (OV.jU es) i off):=by
 intro E w v R r
 cases v <;> try(cases r;done)
 cases r with
 |op _ _ _ _ b o hd hl =>
  obtain⟨b',o',hl',hbS,hs,cs,ct,cv,T,hh,hm',hT,hD,hc,hrr⟩:=wY R hn (.inr ⟨_,hl⟩)
  rw[hl]at hl'
  obtain⟨rfl,rfl⟩:=aJ2 (eO hl')
  have hcs:∀ i j y,gT (OV.jU es) i j=some y->∃ c,gT es i j=some c/\y=c.oG/\cs[o+i*sz+j]?=some (cv i j)/\(cv i j).oneCell'=true/\dU E h w c.val (cv i j):=by
   intro i j y hy
   rw[OV.kM,pU]at hy
   obtain⟨c,hc1,rfl⟩:=nJ.1 hy
   have hcell:gT (OV.cells es) i j=some (.v c.val):=by rw[OV.cells,pU,hc1];rfl
   have h2:=hrr i j _ hcell
   generalize hcv:cv i j=z at h2
   cases h2 with
   |v x c' S' h1 hx=>exact⟨c,hc1,rfl,hcv▸hc i j _ hcell,h1,hx⟩
  refine .ip sz (OV.jU es) i off b o cv (uK (R.lt n _ b hn trivial hbS)) ?_ ?_ ?_ ?_
  ·intro e he
   rw[OV.kM,rC]at he
   obtain⟨e',he',rfl⟩:=he
   have:=hs (e'.map λc=>Cell.v c.val) (rC.2 ⟨e',he',rfl⟩)
   simpa using this
  ·intro i j y hy
   obtain⟨c,_,_,h1,_,_⟩:=hcs i j y hy
   simp only[World.cell?,hh]
   rw[←h1]
   simp
  ·intro i j y hy;obtain⟨c,_,_,_,h1,_⟩:=hcs i j y hy;exact h1
  ·intro i j y hy
   obtain⟨c,hc1,rfl,_,_,h1⟩:=hcs i j y hy
   obtain⟨e,he,hj⟩:=kF hc1
   exact(aCS R (S:=bR (OV.cT es)) es ho (λp hp=>dC.2 ⟨p.2,hp⟩) e (al6 he) c (al6 hj) _ h1).rP zU
theorem qX.aP2 {h:Heap}:∀ {xs ys:List aC},qX h xs ys->∀ E w vs,Rel E h w->cU E h w xs vs->cU E (p6 h) w ys vs
 | [],[],_,E,w,[],R,r=>trivial
 |x::xs,y::ys,hv,E,w,v::vs,R,r=>⟨hv.1 E w v R r.1,qX.aP2 hv.2 E w vs R r.2⟩
 | [],[],_,E,w,_::_,R,r=>r.elim
 |x::xs,y::ys,hv,E,w,[],R,r=>r.elim
 | [],_::_,h,_,_,_,_,_=>h.elim
 | _::_,[],h,_,_,_,_,_=>h.elim
theorem qX.nil {h:Heap}:qX h [] []:=trivial
theorem qX.cons {h:Heap} {x y:aC} {xs ys:List aC} (a:View h x y) (b:qX h xs ys):qX h (x::xs) (y::ys):=⟨a,b⟩
theorem eX.bK1 {P:Program} {f:FuncId} {args args':List aC} {r:aC} {h:Heap} (a:eX P f args' r) (hv:qX h args args') (hr:r.kH=true):fH P f args h λr' h'=>r'=r/\h'=h :=
 (fH.bE5 (K':=λr' l=>r'=r/\l=[]) hv.aP2 (a (p6 h)) λr' h' ⟨e,e'⟩=>by
  subst e;subst e';exact⟨[],⟨rfl,rfl⟩,.nil _,hr,by simp⟩).mono λr' h' ⟨l,⟨e1,e2⟩,n⟩=>by
  subst e2
  exact⟨e1,funext λm=>n.upto m (by simp[bR])⟩
section
variable {P:Program} {f:FuncId} {args args':List aC} {Q:aC->List (Nat×bW)->Prop} {K:aC->Heap->Prop} {t:Tag K} {g:Heap}
theorem aG.a6G {r:aC} (a:eX P f args' r) (hv:qX g args args') (hr:r.kH=true) (k:K r g):aG P f args g K t :=
 aG.eH (a.bK1 hv hr) λr' h' ⟨e,e'⟩=>by subst e;subst e';exact k
end
theorem aIH {P:Program} {f:FuncId} {fn:Func} {c:Code} (N:Nat) (keep ib:List Nat) (mk:Marks) {args:List aC} {Q:aC->List (Nat×bW)->Prop} (hf:P.funcs[f]?=some fn) (hw:∀ h,lS P N keep ib mk c (λτ h'=>kG P fn.results (λr h'=>∃ r1 g l,Shift r h' r1 g/\Q r1 l/\fY h l g) () .normal τ h') (kG P fn.results (λr h'=>∃ r1 g l,Shift r h' r1 g/\Q r1 l/\fY h l g) ()) (nA 0 args) h ()) (hmix:P.follows .mixedOrders=true:=by exact mix) (hb:fn.body=some c:=by rfl) (hck:(eT P f && decide (fn.ntmps=N) && e8 N mk c)=true:=by kernel_rfl) (hl:args.length<=N:=by simp):FnN P f args Q :=
 bK0 N keep ib mk hmix hf hb hck hl hw
def QS (R:OV->Prop) (w:aC->aC:=λx=>x):aC->List (Nat×bW)->Prop:=λr l=>∃ y,R y/\r=w y.val/\l=y.rows
def QA (R:List OV->Prop) (w:aC->aC:=λx=>x):aC->List (Nat×bW)->Prop:=λr l=>∃ e,R e/\r=w (.agg (e.map OV.val))/\l=OV.dD e
theorem fY.row {h h':Heap} {l:List (Nat×bW)} (x:fY h l h') {n:Nat} {o:bW} (hn:h' n=none):fY h ((n,o)::l) (aR h' n o):=(x.toT.row hn).bE4
theorem QS.dB {P:Program} {f:FuncId} {args:List aC} {R:OV->Prop} {d:aC} (a:FnN P f args (QS R)) (hd:∀ y,R y->y.oG=d):eX P f args d :=
 a.dB λr' l ⟨y,hy,e1,e2⟩ E w v h' ho R rx=>by
  subst e1 e2
  rw[←hd y hy]
  exact dU.aDR R y ho (λp hp=>dC.2 ⟨p.2,hp⟩) v rx
theorem OS.nil {α:Type} {R:α->List OV->Prop} {sz:Nat}:OS R sz [] (.nil sz):=.inl ⟨rfl,rfl⟩
theorem OS.mk {α:Type} {R:α->List OV->Prop} {sz n:Nat} {l:List α} {es:List (List OV)} (h:OR R l es):OS R sz l (.sl n sz es):=.inr ⟨n,es,rfl,h⟩
theorem OV.l5 (sz:Nat):(OV.nil sz).rows=[]:=by rw[OV.rows]
theorem OV.xK (x:aC):(OV.v x).rows=[]:=by rw[OV.rows]
theorem OV.rF (n sz:Nat) (es:List (List OV)):(OV.sl n sz es).rows=(n,.row sz (OV.cells es))::OV.cT es:=by rw[OV.rows]
theorem OV.sV:OV.dD []=[]:=by rw[OV.dD]
theorem OV.p7 (x:OV) (e:List OV):OV.dD (x::e)=x.rows++OV.dD e:=by rw[OV.dD]
theorem OV.aKO (n sz:Nat) (es:List (List OV)):(OV.sl n sz es).val=.os n sz 0 es.length:=rfl
theorem OV.c6:List.map OV.val []=[]:=rfl
theorem OV.gD (x:OV) (e:List OV):List.map OV.val (x::e)=x.val::e.map OV.val:=rfl
structure Chg (h h':Heap) (l l':List (Nat×bW)):Prop where
 names:bR l'=bR l
 r8:sM h' l'
 upto:a8M (bR l) h h'
theorem Chg.trans {h h1 h2:Heap} {a b c:List (Nat×bW)} (x:Chg h h1 a b) (y:Chg h1 h2 b c):Chg h h2 a c :=
 ⟨y.names.trans x.names,y.r8,λm hm=>(y.upto m (by rw[x.names];exact hm)).trans (x.upto m hm)⟩
theorem OR.split {α:Type} {R:α->List OV->Prop}:∀ {l:List α} {es:List (List OV)},OR R l es->∀ k (hk:k<l.length),∃ A e B,es=A++e::B/\A.length=k/\R l[k] e
 |x::l,e::es,h,0,_=>⟨[],e,es,rfl,rfl,h.1⟩
 |x::l,e::es,h,k+1,hk=>by
  obtain⟨A,e',B,h1,h2,h3⟩:=OR.split h.2 k aMS
  exact⟨e::A,e',B,by rw[h1];rfl,by simp[h2],by simpa using h3⟩
 | [],[],_,k,hk=>by simp at hk
 | [],_::_,h,_,_=>h.elim
 | _::_,[],h,_,_=>h.elim
theorem aKP (a b:List (List OV)):OV.cells (a++b)=OV.cells a++OV.cells b:=by simp[OV.cells]
theorem sM.up {g:Heap} {l:List (Nat×bW)} {n:Nat} {o:bW} (ow:sM g l) (hn:g n=none):sM (aR g n o) l:=λp hp=>by
 have:p.1≠n:=λe=>by have:=ow p hp;rw[e,hn]at this;cases this
 rw[aE _ _ _ _ this];exact ow p hp
theorem fY.un0 {g h':Heap} {l:List (Nat×bW)}  (x:fY g l h'):∃ g',h'=g'/\fY g l g':=by
 exact⟨h',rfl,x⟩
theorem aG.wn0 {P:Program} {f:FuncId} {args:List aC} {Q:aC->List (Nat×bW)->Prop} {K:aC->Heap->Prop} {t:Tag K} {g:Heap} (a:FnN P f args Q)  (k:∀ r l g',Q r l->fY g l g'->K r g'):aG P f args g K t :=
 aG.eH (a _) λr h' ⟨l,q,hq⟩=>by
  obtain⟨g',e0,q2⟩:=hq.un0;subst e0
  exact k r l _ q q2
def aP8 (w:aC->aC):Prop:=∀ (E:Env) (h g:Heap) (W:World) (x y:aC) (v:Value),(∀ b,oE E h W b->oE E g W b)->(∀ u,dU E h W x u->dU E g W y u)->dU E h W (w x) v->dU E g W (w y) v
theorem cU.hole {E:Env} {h g:Heap} {W:World} {x y:aC} (hi:∀ b,oE E h W b->oE E g W b) (hr:∀ u,dU E h W x u->dU E g W y u):∀ (a b:List aC) (vs:List Value),cU E h W (a++x::b) vs->cU E g W (a++y::b) vs
 | [],b,v::vs,r=>⟨hr v r.1,cU.rP hi r.2⟩
 |z::a,b,v::vs,r=>⟨r.1.rP hi,cU.hole hi hr a b vs r.2⟩
 | [],b,[],r=>r.elim
 |z::a,b,[],r=>r.elim
theorem aGG (a b:List aC):aP8 λx=>.eW (a++x::b):=λE h g W x y v hi hr r=>by
 generalize hc:a++x::b=cs at r
 cases r with
 |eW _ vs hl hrr =>
  subst hc
  have:=cU.hole hi hr a b vs (cU.mk hl hrr)
  exact .eW _ vs this.length this.get
theorem QS.a2P {P:Program} {f:FuncId} {args:List aC} {R:OV->Prop} {w:aC->aC} {d:aC} (a:FnN P f args (QS R w)) (hd:∀ y,R y->y.oG=d) (hw:aP8 w):eX P f args (w d) :=
 a.dB λr' l ⟨y,hy,e1,e2⟩ E W v h' ho R' rx=>by
  subst e1 e2
  rw[←hd y hy]
  exact hw E h' _ W y.val y.oG v (λb=>pM _ b) (λu ru=>dU.aDR R' y ho (λp hp=>dC.2 ⟨p.2,hp⟩) u ru) rx
theorem QA.a2P {P:Program} {f:FuncId} {args:List aC} {R:List OV->Prop} {w:aC->aC} {d:List aC} (a:FnN P f args (QA R w)) (hd:∀ e,R e->e.map OV.oG=d) (hw:aP8 w):eX P f args (w (.agg d)) :=
 a.dB λr' l ⟨y,hy,e1,e2⟩ E W v h' ho R' rx=>by
  subst e1 e2
  rw[←hd y hy]
  exact hw E h' _ W (.agg (y.map OV.val)) (.agg (y.map OV.oG)) v (λb=>pM _ b) (λu ru=>dU.aGD R' y u ho (λp hp=>dC.2 ⟨p.2,hp⟩) ru) rx
def iH (sz len:Nat):Option Nat->aC
 |none=>.sl sz [] true
 |some n=>.os n sz 0 len
def c8 (h:Heap) (o:bW):Option Nat->Heap
 |none=>h
 |some n=>aR h n o
theorem b5 (sz len:Nat):iH sz len none=.sl sz [] true:=rfl
theorem aY (sz len n:Nat):iH sz len (some n)=.os n sz 0 len:=rfl
theorem aQ (h:Heap) (o:bW):c8 h o none=h:=rfl
theorem aL (h:Heap) (o:bW) (n:Nat):c8 h o (some n)=aR h n o:=rfl
theorem mU {h:Heap} {n b:Nat} {o r:bW} (hn:h n=none):(aR h b r).le (aR (aR (aR h n o) n .gone) b r):=λm=>by
 by_cases e:m=b
 ·subst e;right;simp
 ·rw[aE _ _ _ _ e,aE _ _ _ _ e]
  by_cases e2:m=n
  ·subst e2;exact .inl hn
  ·right;rw[aE _ _ _ _ e2,aE _ _ _ _ e2]
def fM {α:Type} (h:Heap) (l:List α):Option Nat->Prop
 |none=>l=[]
 |some n=>h n=none
theorem bK {α:Type} (h:Heap) (l:List α):fM h l none=(l=[]):=rfl
theorem aT {α:Type} (h:Heap) (l:List α) (n:Nat):fM h l (some n)=(h n=none):=rfl
theorem grown {α:Type} {c:α->aC} {h:Heap} {sz:Nat} {l:List α} {o:Option Nat} (hs:fM h l o) :
  ∃ y:OV,OS (oP c) sz l y/\y.val=iH sz l.length o/\fY h y.rows (c8 h (.row sz ((l.map λx=>[c x]).map (List.map .v))) o):=by
 cases o with
 |none=>exact⟨.nil sz,.inl ⟨rfl,hs⟩,rfl,by rw[OV.l5];exact fY.nil h⟩
 |some n =>
  refine⟨.sl n sz (l.map λx=>[.v (c x)]),OS.mk (aGF l),by simp[OV.val,iH],?_⟩
  rw[OV.rF,uJ,x9]
  exact fY.one hs
theorem fJ {α:Type} (c:α->aC) (l:List α) (x:α):List.take l.length ((l.map λx=>[c x]).map (List.map Cell.v))++[[Cell.v (c x)]]=((l++[x]).map λx=>[c x]).map (List.map .v):=by
 rw[kC cK]
 simp
theorem View.ovD {h:Heap} {d:aC} (y:OV) (hd:y.oG=d) (ho:sM h y.rows):View h y.val d:=hd▸View.ov y ho
theorem a2Q {α:Type} {c:α->aC} {l:List α} {sz:Nat} {h:Heap} (e:(l.map λx=>[c x])=[]):∃ r1 g l1,Shift .aW h r1 g/\QS (OS (oP c) sz l) (λx=>x) r1 l1/\fY h l1 g:=by
 obtain rfl:l=[]:=by simpa using e
 exact⟨_,_,_,Shift.of (Sub.nil sz true) (Heap.le_refl _),⟨.nil sz,OS.nil,rfl,rfl⟩,by rw[OV.l5];exact fY.nil h⟩
theorem a2R {α:Type} {c:α->aC} {l:List α} {sz:Nat} {h:Heap} (e:(l.map λx=>[c x])=[]):∃ r1 g l1,Shift (.sl sz [] true) h r1 g/\QS (OS (oP c) sz l) (λx=>x) r1 l1/\fY h l1 g:=by
 obtain rfl:l=[]:=by simpa using e
 exact⟨_,_,_,bM _ _,⟨.nil sz,OS.nil,rfl,rfl⟩,by rw[OV.l5];exact fY.nil h⟩
theorem aBD {α:Type} {c:α->aC} {l:List α} {sz n:Nat} {h:Heap} (hn:h n=none) :
  ∃ r1 g l1,Shift (.os n sz 0 l.length) (aR h n (.row sz ((l.map λx=>[c x]).map (List.map .v)))) r1 g/\QS (OS (oP c) sz l) (λx=>x) r1 l1/\fY h l1 g:=by
 refine⟨_,_,_,bM _ _,⟨.sl n sz (l.map λx=>[.v (c x)]),OS.mk (aGF l),by simp[OV.val],rfl⟩,?_⟩
 rw[OV.rF,uJ,x9]
 exact fY.one hn
def gK (sz len:Nat):Option Nat->aC
 |none=>.aW
 |some n=>.os n sz 0 len
theorem gJ (sz len:Nat):gK sz len none=.aW:=rfl
theorem bD (sz len n:Nat):gK sz len (some n)=.os n sz 0 len:=rfl
def aBE (g:Heap) (es:List (List OV)):Option Nat->Prop
 |none=>es=[]
 |some n=>g n=none
theorem kT (g:Heap) (es:List (List OV)):aBE g es none=(es=[]):=rfl
theorem kU (g:Heap) (es:List (List OV)) (n:Nat):aBE g es (some n)=(g n=none):=rfl
def gov (sz:Nat) (es:List (List OV)):Option Nat->OV
 |none=>.nil sz
 |some n=>.sl n sz es
theorem aX9 (sz:Nat) (es:List (List OV)):gov sz es none=.nil sz:=rfl
theorem aNP (sz:Nat) (es:List (List OV)) (n:Nat):gov sz es (some n)=.sl n sz es:=rfl
theorem aP9 {α:Type} {R:α->List OV->Prop} {sz:Nat} {l:List α} {es:List (List OV)} {g:Heap} {o:Option Nat} (h:OR R l es) (hs:aBE g es o):OS R sz l (gov sz es o):=by
 cases o with
 |none=>rw[kT]at hs;subst hs;exact .inl ⟨rfl,by have:=h.length;simpa using this⟩
 |some n=>exact OS.mk h
theorem aSR {sz:Nat} {es:List (List OV)} {o:Option Nat}:Sub (gK sz es.length o) (gov sz es o).val:=by
 cases o with
 |none=>exact Sub.nil _ _
 |some n=>exact Sub.refl _
theorem aKQ {sz:Nat} {es:List (List OV)} {h g:Heap} {o:Option Nat} (x:fY h (OV.cT es) g) (hs:aBE g es o):fY h (gov sz es o).rows (c8 g (.row sz (OV.cells es)) o):=by
 cases o with
 |none=>rw[kT]at hs;subst hs;rw[aX9,OV.l5,aQ];simpa[OV.cT]using x
 |some n=>rw[aNP,OV.rF,aL];exact x.row hs
theorem eM (es:List (List OV)):List.take es.length (OV.cells es)=OV.cells es:=kC (by simp[OV.cells])
theorem iN (es:List (List OV)) (e:List OV):OV.cells (es++[e])=OV.cells es++[e.map λc=>Cell.v c.val]:=by rw[aKP];rfl
theorem jR (e:List OV):OV.cells [e]=[e.map λc=>Cell.v c.val]:=rfl
theorem mB (sz len:Nat) (o:Option Nat):(gK sz len o).flat=true:=by cases o <;> rfl
theorem aQA (sz len:Nat) (o:Option Nat):(gK sz len o).cells=[gK sz len o]:=by cases o <;> rfl
theorem dY (es:List (List OV)):(OV.cells es).length=es.length:=by simp[OV.cells]
theorem fY.snoc {h g g1:Heap} {es:List (List OV)} {e:List OV} (x:fY h (OV.cT es) g) (y:fY g (OV.dD e) g1):fY h (OV.cT (es++[e])) g1:=by
 rw[aIG];exact x.append y
theorem jW {g:Heap} {R:bW} {o:Option Nat} {m:Nat} (hg:g m=none) (hon:∀ n,o=some n->¬n=m):c8 g R o m=none:=by
 cases o with
 |none=>exact hg
 |some n =>
  have:=hon n rfl
  rw[aL,aE _ _ _ _ λe=>this e.symm];exact hg
theorem jS:OV.cells []=[]:=rfl
theorem bT {n m:Nat} {g:Heap} {x y:bW} (h:¬n=m):aR (aR g n x) m y=aR (aR g m y) n x:=by
 funext q;simp only[gI];split <;> split <;> simp_all
def Heap.wk (g h:Heap):Prop:=∀ E w,Rel E h w->Rel E g w/\∀ b,oE E h w b->oE E g w b
theorem Heap.r9 {g h:Heap} (hl:g.le h):g.wk h:=λE w R=>⟨R.forget hl,λb i=>oE.le hl i⟩
theorem Heap.wk.trans {a b c:Heap} (x:a.wk b) (y:b.wk c):a.wk c:=λE w R =>
 ⟨(x E w (y E w R).1).1,λd i=>(x E w (y E w R).1).2 d ((y E w R).2 d i)⟩
theorem Heap.wk.ev {g h:Heap} (x:g.wk h) {E:Env} {w:World} (R:Rel E h w):Ev E h w E g w :=
 ⟨j4 _,λb hb=>⟨rfl,(x E w R).2 b hb⟩,λ_ _=>rfl,λ_ hn=>⟨rfl,hn⟩,rfl,rfl⟩
theorem nV.wk {P:Program} {N:Nat} {c:Code} {Q:Exit->bE->Heap->Prop} {τ:bE} {h g:Heap} (hl:g.wk h) (x:nV P N c Q τ g):nV P N c Q τ h :=
 λds E w a R r=>Code.wp_mono (λe a' w' y=>qO.trans (hl.ev R) y) (x ds E w a (hl E w R).1 (r.ev (hl.ev R)))
theorem nV.aYA {P:Program} {N:Nat} {c:Code} {Q:Exit->bE->Heap->Prop} {τ:bE} {h:Heap} {α:Type} (S:α->bE) (H:α->Heap) (side:α->Prop) (μ:α->Nat) (x₀:α)
  (h₀:dM (S x₀) τ/\(H x₀).wk h/\side x₀)
  (round:∀ x,side x->nV P N c (uF (λτ' h'=>∃ x',dM (S x') τ'/\(H x').wk h'/\side x'/\μ x'<μ x) Q) (S x) (H x)):nV P N (.loop c) Q τ h :=
 nV.loop (λx τ h=>dM (S x) τ/\(H x).wk h/\side x) μ x₀ h₀ λx τ h ⟨h1,h2,h3⟩ =>
  nV.wk h2 (nV.weaken h1 (Heap.le_refl _) ((round x h3).mono λe τ h q=>by
   cases e <;> simp only[uF]at q ⊢ <;> first|exact q|(obtain⟨x',a,b,c,d⟩:=q;exact⟨x',⟨a,b,c⟩,d⟩)))
theorem aYA {P:Program} {N:Nat} {keep ib:List Nat} {mk:Marks} {c:Code} {Q:Exit->bE->Heap->Prop} {τ:bE} {h:Heap} {t:Tag (Code.loop c,Q)} {α:Type} (hmix:P.follows .mixedOrders=true) (hc:e8 N mk c=true) (S:α->bE) (H:α->Heap) (side:α->Prop) (μ:α->Nat) (x₀:α)
  (h₀:dM (S x₀) τ/\(H x₀).wk h/\side x₀)
  (round:∀ x,side x->lS P N keep ib mk c (λτ' h'=>∃ x',dM (S x') τ'/\(H x').wk h'/\side x'/\μ x'<μ x) Q (S x) (H x) ()):aCP P N (.loop c) Q τ h t :=
 nV.aYA S H side μ x₀ h₀ λx hx=>aF7 hmix c _ _ _ _ hc (round x hx)
theorem aYB {P:Program} {N:Nat} (keep ib:List Nat) (mk:Marks) {c:Code} {Q:Exit->bE->Heap->Prop} {τ:bE} {h:Heap} {t:Tag (Code.loop c,Q)} {α:Type} (S:α->bE) (H:α->Heap) (side:α->Prop) (μ:α->Nat) (x₀:α)
  (h₀:dM (S x₀) τ/\(H x₀).wk h/\side x₀)
  (round:∀ x,side x->lS P N keep ib mk c (λτ' h'=>∃ x',dM (S x') τ'/\(H x').wk h'/\side x'/\μ x'<μ x) Q (S x) (H x) ()) (hmix:P.follows .mixedOrders=true:=by exact mix) (hc:e8 N mk c=true:=by kernel_rfl):aCP P N (.loop c) Q τ h t :=
 aYA (keep:=keep) (ib:=ib) (mk:=mk) hmix hc S H side μ x₀ h₀ round
def xL (x y:Cell):Prop:=∀ E h w c S,tN E h w x c S->tN E h w y c S
theorem xL.refl (x:Cell):xL x x:=λ_ _ _ _ _ r=>r
theorem xL.v {x y:aC} (s:Sub x y):xL (.v x) (.v y):=λE h w c S r=>by
 cases r with
 |v _ _ _ h1 hx=>exact .v _ _ _ h1 (s _ _ _ _ hx)
def lJ:List (List Cell)->List (List Cell)->Prop
 | [],[]=>True
 |a::l,b::m=>(a.length=b.length/\∀ (j:Nat) (x:Cell),b[j]?=some x->∃ y,a[j]?=some y/\xL y x)/\lJ l m
 | _,_=>False
theorem lJ.last {a b:List Cell} (hl:a.length=b.length) (hc:∀ (j:Nat) (x:Cell),b[j]?=some x->∃ y,a[j]?=some y/\xL y x):∀ l,lJ (l++[a]) (l++[b])
 | []=>⟨⟨hl,hc⟩,trivial⟩
 |c::l=>⟨⟨rfl,λj x h=>⟨x,h,.refl x⟩⟩,lJ.last hl hc l⟩
theorem lJ.length:∀ {l m},lJ l m->l.length=m.length
 | [],[],_=>rfl
 |a::l,b::m,h=>by rw[al3,al3,lJ.length h.2]
 | [],_::_,h=>h.elim
 | _::_,[],h=>h.elim
theorem lJ.size {sz:Nat}:∀ {l m},lJ l m->(∀ e∈l,e.length=sz)->∀ e∈m,e.length=sz
 | [],[],_,_=>by simp
 |a::l,b::m,h,hs=>λe he=>by
  rcases oH.1 he with rfl|he
  ·rw[←h.1.1];exact hs a u4
  ·exact lJ.size h.2 (λe he=>hs e (rM _ he)) e he
 | [],_::_,h,_=>h.elim
 | _::_,[],h,_=>h.elim
theorem lJ.gT:∀ {l m} (i j:Nat) (x:Cell),lJ l m->Hl.gT m i j=some x->∃ y,Hl.gT l i j=some y/\xL y x
 | [],[],i,j,x,_,h=>by simp[Hl.gT]at h
 |a::l,b::m,0,j,x,w,h=>by simp only[Hl.gT,aWR,aPK]at h ⊢;exact w.1.2 j x h
 |a::l,b::m,i+1,j,x,w,h=>by simp only[Hl.gT,List.getElem?_cons_succ]at h ⊢;exact lJ.gT i j x w.2 h
 | [],_::_,_,_,_,w,_=>w.elim
 | _::_,[],_,_,_,w,_=>w.elim
theorem Heap.a8P {g h:Heap} {m sz:Nat} {es es':List (List Cell)} (hg:∀ q,q≠m->g q=h q) (hm:h m=some (.row sz es)) (gm:g m=some (.row sz es')) (hw:lJ es es'):g.wk h:=λE w R=>by
 have live:∀ q o,g q=some o->∃ o',h q=some o'/\(o.live->o'.live):=λq o ho=>by
  by_cases e:q=m
  ·subst e;exact⟨_,hm,λ_=>trivial⟩
  ·rw[hg q e]at ho;exact⟨o,ho,id⟩
 have live':∀ q o,h q=some o->∃ o',g q=some o'/\(o.live->o'.live):=λq o ho=>by
  by_cases e:q=m
  ·subst e;exact⟨_,gm,λ_=>trivial⟩
  ·rw[←hg q e]at ho;exact⟨o,ho,id⟩
 have rP:∀ b,oE E h w b->oE E g w b:=λb i=>⟨i.1,λq o ho hl=>by
  obtain⟨o',h1,h2⟩:=live q o ho;exact i.2 q o' h1 (h2 hl)⟩
 refine⟨⟨R.fin,λn hn=>R.dom n λe=>?_,λn o b hn hl=>?_,λn o n' o' b hn hl hn' hl'=>?_,λn o hn=>?_,R.laid.rP rP⟩,rP⟩
 ·by_cases e2:n=m
  ·subst e2;rw[hm]at e;cases e
  ·rw[hg n e2]at hn;exact hn e
 ·obtain⟨o2,h1,h2⟩:=live n o hn
  exact R.lt n o2 b h1 (h2 hl)
 ·obtain⟨o2,h1,h2⟩:=live n o hn
  obtain⟨o3,h3,h4⟩:=live n' o' hn'
  exact R.apart n o2 n' o3 b h1 (h2 hl) h3 (h4 hl')
 ·by_cases e:n=m
  ·subst e
   rw[gm]at hn
   obtain rfl:=eO hn
   rcases R.obj n _ hm with⟨b,o2,hl,ra⟩|⟨he,hl⟩
   ·refine .inl ⟨b,o2,hl,ra.hb,hw.size ra.size,?_⟩
    obtain⟨cs,t,cv,T,h1,h2,h3,h4,h5,h6⟩:=ra.mem
    refine⟨cs,t,cv,T,h1,by rw[←hw.length];exact h2,h3,h4,λi j x hx=>?_,λi j x hx=>?_⟩
    ·obtain⟨y,hy,_⟩:=hw.gT i j x hx;exact h5 i j y hy
    ·obtain⟨y,hy,hyx⟩:=hw.gT i j x hx;exact(hyx _ _ _ _ _ (h6 i j y hy)).rP rP
   ·subst he
    have:es'=[]:=by have:=hw.length;simp at this;exact aE8.1 this.symm
    exact .inr ⟨this,hl⟩
  ·rw[hg n e]at hn
   exact(R.obj n o hn).rP rP
theorem lJ.sub {xs ys:List aC} (s:tL xs ys) (A:List (List Cell)):lJ (A++[xs.map .v]) (A++[ys.map .v]):=by
 refine lJ.last (by simpa using s.1) (λj x hx=>?_) A
 rw[nI,nJ]at hx
 obtain⟨y,hy,rfl⟩:=hx
 have hlt:j<ys.length:=(jQ.1 hy).1
 have hxl:j<xs.length:=by rw[s.1];exact hlt
 have hx2:xs[j]?=some xs[j]:=cP hxl
 exact⟨.v xs[j],by rw[nI,hx2];rfl,xL.v (s.2 j _ _ hx2 hy)⟩
abbrev Q4:=Option (Nat×Nat×Nat×Nat)
def q1:Q4->Option Nat|none=>none|some x=>some x.1
def q2:Q4->Option Nat|none=>none|some x=>some x.2.1
def q3:Q4->Option Nat|none=>none|some x=>some x.2.2.1
def q4:Q4->Option Nat|none=>none|some x=>some x.2.2.2
def a6J (R:List OV->Prop) (z:List aC):Prop:=∃ e,R e/\OV.dD e=[]/\Sub (.agg z) (.agg (e.map OV.val))
def a8S (w:aC->aC):Prop:=∀ x y,Sub x y->Sub (w x) (w y)
theorem tL.mid {x y:aC} (s:Sub x y) (b:List aC):∀ a:List aC,tL (a++x::b) (a++y::b)
 | []=>.cons s (.refl b)
 |z::a=>.cons (.refl z) (tL.mid s b a)
theorem sA (a b:List aC):a8S λx=>.eW (a++x::b):=λ_ _ s=>Sub.eW (tL.mid s b a)
theorem aYH {R:List OV->Prop} {w:aC->aC} {z:List aC} {h h':Heap} (hz:a6J R z) (hw:a8S w) (hl:h.le h'):∃ r1 g l,Shift (w (.agg z)) h' r1 g/\QA R w r1 l/\fY h l g:=by
 obtain⟨e,h1,h2,h3⟩:=hz
 exact⟨_,h,_,Shift.of (hw _ _ h3) hl,⟨e,h1,rfl,h2.symm⟩,fY.nil h⟩
theorem aGN {α:Type} (c:α->aC) (l:List α) (k:Nat) (x:α):((l.map λx=>[c x]).map (List.map Cell.v)).set k [Cell.v (c x)]=((l.set k x).map λx=>[c x]).map (List.map Cell.v):=by
 rw[aDB,aDB,List.map_set];rfl
theorem OV.aNW {α:Type} (c:α->aC) (n sz:Nat) (l:List α):(OV.sl n sz (l.map λx=>[.v (c x)])).val=.os n sz 0 l.length:=by rw[OV.aKO,iG]
theorem aYI {P:Program} {N:Nat} {keep ib:List Nat} {mk:Marks} {c:Code} {Q:Exit->bE->Heap->Prop} {τ:bE} {h:Heap} {t:Tag (Code.loop c,Q)} {α:Type} (hmix:P.follows .mixedOrders=true) (hc:e8 N mk c=true) (S:α->bE) (side:α->Prop) (μ:α->Nat) (x₀:α)
  (h₀:dM (S x₀) τ/\side x₀)
  (round:∀ x,side x->lS P N keep ib mk c (λτ' h'=>∃ x',dM (S x') τ'/\h.le h'/\side x'/\μ x'<μ x) Q (S x) h ()):aCP P N (.loop c) Q τ h t :=
 aNH hmix hc S (λ_=>h) side μ x₀ ⟨h₀.1,Heap.le_refl _,h₀.2⟩ round
theorem qA {h:Heap} {n:Nat} {o:bW} (hn:h n=some o):aR h n o=h:=by
 funext q;simp only[gI];split
 ·subst_vars;exact hn.symm
 ·rfl
theorem a2Y {P:Program} {N:Nat} {keep ib:List Nat} {mk:Marks} {c:Code} {Q:Exit->bE->Heap->Prop} {τ:bE} {h:Heap} {t:Tag (Code.loop c,Q)} {α:Type} (hmix:P.follows .mixedOrders=true) (hc:e8 N mk c=true) (S:α->bE) (n:Nat) (R:α->bW) (side:α->Prop) (μ:α->Nat) (x₀:α)
  (h₀:dM (S x₀) τ/\h n=some (R x₀)/\side x₀)
  (round:∀ x,side x->lS P N keep ib mk c (λτ' h'=>∃ x',dM (S x') τ'/\(aR h n (R x')).le h'/\side x'/\μ x'<μ x) Q (S x) (aR h n (R x)) ()):aCP P N (.loop c) Q τ h t :=
 aNH hmix hc S (λx=>aR h n (R x)) side μ x₀ ⟨h₀.1,by simp only[qA h₀.2.1];exact Heap.le_refl _,h₀.2.2⟩ round
theorem Heap.nG {g h:Heap} {n:Nat} {o:bW} (hl:g.le h):(aR g n o).le (aR h n o):=λq=>by
 simp only[gI];split
 ·exact .inr rfl
 ·exact hl q
theorem View.box {T:List aC} {g:Heap} {nb sz:Nat} {e:List OV} (hd:e.map OV.oG=T) (hn:g nb=none) (ho:sM g (OV.dD e)):View (aR g nb (.row sz (OV.cells [e]))) (.op nb sz 0 0) (.ip sz [T] 0 0):=by
 have:=View.op (h:=aR g nb (.row sz (OV.cells [e]))) (n:=nb) (sz:=sz) (i:=0) (off:=0) [e] (by rw[aH]) cK (by
  have h1:OV.cT [e]=OV.dD e:=by simp[OV.cT]
  rw[h1];exact ho.up hn)
 have h2:OV.jU [e]=[T]:=by rw[OV.kM];simp[hd]
 rwa [h2]at this
theorem fY.le {h g:Heap} {l:List (Nat×bW)} (w:fY h l g):h.le g:=λq=>by
 by_cases hq:q∈bR l
 ·exact .inl (w.fresh q hq)
 ·exact .inr (w.upto q hq).symm
theorem aVH {es:List (List OV)} {k:Nat} {e:List OV} (h:es[k]?=some e):(OV.cells es)[k]?=some (e.map λc=>Cell.v c.val):=by
 rw[OV.cells,nI,h];rfl
theorem OR.bE9 {α:Type} {R:α->List OV->Prop}:∀ {l:List α} {es:List (List OV)},OR R l es->∀ (k:Nat) x,l[k]?=some x->∃ e,es[k]?=some e/\R x e
 | [],[],_,k,x,h=>by simp at h
 |a::l,b::es,h,0,x,e=>by simp at e;subst e;exact⟨b,rfl,h.1⟩
 |a::l,b::es,h,k+1,x,e=>OR.bE9 h.2 k x (by simpa using e)
 | [],_::_,h,_,_,_=>h.elim
 | _::_,[],h,_,_,_=>h.elim
theorem OS.some {α:Type} {R:α->List OV->Prop} {sz:Nat} {l:List α} {y:OV} (h:OS R sz l y) (hl:0<l.length):∃ n es,y=.sl n sz es/\OR R l es:=by
 rcases h with⟨_,h⟩|h
 ·rw[h]at hl;simp at hl
 ·exact h
def leX (S:List Nat) (g h:Heap):Prop:=∀ q,q∉S->g q=none∨g q=h q
theorem gF {g h:Heap} (x:leX [] g h):g.le h:=λq=>x q cK
theorem lW (S:List Nat) (g:Heap):leX S g g:=λq _=>.inr rfl
theorem oI {S:List Nat} {g h:Heap} {n:Nat} {o:bW} (hn:h n=some o) (x:leX (n::S) g h):leX S (aR g n o) h:=λq hq=>by
 simp only[gI];split
 ·subst_vars;exact .inr hn.symm
 ·rename_i e;exact x q (by simp only[oH,not_or];exact⟨e,hq⟩)
theorem kD {S:List Nat} {g h:Heap} {n:Nat} {o:bW} (hn:n∈S∨g n=none) (x:leX S g h):leX S g (aR h n o):=λq hq=>by
 simp only[gI];split
 ·subst_vars
  rcases hn with hn|hn
  ·exact absurd hn hq
  ·exact .inl hn
 ·exact x q hq
theorem Heap.le_none {g h:Heap} (hl:g.le h) {n:Nat} (hn:h n=none):g n=none:=by
 rcases hl n with e|e
 ·exact e
 ·rw[e,hn]
theorem fH.wk {P:Program} {f:FuncId} {args:List aC} {g h:Heap} {K:aC->Heap->Prop} (hl:g.wk h) (a:fH P f args g K):fH P f args h K :=
 ⟨a.1,λE w vs R r=>by
  obtain⟨R',hi⟩:=hl E w R
  exact(a.2 E w vs R' (cU.rP hi r)).mono λe w' q=>by
   cases e with
   |returned v =>
    obtain⟨r,h',E',k,ev,R2,r2⟩:=q
    exact⟨r,h',E',k,(hl.ev R).trans ev,R2,r2⟩
   | _=>exact q.elim⟩
theorem aG.wk {P:Program} {f:FuncId} {args:List aC} {g h:Heap} {K:aC->Heap->Prop} {t:Tag K} (hl:g.wk h) (a:aG P f args g K t):aG P f args h K t:=fH.wk hl a
theorem fH.shift {P:Program} {f:FuncId} {args:List aC} {h:Heap} {K K':aC->Heap->Prop} (a:fH P f args h K') (hk:∀ r h',K' r h'->∃ g:Heap,g.wk h'/\K r g):fH P f args h K :=
 ⟨a.1,λE w vs R r=>by
  exact(a.2 E w vs R r).mono λe w' q=>by
   cases e with
   |returned v =>
    obtain⟨r,h',E',k,ev,R2,r2⟩:=q
    obtain⟨g,hg,k'⟩:=hk r h' k
    obtain⟨R3,hi⟩:=hg E' w' R2
    exact⟨r,g,E',k',ev.trans (hg.ev R2),R3,dU.rP hi r2⟩
   | _=>exact q.elim⟩
def zV (c:List Int) (k:Nat):List Int:=c.take k++List.replicate (c.length-k) 0
theorem aBL (c:List Int):zV c 0=List.replicate c.length 0:=by simp[zV]
theorem aEM (c:List Int):zV c c.length=c:=by simp[zV]
theorem aEN (c:List Int) {k:Nat} (hk:k<=c.length):(zV c k).length=c.length:=by simp[zV];omega
theorem aEO {c:List Int} {k:Nat} (hk:k<c.length):(zV c k)[k]?=some 0:=by
 have h1:(c.take k).length=k:=by rw[qI];omega
 rw[zV,zE aA,h1,zF,List.getElem?_replicate,if_pos aA]
theorem aEP {c:List Int} {k:Nat} (hk:k<c.length):(zV c k).set k c[k]=zV c (k+1):=by
 have h1:(c.take k).length=k:=by rw[qI];omega
 rw[zV,zV,List.set_append_right _ _ aA,h1,zF,pD hk,show c.length-k=(c.length-(k+1))+1 by omega,a1I,List.set_cons_zero,aH1,aRK]
theorem aBM (n:Nat):(List.replicate n [aC.int .i64 0]).map (List.map Cell.v)=((List.replicate n (0:Int)).map λn=>[aC.int .i64 n]).map (List.map Cell.v):=by simp
theorem zW {P:Program} {N:Nat} (keep ib:List Nat) (mk:Marks) {c:Code} {Q:Exit->bE->Heap->Prop} {τ:bE} {h:Heap} {t:Tag (Code.loop c,Q)} {α:Type} (S:α->bE) (side:α->Prop) (μ:α->Nat) (x₀:α) (h₀:dM (S x₀) τ/\side x₀) (round:∀ x,side x->lS P N keep ib mk c (λτ' h'=>∃ x',dM (S x') τ'/\h.le h'/\side x'/\μ x'<μ x) Q (S x) h ()) (hmix:P.follows .mixedOrders=true:=by exact mix) (hc:e8 N mk c=true:=by kernel_rfl):aCP P N (.loop c) Q τ h t :=
 aYI (keep:=keep) (ib:=ib) (mk:=mk) hmix hc S side μ x₀ h₀ round
theorem aGO {P:Program} {N:Nat} (keep ib:List Nat) (mk:Marks) {c:Code} {Q:Exit->bE->Heap->Prop} {τ:bE} {h:Heap} {t:Tag (Code.loop c,Q)} {α:Type} (S:α->bE) (n:Nat) (R:α->bW) (side:α->Prop) (μ:α->Nat) (x₀:α) (h₀:dM (S x₀) τ/\h n=some (R x₀)/\side x₀) (round:∀ x,side x->lS P N keep ib mk c (λτ' h'=>∃ x',dM (S x') τ'/\(aR h n (R x')).le h'/\side x'/\μ x'<μ x) Q (S x) (aR h n (R x)) ()) (hmix:P.follows .mixedOrders=true:=by exact mix) (hc:e8 N mk c=true:=by kernel_rfl):aCP P N (.loop c) Q τ h t :=
 a2Y (keep:=keep) (ib:=ib) (mk:=mk) hmix hc S n R side μ x₀ h₀ round
theorem aS6 {E:Env} {h:Heap} {w:World} (k:Nat) (os:Array Obj):Ev E h w E h (Go.Sort.grow (w.drewN k) os):=by
 have hb:∀ b,b<w.heap.size->(Go.Sort.grow (w.drewN k) os).heap[b]?=w.heap[b]?:=λb hb=>by
  show(w.heap++os)[b]?=_
  rw[aWY hb]
 refine⟨?_,λb i=>⟨hb b i.1,?_,i.2⟩,λb i=>?_,λ_ hn=>⟨rfl,hn⟩,rfl,rfl⟩
 ·show w.heap.size<=(w.heap++os).size
  simp
 ·show b<(w.heap++os).size
  have:=i.1
  simp;omega
 ·simp only[World.shape?,hb b i]
theorem aYJ {E:Env} {h:Heap} {w:World} (R:Rel E h w) (k:Nat) (os:Array Obj):Rel E h (Go.Sort.grow (w.drewN k) os) :=
 have ev:=aS6 (E:=E) (h:=h) (w:=w) k os
 ⟨R.fin,R.dom,λn x b hn hx hb=>aUM (R.lt n x b hn hx hb) ev.size,R.apart,
  λn x hn=>(R.obj n x hn).ev ev rfl rfl λc hx hc=>by
   have:=R.lt n x c hn hx hc
   show(w.heap++os)[c]?=_
   rw[aWY this],R.laid.ev ev⟩
theorem aVI {P:Program} {f:FuncId} {args:List aC} {r:aC} (hc:eT P f=true)
  (H:∀ E h w vs,Rel E h w->cU E h w args vs->Calls P f vs.toArray w λe w'=>∃ v,e=.returned v/\(∀ E' h' w',dU E' h' w' r v)/\∃ k os,w'=Go.Sort.grow (w.drewN k) os):eX P f args r:=λh =>
 ⟨hc,λE w vs R rl=>(H E h w vs R rl).mono λe w' q=>by
  obtain⟨v,rfl,hv,k,os,rfl⟩:=q
  exact⟨r,h,E,⟨rfl,rfl⟩,aS6 k os,aYJ R k os,hv _ _ _⟩⟩
theorem LaidIn.var {E:Env} {h:Heap} {w:World} (x:LaidIn E h w) {P:Program} {name:String} {g:Nat} {Q:Array Value->Prop} (hg:P.globalNamed name=some g) (hm:(g,Q)∈kR):∃ cs,w.var? P name=some cs/\Q cs:=by
 obtain⟨_,cs,t,f,ht,q⟩:=x _ hm
 exact⟨cs,by simp only[World.var?,hg,aPK,ht],q⟩
theorem LaidIn.cell {E:Env} {h:Heap} {w:World} (x:LaidIn E h w) {g:Nat} {Q:Array Value->Prop} (hm:(g,Q)∈kR):∃ cs,(∀ i,w.cell? ⟨g,i,none⟩=cs[i]?)/\Q cs:=by
 obtain⟨_,cs,t,f,ht,q⟩:=x _ hm
 exact⟨cs,λi=>by simp only[World.cell?,ht];simp,q⟩
theorem aGP {E:Env} {h:Heap} {w w':World} (x:Go.RowKit.Below w.heap.size w w'):Ev E h w E h w':=by
 refine⟨x.size,λb i=>⟨x.block b i.1,aUM i.1 x.size,i.2⟩,λb i=>?_,λ_ hn=>⟨rfl,hn⟩,x.os,x.output⟩
 unfold World.shape?
 rw[x.block b i]
theorem aJF {E:Env} {h:Heap} {w w':World} (R:Rel E h w) (x:Go.RowKit.Below w.heap.size w w'):Rel E h w' :=
 have ev:=aGP (E:=E) (h:=h) x
 ⟨R.fin,R.dom,λn o b hn hx hb=>aUM (R.lt n o b hn hx hb) ev.size,R.apart,
  λn o hn=>(R.obj n o hn).ev ev rfl rfl λc hx hc=>x.block c (R.lt n o c hn hx hc),R.laid.ev ev⟩
theorem yD {P:Program} {f:FuncId} {args:List aC} {r:aC} (hc:eT P f=true)
  (H:∀ E h w vs,Rel E h w->cU E h w args vs->Calls P f vs.toArray w λe w'=>∃ v,e=.returned v/\(∀ E' h' w',dU E' h' w' r v)/\Go.RowKit.Below w.heap.size w w'):eX P f args r:=λh =>
 ⟨hc,λE w vs R rl=>(H E h w vs R rl).mono λe w' q=>by
  obtain⟨v,rfl,hv,b⟩:=q
  exact⟨r,h,E,⟨rfl,rfl⟩,aGP b,aJF R b,hv _ _ _⟩⟩
theorem bK4 {P:Program} {f:FuncId} {fn:Func} {c:Code} (N:Nat) (keep ib:List Nat) (mk:Marks) {args:List aC} {h:Heap} {K:aC->Heap->Prop} (hmix:P.follows .mixedOrders=true) (hf:P.funcs[f]?=some fn) (hb:fn.body=some c)
  (hck:(eT P f && decide (fn.ntmps=N) && e8 N mk c)=true) (hl:args.length<=N)
  (hw:lS P N keep ib mk c (λτ h'=>kG P fn.results (λr h'=>∃ r1 g,Shift r h' r1 g/\K r1 g) () .normal τ h') (kG P fn.results (λr h'=>∃ r1 g,Shift r h' r1 g/\K r1 g) ()) (nA 0 args) h ()):fH P f args h K :=
 r6 (fn:=fn) (c:=c) (N:=N) (aF4 N keep ib mk hmix hf hb hck hl (K':=λr h'=>∃ r1 g,Shift r h' r1 g/\K r1 g) (K:=λr h'=>∃ r1 g,Shift r h' r1 g/\K r1 g) hw λ_ h' hx=>⟨h',Heap.le_refl _,hx⟩) λr h' hx=>hx
theorem cU.rS {E:Env} {h:Heap} {w:World} (R:Rel E h w) {n sz:Nat} {es:List (List Cell)} (hn:h n=some (.row sz es)):∀ {xs:List aC} {vs:List Value},cU E h w xs vs->kQ n sz es.length xs=true->cU E (aR h n .gone) w (p5 n (fF es) xs) vs
 | [],[],_,_=>trivial
 |x::xs,v::vs,r,hb=>by
  simp only[kQ,lH]at hb
  exact⟨r.1.rS R hn hb.1,cU.rS R hn r.2 hb.2⟩
 | [],_::_,r,_=>r.elim
 | _::_,[],r,_=>r.elim
theorem aG.a26 {P:Program} {f:FuncId} {args:List aC} {h:Heap} {K:aC->Heap->Prop} {t:Tag K} (n:Nat) {sz:Nat} {es:List (List Cell)} (hn:h n=some (.row sz es)) (hb:kQ n sz es.length args=true)
  (a:fH P f (p5 n (fF es) args) (aR h n .gone) K):aG P f args h K t :=
 ⟨a.1,λE w vs R r=>(a.2 E w vs (R.gone hn) (r.rS R hn hb)).mono λe w' q=>by
  cases e with
  |returned v =>
   obtain⟨r,h',E',k,ev,R2,r2⟩:=q
   exact⟨r,h',E',k,(Ev.gone n).trans ev,R2,r2⟩
  | _=>exact q.elim⟩
theorem gG {P:Program} {f:FuncId} {fn:Func} {c:Code} (N:Nat) (keep ib:List Nat) (mk:Marks) {args:List aC} {h:Heap} {K:aC->Heap->Prop} (hf:P.funcs[f]?=some fn) (hw:lS P N keep ib mk c (λτ h'=>kG P fn.results (λr h'=>∃ r1 g,Shift r h' r1 g/\K r1 g) () .normal τ h') (kG P fn.results (λr h'=>∃ r1 g,Shift r h' r1 g/\K r1 g) ()) (nA 0 args) h ()) (hmix:P.follows .mixedOrders=true:=by exact mix) (hb:fn.body=some c:=by rfl) (hck:(eT P f && decide (fn.ntmps=N) && e8 N mk c)=true:=by kernel_rfl) (hl:args.length<=N:=by simp):fH P f args h K :=
 bK4 N keep ib mk hmix hf hb hck hl hw
def Env.oC (E:Env) (n:Nat) (S:Nat->Prop):Env where
 loc:=E.loc
 fp:=λm c=>if m=n then S c else E.fp m c
 used:=E.used
structure aOS (w w':World) (S S':Nat->Prop):Prop where
 new:∀ c,S' c->S c∨w.heap.size<=c
 lt:∀ c,S' c->c<w'.heap.size
 size:w.heap.size<=w'.heap.size
 heap:∀ c,c<w.heap.size->¬S c->w'.heap[c]?=w.heap[c]?
 shape:∀ c,c<w.heap.size->w'.shape? c=w.shape? c
 os:w'.os=w.os
 out:w'.output=w.output
theorem Ev.oC {E:Env} {h:Heap} {w w':World} (R:Rel E h w) {n:Nat} {x:bW} (hn:h n=some x) (hx:x.live) {S:Nat->Prop} (x':bW) (F:aOS w w' (E.fp n) S):Ev E h w (E.oC n S) (aR h n x') w':=by
 refine⟨F.size,λc hc=>⟨F.heap c hc.1 (hc.2 n x hn hx),⟨by have:=hc.1;have:=F.size;omega,?_⟩⟩,F.shape,λm hm=>⟨rfl,hm⟩,F.os,F.out⟩
 intro m y hm hy hf
 by_cases e:m=n
 ·subst e
  have hf:S c:=by simpa[Env.oC]using hf
  rcases F.new c hf with q|q
  ·exact hc.2 m x hn hx q
  ·have:=hc.1;omega
 ·rw[aE _ _ _ _ e]at hm
  exact hc.2 m y hm hy (by simpa[Env.oC,e]using hf)
theorem Rel.oC {E:Env} {h:Heap} {w w':World} (R:Rel E h w) {n:Nat} {x:bW} (hn:h n=some x) (hx:x.live) {S:Nat->Prop} (x':bW) (F:aOS w w' (E.fp n) S) (hO:zI (E.oC n S) (aR h n x') w' n x'):Rel (E.oC n S) (aR h n x') w':=by
 have ev:=Ev.oC R hn hx x' F
 have hfp:∀ m,m≠n->(E.oC n S).fp m=E.fp m:=λm e=>funext λc=>by simp[Env.oC,e]
 have hold:∀ m y,m≠n->aR h n x' m=some y->h m=some y:=λm y e hm=>by rwa [aE _ _ _ _ e]at hm
 have hS:∀ c,(E.oC n S).fp n c->S c:=λc hc=>by simpa[Env.oC]using hc
 refine⟨R.fin,λm hm=>?_,λm y c hm hy hf=>?_,λm y m' y' c hm hy hm' hy' hf hf'=>?_,λm y hm=>?_,R.laid.ev ev⟩
 ·by_cases e:m=n
  ·subst e;exact R.dom m aFG
  ·rw[aE _ _ _ _ e]at hm;exact R.dom m hm
 ·by_cases e:m=n
  ·subst e;exact F.lt c (hS c hf)
  ·rw[hfp m e]at hf
   have:=R.lt m y c (hold m y e hm) hy hf
   have:=F.size;omega
 ·have key:∀ m y,m≠n->aR h n x' m=some y->y.live->(E.oC n S).fp m c->(E.oC n S).fp n c->False:=λm y e hm hy hf hf'=>by
   rw[hfp m e]at hf
   rcases F.new c (hS c hf')with q|q
   ·exact e (R.apart m y n x c (hold m y e hm) hy hn hx hf q)
   ·have:=R.lt m y c (hold m y e hm) hy hf;omega
  by_cases e:m=n
  ·by_cases e':m'=n
   ·rw[e,e']
   ·subst e;exact(key m' y' e' hm' hy' hf' hf).elim
  ·by_cases e':m'=n
   ·subst e';exact(key m y e hm hy hf hf').elim
   ·rw[hfp m e]at hf;rw[hfp m' e']at hf'
    exact R.apart m y m' y' c (hold m y e hm) hy (hold m' y' e' hm') hy' hf hf'
 ·by_cases e:m=n
  ·subst e;rw[aH]at hm;cases hm;exact hO
  ·have hm':=hold m y e hm
   exact(R.obj m y hm').ev ev rfl (hfp m e) λc hl hc=>F.heap c (R.lt m y c hm' hl hc) λq=>e (R.apart m y n x c hm' hl hn hx hc q)
def a63 (Q:Nat->(Nat->Prop)->World->Prop):Prop:=∀ b S w0 w,Q b S w0->S b->(∀ c,S c->w.heap[c]?=w0.heap[c]?)->Q b S w
theorem aZZ {P:Program} {f:FuncId} {n sz:Nat} {h:Heap} {Q Q':Nat->(Nat->Prop)->World->Prop} {xs:List aC} {r:aC} (hc:eT P f=true) (hQ:a63 Q) (hn:h n=some (.abs Q))
  (H:∀ (E:Env) (g:Heap) (b:Nat) (S:Nat->Prop) (w:World) (vs:List Value),cU E g w xs vs->Q b S w->S b->(∀ c,S c->c<w.heap.size) ->
   Calls P f (Value.pointer (some ⟨b,0,none⟩)::vs).toArray w λe w'=>∃ (u:Value) (S':Nat->Prop),e=.returned u/\(∀ E' h' w',dU E' h' w' r u)/\S' b/\Q' b S' w'/\aOS w w' S S') :
  fH P f (.op n sz 0 0::xs) h λr' h'=>r'=r/\h'=aR h n (.abs Q') :=
 ⟨hc,λE w vs R rl=>by
  match vs,rl with
  |v::vs,rl =>
   obtain⟨b,hl,hf,w0,hq,ha⟩:=R.obj n _ hn
   have hq:=hQ b _ w0 w hq hf ha
   have hv:v=.pointer (some ⟨b,0,none⟩):=by
    have h1:=rl.1
    cases v <;> (try cases h1;done)
    cases h1 with
    |op _ _ _ _ b' o hd hl' =>
     rw[hl]at hl'
     cases hl'
     simp
   subst hv
   refine(H E h b (E.fp n) w vs rl.2 hq hf λc hc=>R.lt n _ c hn trivial hc).mono ?_
   rintro e w' ⟨u,S',rfl,hu,hSb,hq',F⟩
   exact⟨r,_,E.oC n S',⟨rfl,rfl⟩,Ev.oC R hn trivial _ F,R.oC hn trivial _ F ⟨b,hl,by simpa[Env.oC]using hSb,w',by
    have:(E.oC n S').fp n=S':=funext λc=>by simp[Env.oC]
    rw[this];exact hq',λ_ _=>rfl⟩,hu _ _ _⟩⟩
theorem Heap.a99 {h:Heap} {n:Nat} {t:TypeId} {cs:Array Value} {Q:Nat->(Nat->Prop)->World->Prop} (hn:h n=some (.raw t cs)) (hq:∀ b S w,S b->w.heap[b]?=some (.cells cs t (0,0))->Q b S w):(aR h n (.abs Q)).wk h:=λE w R=>by
 have hc:∀ m y,aR h n (.abs Q) m=some y->y.live->∃ y',h m=some y'/\y'.live:=λm y hm hy=>by
  by_cases e:m=n
  ·subst e;exact⟨_,hn,trivial⟩
  ·rw[aE _ _ _ _ e]at hm;exact⟨y,hm,hy⟩
 have hi:∀ b,oE E h w b->oE E (aR h n (.abs Q)) w b:=λb i=>⟨i.1,λm y hm hy=>by
  obtain⟨y',h1,h2⟩:=hc m y hm hy
  exact i.2 m y' h1 h2⟩
 refine⟨⟨R.fin,λm hm=>?_,λm y b hm hy hf=>?_,λm y m' y' b hm hy hm' hy' hf hf'=>?_,λm y hm=>?_,R.laid.rP hi⟩,hi⟩
 ·by_cases e:m=n
  ·subst e;exact R.dom m aFG
  ·rw[aE _ _ _ _ e]at hm;exact R.dom m hm
 ·obtain⟨z,h1,h2⟩:=hc m y hm hy;exact R.lt m z b h1 h2 hf
 ·obtain⟨z,h1,h2⟩:=hc m y hm hy
  obtain⟨z',h1',h2'⟩:=hc m' y' hm' hy'
  exact R.apart m z m' z' b h1 h2 h1' h2' hf hf'
 ·by_cases e:m=n
  ·subst e
   rw[aH]at hm;cases hm
   obtain⟨b,hl,hf,hb⟩:=R.obj m _ hn
   exact⟨b,hl,hf,w,hq b _ w hf hb,λ_ _=>rfl⟩
  ·rw[aE _ _ _ _ e]at hm
   exact(R.obj m y hm).rP hi
open Go.ChangeShapes Go.WideShapes
theorem aHU {H:Type} {enc:TypeId×Value->H} {a:Assume} {C:Checked} {os:Os} {f:FuncId} {fn:Func} {s:ChangeSpec} {conds:List PathCond} {apart fresh handsOn again:Bool} {X:World->Array Value->Prop}
  (hX:∀ (w w':World) (args:Array Value),w.heap=w'.heap->X w args->X w' args)
  (own:ownKnob C.prog.godebug=none) (started:os.Started) (noInit:C.prog.inits.idxOf? f=none) (hfn:C.prog.funcs[f]?=some fn)
  (witness:∃ (w:World) (tape:Tape) (i:Input),w.os=os/\(w.forCall tape i).Shaped C.prog/\i.vars=[]/\Input.okWide C.prog (w.forCall tape i) .any w.heap.size f i /\
   ((s.pre enc C.prog fn conds apart (w.forCall tape i).memory i.args/\X (w.forCall tape i).memory i.args)/\sizedMet enc C.prog fn (OpenSpec.ofChange s) apart (w.forCall tape i).memory i.args)/\a.holds C.prog (lone (Frame.enter C.prog f i.args .normal) [] (w.forCall tape i)))
  (contract:∀ (W:World) (base:Nat) (args:Array Value) (ds gs:List (DataW H)) (before:List MemPlace),W.ShapedOpen C.prog ->
   (∀ (j:Nat) t v,fn.params[j]?=some t->args[j]?=some v->Value.okWide C.prog W .any base t v) ->
   DataW.Whole enc C.prog fn.params.toList s.vars apart W args.toList ds gs before ->
   conds.all (PathCond.test C.prog ⟨fn.params.toList,ds,s.plain.varTypes C.prog,gs⟩)=true ->
   (DataW.weightsEach C.prog (fn.params.toList++s.plain.varTypes C.prog) (ds++gs)).all (·<=reachBytes)=true->X W args ->
   a.holds C.prog (lone (Frame.enter C.prog f args .normal) [] W) ->
   Calls C.prog f args W λe W'=>∃ v,e=.returned v/\s.post enc C.prog fn apart fresh handsOn again W args v W') :
  ReturnsInHanded a C os f .any (λw args=>(s.pre enc C.prog fn conds apart w args/\X w args)/\sizedMet enc C.prog fn (OpenSpec.ofChange s) apart w args) (s.post enc C.prog fn apart fresh handsOn again):=by
 refine returnsInHanded_of_calls own started noInit witness ?_
 intro w tape i _ hsh _ hok hpre hholds
 obtain⟨_,_,_,fn',hfn',_,_,_,_,hval⟩:=hok
 have e:fn'=fn:=eO (hfn'.symm.trans hfn)
 subst e
 obtain⟨⟨⟨ds,gs,before,hw,hc⟩,hx⟩,hz⟩:=hpre
 have hw':=DataW.Whole.of_heap (w':=w.forCall tape i) (by rfl) hw
 refine(contract (w.forCall tape i) w.heap.size i.args ds gs before hsh hval hw' hc (hz.weights hw) (hX _ _ _ (by rfl) hx) hholds).mono λe W' ⟨v,he,hp⟩=>?_
 subst he
 exact ChangeSpec.post_blind hp
theorem aL7 {H:Type} {enc:TypeId×Value->H} {C:Checked} {os:Os} {f:FuncId} {fn:Func} {s:ChangeSpec} {laid:List (String×DataW Unit)}
  (own:ownKnob C.prog.godebug=none) (started:os.Started) (noInit:C.prog.inits.idxOf? f=none) (hfn:C.prog.funcs[f]?=some fn)
  (witness:∃ (w:World) (tape:Tape) (i:Input),w.os=os/\(w.forCall tape i).Shaped C.prog/\i.vars=[]/\Input.okWide C.prog (w.forCall tape i) .any w.heap.size f i /\
   ((s.pre enc C.prog fn [] false (w.forCall tape i).memory i.args/\laidMetH C.prog laid (w.forCall tape i).memory)/\sizedMet enc C.prog fn (OpenSpec.ofChange s) false (w.forCall tape i).memory i.args)/\({}:Assume).holds C.prog (lone (Frame.enter C.prog f i.args .normal) [] (w.forCall tape i)))
  (lo:laidOutB C.prog=true) (mr:mapsRowed C.prog=true)
  (hz:((List.range C.prog.types.size).all λt=>match C.prog.underlying t with|some (.slice e)=>decide (0<C.prog.cellsOf e)|_=>true)=true)
  (T:List TypeId) (hT:aU9 C.prog T=true) (hp:fn.params.all (λt=>decide (t<C.prog.types.size) && T.contains t)=true)
  (hsv:s.vars=[]) (hs:∀ ds:List (DataW H),ds.length=fn.params.size->s.fn H ds={ results:=[.lit (.bool true)],args:=ds })
  {tb:TypeId} (hr:fn.resultTypes=#[tb]) (htb:C.prog.underlying tb=some .bool)
  (hc:∀ xs,aNM C.prog fn.params.toList xs->eX C.prog f xs (.bool true)) (hlaid:∀ W,laidMetH C.prog laid W->W.ShapedOpen C.prog->∀ p∈kR,∃ cs t f,W.heap[p.1]?=some (.cells cs t f)/\p.2 cs) :
  ReturnsInHanded {} C os f .any (λw args=>(s.pre enc C.prog fn [] false w args/\laidMetH C.prog laid w)/\sizedMet enc C.prog fn (OpenSpec.ofChange s) false w args) (s.post enc C.prog fn false true false false):=by
 refine aHU (X:=λw _=>laidMetH C.prog laid w) (λ_ _ _ hh h=>h.of_heap hh) own started noInit hfn witness ?_
 intro W base args ds gs before hsh hval hW _ _ hL _
 have hW0:=hW
 obtain⟨p,q,hA,hV,_,_,_⟩:=hW
 have hp':=aW1.1 hp
 simp only[lH,decide_eq_true_eq]at hp'
 have hbase:∀ (j:Nat) t v,fn.params.toList[j]?=some t->args.toList[j]?=some v->Value.okWide C.prog W .any base t v:=λj t v h1 h2=>hval j t v (by simpa using h1) (by simpa using h2)
 obtain⟨xs,h1,h2,h3⟩:=aJB hT (E:=aNN) (h:=r7) (λb hb=>aGB hb) (λt ht=>by have:=(hp' t (by simpa using ht)).2;simpa using this) hbase hA
 refine Calls.mono (by simpa using(hc xs h1 r7).2 aNN W args.toList (aX7 W λp hp=>⟨aGB (by obtain⟨cs,t,f,e,_⟩:=hlaid W hL hsh p hp;exact(aH0.1 e).1),hlaid W hL hsh p hp⟩) h2) λe W' he=>?_
 cases e with
 |returned v =>
  obtain⟨r,h',E',⟨rfl,rfl⟩,ev,_,rep⟩:=he
  cases rep
  exact⟨_,rfl,aX6 lo mr hz (by rw[aW1];intro t ht;simpa using(hp' t ht).1) hsv hs hr htb hW0 (by simpa using h3) (λb hb=>(ev.keep b (aGB hb)).1) ev.os ev.out⟩
 | _=>exact he.elim
theorem gH {P:Program} {n:String} {d:DataW Unit} {r:List (String×DataW Unit)} {w:World} (h:laidMet P ((n,d)::r) w):laidMet P r w:=by
 obtain⟨ps,⟨g,t,cs,fuel,p,q,_,_,_,_,hq,rfl⟩,hn,ha⟩:=h
 exact⟨q,hq,(aUV.1 hn).2.1,λb off hm=>ha b off (al7 _ hm)⟩
theorem u3 {P:Program} {W:World} {g:Nat} {t:TypeId} {n nm:String} {d:DataW Unit} {r:List (String×DataW Unit)}
  (h:laidMet P ((n,.iface nm d)::r) W) (hg:P.globalNamed n=some g) (ht:(P.globals[g]?).map (·.type)=some t) (hi:uE P t=true) :
  ∃ v,W.cell? ⟨g,0,none⟩=some v/\(v=.nilIface∨∃ te pe,v=.iface te pe):=by
 obtain⟨ms,hu⟩:∃ ms,P.underlying t=some (.interface ms):=by
  unfold uE at hi
  split at hi
  ·exact⟨_,by assumption⟩
  ·cases hi
 obtain⟨ps,⟨g0,t0,cs0,f0,p0,q0,hg0,ht0,wR,hd0,_,_⟩,_,_⟩:=h
 obtain rfl:=eO (hg.symm.trans hg0)
 obtain rfl:=eO (ht.symm.trans ht0)
 obtain⟨f1,u,v,hc,_,_⟩:=iface_of_trod hu hd0
 refine⟨.iface u v,?_,.inr ⟨u,v,rfl⟩⟩
 rw[World.var?_cell hg0 wR 0]
 rw[←al5,hc]
 rfl
theorem wH {w:World} {g:Nat} {Q:Value->Prop} (h:∃ v,w.cell? ⟨g,0,none⟩=some v/\Q v):∃ cs t f,w.heap[g]?=some (.cells cs t f)/\∃ v,cs[0]?=some v/\Q v:=by
 obtain⟨v,hv,hq⟩:=h
 unfold World.cell? at hv
 cases hW:w.heap[g]? with
 |none=>rw[hW]at hv;cases hv
 |some o =>
  rw[hW]at hv
  cases o with
  |cells c t f=>exact⟨c,t,f,rfl,v,by simpa using hv,hq⟩
  | _=>cases hv
theorem aPE {w:World} {g:Nat} {k:IntKind} (h:∃ m,w.cell? ⟨g,0,none⟩=some (.int k m)):∃ cs t f,w.heap[g]?=some (.cells cs t f)/\∃ m,cs[0]?=some (.int k m):=by
 obtain⟨m,hm⟩:=h
 obtain⟨cs,t,f,h1,v,h2,rfl⟩:=wH (Q:=λv=>v=.int k m) ⟨_,hm,rfl⟩
 exact⟨cs,t,f,h1,m,h2⟩
end Go.Hl

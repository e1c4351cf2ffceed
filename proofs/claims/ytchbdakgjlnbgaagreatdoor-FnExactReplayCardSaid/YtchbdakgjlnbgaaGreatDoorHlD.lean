/-
  Contracts of functions and laws of the layer over the walk.
-/
import Derived.Test.YtchbdakgjlnbgaaGreatDoorHlC
import Derived.KernelRfl
import Derived.Sort.Grow
import Derived.Deep.Draws
import Derived.Below
import Derived.LaidLaws
import Derived.LaidHandle
import Derived.Stop.Joined
import Derived.Lib.LaidTab
import Derived.Shelf.Vars
namespace Go.Hl
set_option linter.unusedVariables false
set_option linter.unusedSimpArgs false
inductive OV where
 |v (x:aC)
 |nil (sz:Nat)
 |sl (n sz:Nat) (es:List (List OV))
def OV.val:OV->aC
 | .v x=>x
 | .nil sz=>.sl sz [] true
 | .sl n sz es=>.os n sz 0 es.length
mutual
def OV.nD:OV->aC
 | .v x=>x
 | .nil sz=>.sl sz [] false
 | .sl n sz es=>.sl sz (OV.cW es) false
def OV.cW:List (List OV)->List (List aC)
 | []=>[]
 |e::es=>OV.aY9 e::OV.cW es
def OV.aY9:List OV->List aC
 | []=>[]
 |x::e=>x.nD::OV.aY9 e
end
theorem OV.aE9:∀ (e:List OV),OV.aY9 e=e.map OV.nD
 | []=>rfl
 |x::e=>by rw[OV.aY9,OV.aE9 e];rfl
theorem OV.mD:∀ (es:List (List OV)),OV.cW es=es.map (List.map OV.nD)
 | []=>rfl
 |e::es=>by rw[OV.cW,OV.mD es,OV.aE9];rfl
def OV.cells (es:List (List OV)):List (List Cell):=es.map (List.map λc=>Cell.v c.val)
mutual
def OV.rows:OV->List (Nat×bQ)
 | .v _=>[]
 | .nil _=>[]
 | .sl n sz es=>(n,.row sz (OV.cells es))::OV.bV es
def OV.bV:List (List OV)->List (Nat×bQ)
 | []=>[]
 |e::es=>OV.cA e++OV.bV es
def OV.cA:List OV->List (Nat×bQ)
 | []=>[]
 |x::e=>x.rows++OV.cA e
end
theorem OV.aL5:∀ {e:List OV} {x:OV} {p:Nat×bQ},x∈e->p∈x.rows->p∈OV.cA e
 |y::e,x,p,hx,hp=>by
  rw[OV.cA]
  rcases s7.1 hx with rfl|hx
  ·exact aF7 _ hp
  ·exact aA5 _ (OV.aL5 hx hp)
def kD (h:Heap) (l:List (Nat×bQ)):Prop:=∀ p∈l,h p.1=some p.2
def qB (h:Heap) (S:List Nat):Heap:=λm=>if m∈S then(h m).map λ_=>.gone else h m
theorem aAY {h:Heap} {S:List Nat} {m:Nat} {o:bQ} (hm:m∈S) (ho:qB h S m=some o):o=.gone:=by
 simp only[qB,if_pos hm,zR]at ho
 obtain⟨_,_,rfl⟩:=ho;rfl
theorem vA {h:Heap} {S:List Nat} {m:Nat} (hm:m∉S):qB h S m=h m:=by simp only[qB,if_neg hm]
theorem yI {E:Env} {h:Heap} {w:World} (S:List Nat) (b:Nat) (i:xM E h w b):xM E (qB h S) w b :=
 ⟨i.1,λm o hm ho=>by
  by_cases e:m∈S
  ·rw[aAY e hm]at ho;exact ho.elim
  ·rw[vA e]at hm;exact i.2 m o hm ho⟩
theorem aZA {E:Env} {h:Heap} {w:World} (R:Rel E h w) {S:List Nat} {n:Nat} (hS:n∈S) {x:bQ} (hn:h n=some x) (hx:x.live) (b:Nat) (hb:E.fp n b):xM E (qB h S) w b :=
 ⟨R.lt n x b hn hx hb,λm o hm ho hf=>by
  by_cases e:m∈S
  ·rw[aAY e hm]at ho;exact ho.elim
  ·rw[vA e]at hm
   have:=R.apart m o n x b hm ho hn hx hf hb
   exact e (this▸hS)⟩
theorem Rel.qB {E:Env} {h:Heap} {w:World} (R:Rel E h w) (S:List Nat):Rel E (qB h S) w:=by
 refine⟨R.fin,λm hm=>?_,?_,?_,?_,R.laid.imm (yI S)⟩
 ·by_cases e:m∈S
  ·refine R.dom m λq=>hm ?_
   simp only[Hl.qB,if_pos e,q,bHA]
  ·rw[vA e]at hm;exact R.dom m hm
 ·intro m o b hm ho
  by_cases e:m∈S
  ·rw[aAY e hm]at ho;exact ho.elim
  ·rw[vA e]at hm;exact R.lt m o b hm ho
 ·intro m o m' o' b hm ho hm' ho'
  by_cases e:m∈S
  ·rw[aAY e hm]at ho;exact ho.elim
  ·by_cases e':m'∈S
   ·rw[aAY e' hm']at ho';exact ho'.elim
   ·rw[vA e]at hm;rw[vA e']at hm';exact R.apart m o m' o' b hm ho hm' ho'
 ·intro m o hm
  by_cases e:m∈S
  ·rw[aAY e hm];trivial
  ·rw[vA e]at hm;exact(R.obj m o hm).imm λb=>yI S b
theorem Ev.qB {E:Env} {h:Heap} {w:World} (S:List Nat):Ev E h w E (qB h S) w :=
 ⟨eV _,λb hb=>⟨rfl,yI S b hb⟩,λ_ _=>rfl,λ_ hn=>⟨rfl,hn⟩,rfl,rfl⟩
mutual
theorem gG.aPP {E:Env} {h:Heap} {w:World} (R:Rel E h w) {S:List Nat}:∀ (x:OV),kD h x.rows->(∀ p∈x.rows,p.1∈S)->∀ v,gG E h w x.val v->gG E (Hl.qB h S) w x.nD v
 | .v x,_,_,v,r=>gG.imm (λb=>yI S b) r
 | .nil sz,_,_,v,r=>Sub.loose sz [] true _ _ _ _ (gG.imm (λb=>yI S b) (show gG E h w (.sl sz [] true) v from r))
 | .sl n sz es,ho,hS,v,r=>by
  have hn:h n=some (.row sz (OV.cells es)):=ho (n,_) (by rw[OV.rows];exact p6)
  have hnS:n∈S:=hS (n,_) (by rw[OV.rows];exact p6)
  simp only[OV.val]at r
  simp only[OV.nD]
  have hcells:∀ i j y,kS (OV.cells es) i j=some y->∃ c,kS es i j=some c/\y=.v c.val:=by
   intro i j y hy
   rw[OV.cells,yZ]at hy
   obtain⟨c,hc,rfl⟩:=zR.1 hy
   exact⟨c,hc,rfl⟩
  have hdat:∀ i j y,kS (OV.cW es) i j=some y->∃ c,kS es i j=some c/\y=c.nD:=by
   intro i j y hy
   rw[OV.mD,yZ]at hy
   obtain⟨c,hc,rfl⟩:=zR.1 hy
   exact⟨c,hc,rfl⟩
  have hlen:(OV.cW es).length=es.length:=by rw[OV.mD,lM]
  have key:∀ L,L=es.length->gG E h w (.os n sz 0 L) v->gG E (Hl.qB h S) w (.sl sz (OV.cW es) false) v:=by
   intro L hL r
   cases r with
   |os0 _ _ hd hl =>
    have:es=[]:=aR2 hL.symm
    subst this
    exact .sl0 sz false none 0 (λ_=>rfl) (by simp[maxLen]) trivial
   |os _ _ _ _ b o cap t m hd hl hlc hmax hsh hm =>
    obtain⟨b',o',hl',hbS,hs,cs,ct,cv,T,hh,hm',hT,hD,hc,hrr⟩:=aG0 R hn (.inr ⟨_,hl⟩)
    rw[hl]at hl'
    obtain⟨rfl,rfl⟩:=oH (eN hl')
    have himm:∀ c,E.fp n c->xM E (Hl.qB h S) w c:=λc hc=>aZA R hnS hn trivial c hc
    have hcs:∀ i j y,kS (OV.cW es) i j=some y->∃ c,kS es i j=some c/\y=c.nD/\cs[o+i*sz+j]?=some (cv i j)/\(cv i j).oneCell'=true/\gG E h w c.val (cv i j):=by
     intro i j y hy
     obtain⟨c,hc1,rfl⟩:=hdat i j y hy
     have hcell:kS (OV.cells es) i j=some (.v c.val):=by rw[OV.cells,yZ,hc1];rfl
     have h2:=hrr i j _ hcell
     cases h2 with
     |v x c' S' h1 hx=>exact⟨c,hc1,rfl,hc i j _ hcell,h1,hx⟩
    have:=gG.sl (E:=E) (h:=Hl.qB h S) (w:=w) sz (OV.cW es) false b (o+0*sz) cap cv (himm b hbS) (by rw[hlen,←hL];exact hlc) hmax (λe=>by simp at e)
     (λe he=>by
      rw[OV.mD,yC]at he
      obtain⟨e',he',rfl⟩:=he
      have:=hs (e'.map λc=>Cell.v c.val) (yC.2 ⟨e',he',rfl⟩)
      simpa using this)
     (λi j y hy=>by
      obtain⟨c,_,_,h1,_,_⟩:=hcs i j y hy
      simp only[World.cell?,hh]
      rw[←h1]
      simp)
     (λi j y hy=>by obtain⟨c,_,_,_,h1,_⟩:=hcs i j y hy;exact h1)
     (λi j y hy=>by
      obtain⟨c,hc1,rfl,_,_,h1⟩:=hcs i j y hy
      obtain⟨e,he,hj⟩:=nX hc1
      exact aNY R es (λp hp=>ho p (by rw[OV.rows];exact tF _ hp)) (λp hp=>hS p (by rw[OV.rows];exact tF _ hp)) e (vJ he) c (vJ hj) _ h1)
    rw[hlen,←hL]at this
    exact this
  exact key _ rfl r
theorem aNY {E:Env} {h:Heap} {w:World} (R:Rel E h w) {S:List Nat}:∀ (es:List (List OV)),kD h (OV.bV es)->(∀ p∈OV.bV es,p.1∈S)->∀ e∈es,∀ c∈e,∀ v,gG E h w c.val v->gG E (Hl.qB h S) w c.nD v
 | [],_,_,e,he,_,_,_,_=>by simp at he
 |a::es,ho,hS,e,he,c,hc,v,r=>by
  rcases s7.1 he with h1|h1
  ·rw[h1]at hc
   exact a34 R a (λp hp=>ho p (by rw[OV.bV];exact aF7 _ hp)) (λp hp=>hS p (by rw[OV.bV];exact aF7 _ hp)) c hc v r
  ·exact aNY R es (λp hp=>ho p (by rw[OV.bV];exact aA5 _ hp)) (λp hp=>hS p (by rw[OV.bV];exact aA5 _ hp)) e h1 c hc v r
theorem a34 {E:Env} {h:Heap} {w:World} (R:Rel E h w) {S:List Nat}:∀ (e:List OV),kD h (OV.cA e)->(∀ p∈OV.cA e,p.1∈S)->∀ c∈e,∀ v,gG E h w c.val v->gG E (Hl.qB h S) w c.nD v
 | [],_,_,c,hc,_,_=>by simp at hc
 |a::e,ho,hS,c,hc,v,r=>by
  rcases s7.1 hc with h1|h1
  ·rw[h1]at r ⊢
   exact gG.aPP R a (λp hp=>ho p bBO) (λp hp=>hS p bBO) v r
  ·exact a34 R e (λp hp=>ho p bBN) (λp hp=>hS p bBN) c h1 v r
end
mutual
def aC.eQ:aC->Bool
 | .any | .bool _ | .int _ _ | .str _ | .lP | .aU | .aAI | .mB | .s9=>true
 | .os _ _ _ _ | .op _ _ _ _ | .mp _=>true
 | .sl _ es _=>es.isEmpty
 | .agg cs=>aC.nK cs
 | .iJ cs=>aC.nK cs
 | _=>false
def aC.nK:List aC->Bool
 | []=>true
 |x::xs=>x.eQ && aC.nK xs
end
theorem aC.aJP:∀ {l:List aC},aC.nK l=true->∀ (i:Nat) x,l[i]?=some x->x.eQ=true
 |y::l,h,0,x,hx=>by simp only[aC.nK,pS]at h;simp at hx;subst hx;exact h.1
 |y::l,h,i+1,x,hx=>by simp only[aC.nK,pS]at h;exact aC.aJP h.2 i x aSI
 | [],_,i,x,hx=>by simp at hx
def Cell.eQ:Cell->Bool
 | .v x=>x.eQ
 | .own _ _=>false
def bQ.eQ:bQ->Bool
 | .row _ es=>es.all λe=>e.all Cell.eQ
 | .map _ _ _=>false
 | .raw _ _=>true
 | .abs _=>true
 | .gone=>true
theorem gG.eQ {E E':Env} {h h':Heap} {w w':World} (hl:∀ n,E.used n->E'.loc n=E.loc n/\E'.used n) (hs:∀ b,b<w.heap.size->w'.shape? b=w.shape? b) {x:aC} {v:Value} (r:gG E h w x v) (hx:x.eQ=true):gG E' h' w' x v:=by
 induction r with
 |any v=>exact .any v
 |bool b=>exact .bool b
 |int k n=>exact .int k n
 |str s hl=>exact .str s hl
 |lP=>exact .lP
 |aU=>exact .aU
 |aAI=>exact .aAI
 |mB=>exact .mB
 |s9=>exact .s9
 |sl0 sz t a cap ht hmax ha=>exact .sl0 sz t a cap ht hmax ha
 |sl sz es t b o cap cv hi hcap hmax ht hs' hc h1 hr ih =>
  simp only[aC.eQ,List.isEmpty_iff]at hx
  subst hx
  exact .sl0 sz t _ cap (λe=>by have:=ht e;simpa using this) hmax trivial
 |ip sz es i off b o cv hi hs' hc h1 hr ih=>simp[aC.eQ]at hx
 |os n sz i len b o cap t m hd hl' hlc hmax hsh hm=>exact .os n sz i len b o cap t m (hl n hd).2 ((hl n hd).1.trans hl') hlc hmax ((hs b (aSM hsh)).trans hsh) hm
 |os0 n sz hd hl'=>exact .os0 n sz (hl n hd).2 ((hl n hd).1.trans hl')
 |op n sz i off b o hd hl'=>exact .op n sz i off b o (hl n hd).2 ((hl n hd).1.trans hl')
 |agg cs vs hle hr ih=>exact .agg cs vs hle λi x v a b=>ih i x v a b (aC.aJP (by simpa only[aC.eQ]using hx) i x a)
 |iJ cs vs hle hr ih=>exact .iJ cs vs hle λi x v a b=>ih i x v a b (aC.aJP (by simpa only[aC.eQ]using hx) i x a)
 |fn f cs ds vs us hle hr hle' hr' ih ih'=>simp[aC.eQ]at hx
 |iface t x v hr ih=>simp[aC.eQ]at hx
 |mp n b o hd hl'=>exact .mp n b o (hl n hd).2 ((hl n hd).1.trans hl')
theorem aLL.eQ {E E':Env} {h h':Heap} {w w':World} (hl:∀ n,E.used n->E'.loc n=E.loc n/\E'.used n) (hs:∀ b,b<w.heap.size->w'.shape? b=w.shape? b) {n:Nat} {o:bQ} (hn:E'.loc n=E.loc n) (hfp:E'.fp n=E.fp n)
  (hm:∀ b,E.fp n b->w'.heap[b]?=w.heap[b]?) (ho:o.eQ=true) (r:aLL E h w n o):aLL E' h' w' n o:=by
 cases o with
 |gone=>trivial
 |raw t cs=>obtain⟨b,hb,hf,hr⟩:=r;exact⟨b,hn.trans hb,by rw[hfp];exact hf,(hm b hf).trans hr⟩
 |abs Q=>obtain⟨b,hb,hf,w0,hq,ha⟩:=r;exact⟨b,hn.trans hb,by rw[hfp];exact hf,w0,by rw[hfp];exact hq,λc hc=>by rw[hfp]at hc;exact(hm c hc).trans (ha c hc)⟩
 |map _ _ _=>simp[bQ.eQ]at ho
 |row sz es =>
  rcases r with⟨b,o',h1,h2⟩|⟨h1,h2⟩
  ·refine .inl ⟨b,o',hn.trans h1,?_⟩
   obtain⟨hb,hsz,cs,t,cv,T,hh,hle,hT,hD,hc,hr⟩:=h2
   rw[hfp]
   refine⟨hb,hsz,cs,t,cv,T,(hm b hb).trans hh,hle,hT,hD,hc,λi j x hx=>?_⟩
   have hsx:x.eQ=true:=by
    obtain⟨e,he,hj⟩:=nX hx
    have h3:=aB1.1 ho e (vJ he)
    exact aB1.1 h3 x (vJ hj)
   have hx':=hr i j x hx
   cases x with
   |own _ _=>simp[Cell.eQ]at hsx
   |v y =>
    generalize cv i j=cc at hx'
    cases hx' with
    |v _ _ _ h1' hy=>exact .v y _ _ h1' (hy.eQ hl hs hsx)
  ·exact .inr ⟨h1,hn.trans h2⟩
def OR {α:Type} (R:α->List OV->Prop):List α->List (List OV)->Prop
 | [],[]=>True
 |x::l,e::es=>R x e/\OR R l es
 | _,_=>False
def OS {α:Type} (R:α->List OV->Prop) (sz:Nat) (l:List α) (y:OV):Prop:=(y=.nil sz/\l=[])∨∃ n es,y=.sl n sz es/\OR R l es
def oP {α:Type} (c:α->aC) (x:α) (e:List OV):Prop:=e=[.v (c x)]
theorem OR.length {α:Type} {R:α->List OV->Prop}:∀ {l:List α} {es:List (List OV)},OR R l es->l.length=es.length
 | [],[],_=>rfl
 |x::l,e::es,h=>by simpa using OR.length h.2
 | [],_::_,h=>h.elim
 | _::_,[],h=>h.elim
theorem OR.get {α:Type} {R:α->List OV->Prop}:∀ {l:List α} {es:List (List OV)},OR R l es->∀ (i:Nat) x e,l[i]?=some x->es[i]?=some e->R x e
 |x::l,e::es,h,0,y,d,hy,hd=>by simp at hy hd;subst hy;subst hd;exact h.1
 |x::l,e::es,h,i+1,y,d,hy,hd=>OR.get h.2 i y d (by simpa using hy) (by simpa using hd)
 | [],[],_,i,y,d,hy,_=>by simp at hy
 | [],_::_,h,_,_,_,_,_=>h.elim
 | _::_,[],h,_,_,_,_,_=>h.elim
theorem OR.append {α:Type} {R:α->List OV->Prop}:∀ {l l':List α} {es es':List (List OV)},OR R l es->OR R l' es'->OR R (l++l') (es++es')
 | [],_,[],_,_,h=>h
 |x::l,_,e::es,_,a,h=>⟨a.1,OR.append a.2 h⟩
 | [],_,_::_,_,a,_=>a.elim
 | _::_,_,[],_,a,_=>a.elim
theorem OR.nD {α:Type} {R:α->List OV->Prop} {c:α->List aC} (hR:∀ x e,R x e->e.map OV.nD=c x):∀ {l:List α} {es:List (List OV)},OR R l es->OV.cW es=l.map c
 | [],[],_=>rfl
 |x::l,e::es,h=>by rw[OV.cW,OR.nD hR h.2,OV.aE9,hR x e h.1];rfl
 | [],_::_,h=>h.elim
 | _::_,[],h=>h.elim
theorem OS.nD {α:Type} {R:α->List OV->Prop} {c:α->List aC} {sz:Nat} {l:List α} {y:OV} (hR:∀ x e,R x e->e.map OV.nD=c x) (h:OS R sz l y):y.nD=.sl sz (l.map c) false:=by
 rcases h with⟨rfl,rfl⟩|⟨n,es,rfl,h⟩
 ·rfl
 ·simp only[OV.nD,OR.nD hR h]
def cF (l:List (Nat×bQ)):List Nat:=l.map (·.1)
def bVH (S:List Nat) (h h':Heap):Prop:=∀ m,m∉S->h' m=h m
open Go.ChangeShapes Go.WideShapes
def zZ {α:Type} (s:α->Nat) (l:List α):Nat:=l.length+(l.map s).sum
theorem gI {α:Type} (s:α->Nat) (l:List α):zZ s l=l.length+(l.map s).sum:=rfl
theorem OV.lG:∀ (a b:List OV),OV.cA (a++b)=OV.cA a++OV.cA b
 | [],b=>rfl
 |x::a,b=>by rw[tE,OV.cA,OV.lG a b,OV.cA,oW]
theorem OV.aAA:∀ (a b:List (List OV)),OV.bV (a++b)=OV.bV a++OV.bV b
 | [],b=>rfl
 |x::a,b=>by rw[tE,OV.bV,OV.aAA a b,OV.bV,oW]
theorem eS (a b:List (Nat×bQ)):cF (a++b)=cF a++cF b:=xX
theorem eC {l:List (Nat×bQ)} {m:Nat}:m∈cF l↔∃ o,(m,o)∈l:=by
 simp[cF]
structure eO (h:Heap) (l:List (Nat×bQ)) (h':Heap):Prop where
 nodup:(cF l).Nodup
 fresh:∀ m∈cF l,h m=none
 gH:kD h' l
 upto:bVH (cF l) h h'
theorem eO.nil (h:Heap):eO h [] h:=⟨List.nodup_nil,by simp[cF],by simp[kD],λm _=>rfl⟩
theorem eO.one {h:Heap} {n:Nat} {o:bQ} (hn:h n=none):eO h [(n,o)] (bL h n o) :=
 ⟨by simp[cF],by simpa[cF]using hn,by simp[kD],λm hm=>aE _ _ _ _ (by simpa[cF]using hm)⟩
theorem eO.append {h h1 h2:Heap} {a b:List (Nat×bQ)} (x:eO h a h1) (y:eO h1 b h2):eO h (a++b) h2:=by
 have dis:∀ m∈cF a,m∉cF b:=λm hm hb=>by
  obtain⟨o,ho⟩:=eC.1 hm
  have:=y.fresh m hb
  rw[x.gH _ ho]at this;cases this
 refine⟨?_,?_,?_,?_⟩
 ·rw[eS]
  exact aFY.2 ⟨x.nodup,y.nodup,λp hp q hq e=>dis p hp (e▸hq)⟩
 ·intro m hm
  rw[eS,rF]at hm
  by_cases hb:m∈cF a
  ·exact x.fresh m hb
  ·rcases hm with hm|hm
   ·exact absurd hm hb
   ·rw[←x.upto m hb];exact y.fresh m hm
 ·intro p hp
  rcases rF.1 hp with hp|hp
  ·have:p.1∈cF a:=eC.2 ⟨p.2,hp⟩
   rw[y.upto p.1 (dis _ this)];exact x.gH p hp
  ·exact y.gH p hp
 ·intro m hm
  rw[eS,rF]at hm
  rw[y.upto m λq=>hm (.inr q),x.upto m λq=>hm (.inl q)]
theorem eO.perm {h h':Heap} {a b:List (Nat×bQ)} (x:eO h a h') (p:a.Perm b):eO h b h' :=
 ⟨(p.map _).nodup_iff.1 x.nodup,λm hm=>x.fresh m (((p.map (·.1)).mem_iff).2 hm),λq hq=>x.gH q (p.mem_iff.2 hq),λm hm=>x.upto m λq=>hm (((p.map (·.1)).mem_iff).1 q)⟩
theorem eO.set {h h':Heap} {n:Nat} {o o':bQ} {l:List (Nat×bQ)} (x:eO h ((n,o)::l) h'):eO h ((n,o')::l) (bL h' n o'):=by
 have hnd:=x.nodup
 have hn:n∉cF l:=by
  have:(cF ((n,o)::l)).Nodup:=hnd
  simp only[cF,nE,a2C]at this
  exact this.1
 refine⟨hnd,x.fresh,?_,λm hm=>?_⟩
 ·intro p hp
  rcases s7.1 hp with rfl|hp
  ·exact bB _ _ _
  ·have:p.1≠n:=λe=>hn (e▸eC.2 ⟨p.2,hp⟩)
   rw[aE _ _ _ _ this];exact x.gH p (tF _ hp)
 ·have:m≠n:=λe=>hm (by subst e;simp[cF])
  rw[aE _ _ _ _ this];exact x.upto m hm
def pA (h:Heap) (S:List Nat):Heap:=λm=>if m∈S then none else h m
theorem aTG (h:Heap) (S:List Nat):(pA h S).le h:=λm=>by
 by_cases e:m∈S
 ·exact .inl (if_pos e)
 ·exact .inr (if_neg e)
theorem eO.drop {h h':Heap} {a b:List (Nat×bQ)} (x:eO h (a++b) h'):eO h b (pA h' (cF a)):=by
 have hnd:=x.nodup
 rw[eS]at hnd
 obtain⟨_,nb,dis⟩:=aFY.1 hnd
 refine⟨nb,λm hm=>x.fresh m (by rw[eS];exact aA5 _ hm),λp hp=>?_,λm hm=>?_⟩
 ·have:p.1∉cF a:=λq=>dis _ q _ (eC.2 ⟨p.2,hp⟩) rfl
  simp only[pA,if_neg this]
  exact x.gH p (aA5 _ hp)
 ·by_cases e:m∈cF a
  ·simp only[pA,if_pos e]
   exact(x.fresh m (by rw[eS];exact aF7 _ e)).symm
  ·simp only[pA,if_neg e]
   exact x.upto m (by rw[eS];simp[e,hm])
theorem bIY {P:Program} {f:FuncId} {args:List aC} {r:aC} {K:aC->Heap->Prop} (h:Heap) (a:gV P f args h K)
  (hk:∀ r' h',K r' h'->∃ l,eO h l h'/\∀ E w v,Rel E h' w->gG E h' w r' v->gG E (qB h' (cF l)) w r v):gV P f args h λr' h'=>r'=r/\h'=h :=
 ⟨a.1,λE w vs R hv=>Calls.mono (a.2 E w vs R hv) λe w' he=>by
  cases e <;> try exact he
  obtain⟨r',h',E',k,ev,R',rx⟩:=he
  obtain⟨l,nw,hr⟩:=hk r' h' k
  have hle:h.le (qB h' (cF l)):=λm=>by
   by_cases e:m∈cF l
   ·exact .inl (nw.fresh m e)
   ·rw[vA e,nw.upto m e];exact .inr rfl
  refine⟨r,h,E',⟨rfl,rfl⟩,ev.trans ((Ev.qB _).forget hle),(R'.qB _).forget hle,?_⟩
  refine gG.imm (λb hb=>xM.le hle hb) (hr E' w' _ R' rx)⟩
theorem eW.aPP {E:Env} {h:Heap} {w:World} (R:Rel E h w) {S:List Nat}:∀ (e:List OV) (vs:List Value),kD h (OV.cA e)->(∀ p∈OV.cA e,p.1∈S)->eW E h w (e.map OV.val) vs->eW E (qB h S) w (e.map OV.nD) vs
 | [],[],_,_,_=>trivial
 |x::e,v::vs,ho,hS,hr=>⟨gG.aPP R x (λp hp=>ho p bBO) (λp hp=>hS p bBO) v hr.1,
   eW.aPP R e vs (λp hp=>ho p bBN) (λp hp=>hS p bBN) hr.2⟩
 | [],_::_,_,_,hr=>hr.elim
 | _::_,[],_,_,hr=>hr.elim
theorem gG.a35 {E:Env} {h:Heap} {w:World} (R:Rel E h w) {S:List Nat} (e:List OV) (v:Value) (ho:kD h (OV.cA e)) (hS:∀ p∈OV.cA e,p.1∈S) (hr:gG E h w (.agg (e.map OV.val)) v):gG E (qB h S) w (.agg (e.map OV.nD)) v:=by
 cases hr with
 |agg _ vs hl hr =>
  have:=eW.aPP R e vs ho hS (eW.mk hl hr)
  exact .agg _ vs this.length this.get
def oS {α:Type} (R:α->List OV->Prop) (sz:Nat) (l:List α) (e:List OV):Prop:=∃ y,e=[y]/\OS R sz l y
theorem yJ {α:Type} {c:α->aC} {x:α} {e:List OV} (h:oP c x e):e.map OV.nD=[c x]:=by
 unfold oP at h;subst h;rfl
theorem bIZ {α:Type} {R:α->List OV->Prop} {c:α->List aC} {sz:Nat} {l:List α} {e:List OV} (hR:∀ x e,R x e->e.map OV.nD=c x) (h:oS R sz l e):e.map OV.nD=[.sl sz (l.map c) false]:=by
 obtain⟨y,rfl,h⟩:=h
 simp only[nE,xL,OS.nD hR h]
structure aNZ (h:Heap) (T:List Nat) (l:List (Nat×bQ)) (h':Heap):Prop where
 nodup:(T++cF l).Nodup
 fresh:∀ m∈T++cF l,h m=none
 there:∀ m∈T,h' m≠none
 gH:kD h' l
 upto:bVH (T++cF l) h h'
theorem aNZ.b1S {h h':Heap} {l:List (Nat×bQ)} (x:aNZ h [] l h'):eO h l h':=⟨x.nodup,x.fresh,x.gH,x.upto⟩
theorem eO.toT {h h':Heap} {l:List (Nat×bQ)} (x:eO h l h'):aNZ h [] l h':=⟨x.nodup,x.fresh,by simp,x.gH,x.upto⟩
theorem aNZ.drop {h h':Heap} {T:List Nat} {l:List (Nat×bQ)} (x:aNZ h T l h'):eO h l (pA h' T):=by
 obtain⟨_,nb,dis⟩:=aFY.1 x.nodup
 refine⟨nb,λm hm=>x.fresh m (aA5 _ hm),λp hp=>?_,λm hm=>?_⟩
 ·have:p.1∉T:=λq=>dis _ q _ (eC.2 ⟨p.2,hp⟩) rfl
  simp only[pA,if_neg this]
  exact x.gH p hp
 ·by_cases e:m∈T
  ·simp only[pA,if_pos e]
   exact(x.fresh m (aF7 _ e)).symm
  ·simp only[pA,if_neg e]
   exact x.upto m (by simp[e,hm])
theorem aNZ.some {h h':Heap} {T:List Nat} {l:List (Nat×bQ)} (x:aNZ h T l h') {m:Nat} (hm:m∈T++cF l):h' m≠none:=by
 rcases rF.1 hm with hm|hm
 ·exact x.there m hm
 ·obtain⟨o,ho⟩:=eC.1 hm
  rw[x.gH _ ho];simp
theorem aNZ.row {h h':Heap} {T:List Nat} {l:List (Nat×bQ)} (x:aNZ h T l h') {n:Nat} {o:bQ} (hn:h' n=none):aNZ h T ((n,o)::l) (bL h' n o):=by
 have hn1:n∉T++cF l:=λq=>x.some q hn
 have nd:=aFY.1 x.nodup
 refine⟨aFY.2 ⟨nd.1,?_,?_⟩,?_,?_,λp hp=>?_,λm hm=>?_⟩
 ·show(n::cF l).Nodup
  exact a2C.2 ⟨λq=>hn1 (aA5 _ q),nd.2.1⟩
 ·intro a ha b hb e
  have hb':b∈n::cF l:=hb
  rcases s7.1 hb' with rfl|hb'
  ·exact hn1 (e▸aF7 _ ha)
  ·exact nd.2.2 a ha b hb' e
 ·intro m hm
  rcases rF.1 hm with hm|hm
  ·exact x.fresh m (aF7 _ hm)
  ·have hm':m∈n::cF l:=hm
   rcases s7.1 hm' with rfl|hm'
   ·rw[←x.upto m hn1];exact hn
   ·exact x.fresh m (aA5 _ hm')
 ·intro m hm
  have:m≠n:=λe=>hn1 (e▸aF7 _ hm)
  rw[aE _ _ _ _ this];exact x.there m hm
 ·rcases s7.1 hp with rfl|hp
  ·exact bB _ _ _
  ·have:p.1≠n:=λe=>hn1 (e▸aA5 _ (eC.2 ⟨p.2,hp⟩))
   rw[aE _ _ _ _ this];exact x.gH p hp
 ·have h1:m≠n:=λe=>hm (e▸aA5 _ aSK)
  rw[aE _ _ _ _ h1]
  refine x.upto m λq=>hm ?_
  rcases rF.1 q with q|q
  ·exact aF7 _ q
  ·exact aA5 _ (tF _ q)
theorem eO.keep {h h':Heap} {l:List (Nat×bQ)} (x:eO h l h') {n:Nat} {o:bQ} (hn:h n=some o):h' n=some o:=by
 rw[x.upto n λq=>by rw[x.fresh n q]at hn;cases hn];exact hn
theorem aNZ.set {h h':Heap} {T:List Nat} {n:Nat} {o o':bQ} {l:List (Nat×bQ)} (x:aNZ h T ((n,o)::l) h'):aNZ h T ((n,o')::l) (bL h' n o'):=by
 have nd:=aFY.1 x.nodup
 have nd2:(n::cF l).Nodup:=nd.2.1
 refine⟨x.nodup,x.fresh,λm hm=>?_,λp hp=>?_,λm hm=>?_⟩
 ·by_cases e:m=n
  ·subst e;simp
  ·rw[aE _ _ _ _ e];exact x.there m hm
 ·rcases s7.1 hp with rfl|hp
  ·exact bB _ _ _
  ·have:p.1≠n:=λe=>(a2C.1 nd2).1 (e▸eC.2 ⟨p.2,hp⟩)
   rw[aE _ _ _ _ this];exact x.gH p (tF _ hp)
 ·have h1:m≠n:=λe=>hm (e▸aA5 _ aSK)
  rw[aE _ _ _ _ h1];exact x.upto m hm
theorem uA {α:Type} {c:α->aC}:∀ (l:List α),OR (oP c) l (l.map λx=>[.v (c x)])
 | []=>trivial
 |x::l=>⟨rfl,uA l⟩
theorem sG {α:Type} (c:α->aC) (l:List α):OV.cells (l.map λx=>[OV.v (c x)])=(l.map λx=>[c x]).map (List.map .v):=by
 simp[OV.cells,OV.val]
theorem wS {α:Type} (c:α->aC):∀ (l:List α),OV.bV (l.map λx=>[OV.v (c x)])=[]
 | []=>rfl
 |x::l=>by rw[nE,OV.bV,wS c l];rfl
theorem OV.aR (x:aC):(OV.v x).val=x:=rfl
theorem OS.flat {α:Type} {R:α->List OV->Prop} {sz:Nat} {l:List α} {y:OV} (h:OS R sz l y):y.val.flat=true:=by
 rcases h with⟨rfl,_⟩|⟨n,es,rfl,_⟩ <;> rfl
theorem OS.one {α:Type} {R:α->List OV->Prop} {sz:Nat} {l:List α} {y:OV} (h:OS R sz l y):y.val.cells=[y.val]:=by
 rcases h with⟨rfl,_⟩|⟨n,es,rfl,_⟩ <;> rfl
theorem bFL {es:List (List OV)} (e:List OV) {z:List Cell} {k m:Nat} (hk:es.length=k) (hm:0<m) :
  (OV.cells es++List.replicate m z).set k (e.map λc=>Cell.v c.val)=OV.cells (es++[e])++List.replicate (m-1) z:=by
 obtain⟨m,rfl⟩:∃ j,m=j+1:=⟨m-1,by omega⟩
 have hl:(OV.cells es).length=k:=by simp[OV.cells,hk]
 rw[bHJ _ _ aA,hl,aIY,bHC,bHK]
 simp[OV.cells]
theorem y9 (es:List (List OV)) (e:List OV):OV.bV (es++[e])=OV.bV es++OV.cA e:=by
 rw[OV.aAA];simp only[OV.bV,gU]
def qK (P:Program) (f:FuncId) (args:List aC) (Q:aC->List (Nat×bQ)->Prop):Prop:=∀ h:Heap,gV P f args h λr h'=>∃ l,Q r l/\eO h l h'
theorem eO.under {g h':Heap} {n:Nat} {o:bQ} {l:List (Nat×bQ)} (hg:g n=none) (x:eO (bL g n o) l h'):∃ g',h'=bL g' n o/\eO g l g'/\g' n=none:=by
 have hn:n∉cF l:=λq=>by have:=x.fresh n q;simp at this
 have hk:h' n=some o:=x.keep (bB _ _ _)
 refine⟨pA h' [n],?_,⟨x.nodup,λm hm=>?_,λp hp=>?_,λm hm=>?_⟩,by simp[pA]⟩
 ·funext m
  by_cases e:m=n
  ·subst e;rw[bB,hk]
  ·rw[aE _ _ _ _ e];simp[pA,e]
 ·have e:m≠n:=λe=>hn (e▸hm)
  have:=x.fresh m hm
  rwa [aE _ _ _ _ e]at this
 ·have e:p.1≠n:=λe=>hn (e▸eC.2 ⟨p.2,hp⟩)
  have:pA h' [n] p.1=h' p.1:=by simp[pA,e]
  rw[this];exact x.gH p hp
 ·by_cases e:m=n
  ·subst e;rw[hg];simp[pA]
  ·have:pA h' [n] m=h' m:=by simp[pA,e]
   rw[this,x.upto m hm,aE _ _ _ _ e]
theorem eO.bVI {g h':Heap} {n m:Nat} {x y:bQ} {l:List (Nat×bQ)} (hn:g n=none) (hm:bL g n x m=none) (q:eO (bL (bL g n x) m y) l h'):∃ g',h'=bL (bL g' n x) m y/\eO g l g'/\g' n=none/\bL g' n x m=none:=by
 obtain⟨g1,rfl,q1,h1⟩:=q.under hm
 obtain⟨g2,rfl,q2,h2⟩:=q1.under hn
 exact⟨g2,rfl,q2,h2,h1⟩
section
variable {P:Program} {f:FuncId} {args:List aC} {Q:aC->List (Nat×bQ)->Prop} {K:aC->Heap->Prop} {t:Tag K}
theorem aH.nw1 {g:Heap} {n:Nat} {x:bQ} (a:qK P f args Q) (hn:g n=none) (k:∀ r l g',Q r l->eO g l g'->g' n=none->K r (bL g' n x)):aH P f args (bL g n x) K t :=
 aH.jP (a _) λr h' ⟨l,q,hq⟩=>by obtain⟨g',rfl,q2,h1⟩:=hq.under hn;exact k r l g' q q2 h1
theorem aH.nw2 {g:Heap} {n m:Nat} {x y:bQ} (a:qK P f args Q) (hn:g n=none) (hm:m≠n/\g m=none) (k:∀ r l g',Q r l->eO g l g'->g' n=none->g' m=none->K r (bL (bL g' n x) m y)):aH P f args (bL (bL g n x) m y) K t :=
 aH.jP (a _) λr h' ⟨l,q,hq⟩=>by
  obtain⟨g',rfl,q2,h1,h2⟩:=hq.bVI hn (j4.2 hm)
  exact k r l g' q q2 h1 (j4.1 h2).2
end
theorem b8Q {P:Program} {f:FuncId} {fn:Func} {c:Code} (N:Nat) (keep ib:List Nat) (mk:Marks) {args:List aC} {Q:aC->List (Nat×bQ)->Prop} (hmix:P.follows .mixedOrders=true) (hf:P.funcs[f]?=some fn) (hb:fn.body=some c)
  (hck:(jM P f && decide (fn.ntmps=N) && jA N mk c)=true) (hl:args.length<=N)
  (hw:∀ h,rG P N keep ib mk c (λτ h'=>o9 P fn.results (λr h'=>∃ r1 g l,Shift r h' r1 g/\Q r1 l/\eO h l g) () .normal τ h') (o9 P fn.results (λr h'=>∃ r1 g l,Shift r h' r1 g/\Q r1 l/\eO h l g) ()) (tI 0 args) h ()):qK P f args Q:=by
 intro h
 have h1:gV P f args h (λr h'=>∃ r1 g l,Shift r h' r1 g/\Q r1 l/\eO h l g) :=
  gV.mono (b1Q (K:=λr h'=>∃ r1 g l,Shift r h' r1 g/\Q r1 l/\eO h l g) N keep ib mk hmix hf hb hck hl (by
   have:=hw h
   refine Eq.mp ?_ this
   have e:(λr h'=>∃ r1 g l,Shift r h' r1 g/\Q r1 l/\eO h l g)=(λr h'=>∃ g':Heap,g'.le h'/\∃ r1 g l,Shift r g' r1 g/\Q r1 l/\eO h l g):=by
    funext r h'
    refine propext ⟨λ⟨r1,g,l,s,q⟩=>⟨h',Heap.le_refl _,r1,g,l,s,q⟩,λ⟨g',hl,r1,g,l,s,q⟩=>⟨r1,g,l,(Shift.of (Sub.refl _) hl).trans s,q⟩⟩
   rw[e])) λr h' q=>q
 exact aBH (fn:=fn) (c:=c) (N:=N) h1 λr h' ⟨r1,g,l,s,q,n⟩=>⟨r1,g,s,l,q,n⟩
theorem qK.fO {P:Program} {f:FuncId} {args:List aC} {Q:aC->List (Nat×bQ)->Prop} {r:aC} (a:qK P f args Q)
  (hk:∀ r' l,Q r' l->∀ E w v h',kD h' l->Rel E h' w->gG E h' w r' v->gG E (qB h' (cF l)) w r v):fQ P f args r:=λh =>
 bIY h (a h) λr' h' ⟨l,q,hn⟩=>⟨l,hn,λE w v R rx=>hk r' l q E w v h' hn.gH R rx⟩
theorem qK.sub {P:Program} {f:FuncId} {xs ys:List aC} {Q:aC->List (Nat×bQ)->Prop} (s:b8 xs ys) (a:qK P f ys Q):qK P f xs Q:=λh=>gV.sub s (a h)
def xZ (h:Heap):Heap:=λm=>(h m).map λ_=>.gone
theorem aFA {h:Heap} {m:Nat} {o:bQ} (ho:xZ h m=some o):o=.gone:=by
 simp only[xZ,zR]at ho
 obtain⟨_,_,rfl⟩:=ho;rfl
theorem aDW {E:Env} {h:Heap} {w:World} {b:Nat} (hb:b<w.heap.size):xM E (xZ h) w b:=⟨hb,λm o hm ho=>by rw[aFA hm]at ho;exact ho.elim⟩
theorem Rel.xZ {E:Env} {h:Heap} {w:World} (R:Rel E h w):Rel E (xZ h) w:=by
 refine⟨R.fin,λm hm=>R.dom m λq=>hm (by simp[Hl.xZ,q]),?_,?_,?_,R.laid.imm λb hb=>aDW hb.1⟩
 ·intro m o b hm ho;rw[aFA hm]at ho;exact ho.elim
 ·intro m o m' o' b hm ho;rw[aFA hm]at ho;exact ho.elim
 ·intro m o hm;rw[aFA hm];trivial
theorem gV.bSJ {P:Program} {f:FuncId} {args args':List aC} {h:Heap} {K:aC->Heap->Prop} {K':aC->List (Nat×bQ)->Prop}
  (hview:∀ E w vs,Rel E h w->eW E h w args vs->eW E (xZ h) w args' vs) (a:gV P f args' (xZ h) K)
  (hK:∀ r h',K r h'->∃ l,K' r l/\eO (xZ h) l h'/\r.eQ=true/\∀ p∈l,p.2.eQ=true) :
  gV P f args h λr h'=>∃ l,K' r l/\eO h l h':=by
 refine⟨a.1,λE w vs R hv=>Calls.mono (a.2 E w vs R.xZ (hview E w vs R hv)) λe w' he=>?_⟩
 cases e <;> try exact he
 obtain⟨r,h',E',k,ev,R',rx⟩:=he
 obtain⟨l,k',nw,hr,hsol⟩:=hK r h' k
 have hnew:∀ m∈cF l,h m=none:=λm hm=>by
  have:=nw.fresh m hm
  simpa[xZ]using this
 let h2:Heap:=λm=>if m∈cF l then h' m else h m
 have e1:∀ m,m∈cF l->h2 m=h' m:=λm hm=>if_pos hm
 have e2:∀ m,m∉cF l->h2 m=h m:=λm hm=>if_neg hm
 let E2:Env:={ loc:=E'.loc,fp:=λn=>if n∈cF l then E'.fp n else E.fp n,used:=E'.used }
 have f1:∀ m,m∈cF l->E2.fp m=E'.fp m:=λm hm=>if_pos hm
 have f2:∀ m,m∉cF l->E2.fp m=E.fp m:=λm hm=>if_neg hm
 have a7A:∀ b,b<w.heap.size->xM E (xZ h) w b:=λb hb=>aDW hb
 have solL:∀ m o,m∈cF l->h' m=some o->o.eQ=true:=λm o hm ho=>by
  obtain⟨o',ho'⟩:=eC.1 hm
  have:=nw.gH _ ho'
  rw[ho]at this
  obtain rfl:=eN this
  exact hsol _ ho'
 have evA:Ev E h w E2 h2 w':=by
  refine⟨ev.size,λb hb=>?_,ev.shape,ev.loc,ev.os,ev.out⟩
  have h1:=ev.keep b (a7A b hb.1)
  refine⟨h1.1,h1.2.1,λm o hm ho hf=>?_⟩
  by_cases e:m∈cF l
  ·rw[e1 m e]at hm;rw[f1 m e]at hf;exact h1.2.2 m o hm ho hf
  ·rw[e2 m e]at hm;rw[f2 m e]at hf;exact hb.2 m o hm ho hf
 have R2:Rel E2 h2 w':=by
  refine⟨R'.fin,λm hm=>?_,?_,?_,?_,R.laid.ev evA⟩
  ·by_cases e:m∈cF l
   ·rw[e1 m e]at hm;exact R'.dom m hm
   ·rw[e2 m e]at hm;exact(ev.loc m (R.dom m hm)).2
  ·intro m o b hm ho hf
   by_cases e:m∈cF l
   ·rw[e1 m e]at hm;rw[f1 m e]at hf;exact R'.lt m o b hm ho hf
   ·rw[e2 m e]at hm;rw[f2 m e]at hf;exact bG5 (R.lt m o b hm ho hf) ev.size
  ·intro m o m' o' b hm ho hm' ho' hf hf'
   by_cases e:m∈cF l
   ·rw[e1 m e]at hm;rw[f1 m e]at hf
    by_cases e':m'∈cF l
    ·rw[e1 m' e']at hm';rw[f1 m' e']at hf';exact R'.apart m o m' o' b hm ho hm' ho' hf hf'
    ·rw[e2 m' e']at hm';rw[f2 m' e']at hf'
     exact absurd hf ((ev.keep b (a7A b (R.lt m' o' b hm' ho' hf'))).2.2 m o hm ho)
   ·rw[e2 m e]at hm;rw[f2 m e]at hf
    by_cases e':m'∈cF l
    ·rw[e1 m' e']at hm';rw[f1 m' e']at hf'
     exact absurd hf' ((ev.keep b (a7A b (R.lt m o b hm ho hf))).2.2 m' o' hm' ho')
    ·rw[e2 m' e']at hm';rw[f2 m' e']at hf';exact R.apart m o m' o' b hm ho hm' ho' hf hf'
  ·intro m o hm
   by_cases e:m∈cF l
   ·rw[e1 m e]at hm
    exact aLL.eQ (E:=E') (E':=E2) (λn hn=>⟨rfl,hn⟩) (λ_ _=>rfl) rfl (f1 m e) (λ_ _=>rfl) (solL m o e hm) (R'.obj m o hm)
   ·rw[e2 m e]at hm
    cases o with
    |gone=>trivial
    |row sz es=>exact(R.obj m _ hm).ev evA (ev.loc m (R.dom m (by simp[hm]))).1 (f2 m e) λb _ hb=>(ev.keep b (a7A b (R.lt m _ b hm trivial hb))).1
    |abs Q=>exact(R.obj m _ hm).ev evA (ev.loc m (R.dom m (by simp[hm]))).1 (f2 m e) λb _ hb=>(ev.keep b (a7A b (R.lt m _ b hm trivial hb))).1
    |raw t cs=>exact(R.obj m _ hm).ev evA (ev.loc m (R.dom m (by simp[hm]))).1 (f2 m e) λb _ hb=>(ev.keep b (a7A b (R.lt m _ b hm trivial hb))).1
    |map kt et l'=>exact(R.obj m _ hm).ev evA (ev.loc m (R.dom m (by simp[hm]))).1 (f2 m e) λb _ hb=>(ev.keep b (a7A b (R.lt m _ b hm trivial hb))).1
 refine⟨r,h2,E2,⟨l,k',⟨nw.nodup,hnew,λp hp=>?_,λm hm=>e2 m hm⟩⟩,evA,R2,gG.eQ (E:=E') (E':=E2) (λn hn=>⟨rfl,hn⟩) (λ_ _=>rfl) rx hr⟩
 rw[e1 p.1 (eC.2 ⟨p.2,hp⟩)];exact nw.gH p hp
def View (h:Heap) (x x':aC):Prop:=∀ E w v,Rel E h w->gG E h w x v->gG E (xZ h) w x' v
def dS (h:Heap):List aC->List aC->Prop
 | [],[]=>True
 |x::xs,y::ys=>View h x y/\dS h xs ys
 | _,_=>False
theorem bVJ {E:Env} {h:Heap} {w:World} {b:Nat} (i:xM E h w b):xM E (xZ h) w b:=aDW i.1
theorem View.same (h:Heap) (x:aC):View h x x:=λE w v R r=>r.imm λb i=>bVJ i
theorem View.sub {h:Heap} {x y z:aC} (a:View h x y) (s:Sub y z):View h x z:=λE w v R r=>s _ _ _ _ (a E w v R r)
theorem aJQ {E:Env} {h:Heap} {w:World} {S:List Nat}:∀ b,xM E (Hl.qB h S) w b->xM E (xZ h) w b:=λb i=>aDW i.1
theorem View.ov {h:Heap} (y:OV) (ho:kD h y.rows):View h y.val y.nD:=λE w v R r =>
 (gG.aPP R (S:=cF y.rows) y ho (λp hp=>eC.2 ⟨p.2,hp⟩) v r).imm aJQ
theorem View.agg {h:Heap} (e:List OV) (ho:kD h (OV.cA e)):View h (.agg (e.map OV.val)) (.agg (e.map OV.nD)):=λE w v R r =>
 (gG.a35 R (S:=cF (OV.cA e)) e v ho (λp hp=>eC.2 ⟨p.2,hp⟩) r).imm aJQ
theorem View.op {h:Heap} {n sz i off:Nat} (es:List (List OV)) (hn:h n=some (.row sz (OV.cells es))) (hne:es≠[]) (ho:kD h (OV.bV es)):View h (.op n sz i off) (.ip sz (OV.cW es) i off):=by
 intro E w v R r
 cases v <;> try(cases r;done)
 cases r with
 |op _ _ _ _ b o hd hl =>
  obtain⟨b',o',hl',hbS,hs,cs,ct,cv,T,hh,hm',hT,hD,hc,hrr⟩:=aG0 R hn (.inr ⟨_,hl⟩)
  rw[hl]at hl'
  obtain⟨rfl,rfl⟩:=oH (eN hl')
  have hcs:∀ i j y,kS (OV.cW es) i j=some y->∃ c,kS es i j=some c/\y=c.nD/\cs[o+i*sz+j]?=some (cv i j)/\(cv i j).oneCell'=true/\gG E h w c.val (cv i j):=by
   intro i j y hy
   rw[OV.mD,yZ]at hy
   obtain⟨c,hc1,rfl⟩:=zR.1 hy
   have hcell:kS (OV.cells es) i j=some (.v c.val):=by rw[OV.cells,yZ,hc1];rfl
   have h2:=hrr i j _ hcell
   generalize hcv:cv i j=z at h2
   cases h2 with
   |v x c' S' h1 hx=>exact⟨c,hc1,rfl,hcv▸hc i j _ hcell,h1,hx⟩
  refine .ip sz (OV.cW es) i off b o cv (aDW (R.lt n _ b hn trivial hbS)) ?_ ?_ ?_ ?_
  ·intro e he
   rw[OV.mD,yC]at he
   obtain⟨e',he',rfl⟩:=he
   have:=hs (e'.map λc=>Cell.v c.val) (yC.2 ⟨e',he',rfl⟩)
   simpa using this
  ·intro i j y hy
   obtain⟨c,_,_,h1,_,_⟩:=hcs i j y hy
   simp only[World.cell?,hh]
   rw[←h1]
   simp
  ·intro i j y hy;obtain⟨c,_,_,_,h1,_⟩:=hcs i j y hy;exact h1
  ·intro i j y hy
   obtain⟨c,hc1,rfl,_,_,h1⟩:=hcs i j y hy
   obtain⟨e,he,hj⟩:=nX hc1
   exact(aNY R (S:=cF (OV.bV es)) es ho (λp hp=>eC.2 ⟨p.2,hp⟩) e (vJ he) c (vJ hj) _ h1).imm aJQ
theorem dS.a3W {h:Heap}:∀ {xs ys:List aC},dS h xs ys->∀ E w vs,Rel E h w->eW E h w xs vs->eW E (xZ h) w ys vs
 | [],[],_,E,w,[],R,r=>trivial
 |x::xs,y::ys,hv,E,w,v::vs,R,r=>⟨hv.1 E w v R r.1,dS.a3W hv.2 E w vs R r.2⟩
 | [],[],_,E,w,_::_,R,r=>r.elim
 |x::xs,y::ys,hv,E,w,[],R,r=>r.elim
 | [],_::_,h,_,_,_,_,_=>h.elim
 | _::_,[],h,_,_,_,_,_=>h.elim
theorem dS.nil {h:Heap}:dS h [] []:=trivial
theorem dS.cons {h:Heap} {x y:aC} {xs ys:List aC} (a:View h x y) (b:dS h xs ys):dS h (x::xs) (y::ys):=⟨a,b⟩
def aZB (Q:aC->List (Nat×bQ)->Prop):Prop:=∀ r l,Q r l->r.eQ=true/\∀ p∈l,p.2.eQ=true
theorem qK.bN8 {P:Program} {f:FuncId} {args args':List aC} {Q:aC->List (Nat×bQ)->Prop} {h:Heap} (a:qK P f args' Q) (hv:dS h args args') (hQ:aZB Q):gV P f args h λr h'=>∃ l,Q r l/\eO h l h' :=
 gV.bSJ hv.a3W (a (xZ h)) λr h' ⟨l,q,n⟩=>⟨l,q,n,(hQ r l q).1,(hQ r l q).2⟩
theorem fQ.bN8 {P:Program} {f:FuncId} {args args':List aC} {r:aC} {h:Heap} (a:fQ P f args' r) (hv:dS h args args') (hr:r.eQ=true):gV P f args h λr' h'=>r'=r/\h'=h :=
 (gV.bSJ (K':=λr' l=>r'=r/\l=[]) hv.a3W (a (xZ h)) λr' h' ⟨e,e'⟩=>by
  subst e;subst e';exact⟨[],⟨rfl,rfl⟩,.nil _,hr,by simp⟩).mono λr' h' ⟨l,⟨e1,e2⟩,n⟩=>by
  subst e2
  exact⟨e1,funext λm=>n.upto m aSK⟩
section
variable {P:Program} {f:FuncId} {args args':List aC} {Q:aC->List (Nat×bQ)->Prop} {K:aC->Heap->Prop} {t:Tag K} {g:Heap}
theorem aH.aF3 {r:aC} (a:fQ P f args' r) (hv:dS g args args') (hr:r.eQ=true) (k:K r g):aH P f args g K t :=
 aH.jP (a.bN8 hv hr) λr' h' ⟨e,e'⟩=>by subst e;subst e';exact k
end
mutual
def OV.sol:OV->Bool
 | .v x=>x.eQ
 | .nil _=>true
 | .sl _ _ es=>OV.aAN es
def OV.aAN:List (List OV)->Bool
 | []=>true
 |e::es=>OV.l5 e && OV.aAN es
def OV.l5:List OV->Bool
 | []=>true
 |x::e=>x.sol && OV.l5 e
end
theorem OV.aXG:∀ {x:OV},x.sol=true->x.val.eQ=true
 | .v x,h=>by simpa only[OV.sol,OV.val]using h
 | .nil _,_=>by simp[OV.val,aC.eQ]
 | .sl _ _ _,_=>by simp[OV.val,aC.eQ]
theorem OV.aTH:∀ (e:List OV),OV.l5 e=e.all OV.sol
 | []=>rfl
 |x::e=>by rw[OV.l5,OV.aTH e];rfl
theorem OV.aPQ:∀ (es:List (List OV)),OV.aAN es=es.all (λe=>e.all OV.sol)
 | []=>rfl
 |e::es=>by rw[OV.aAN,OV.aPQ es,OV.aTH];rfl
theorem OV.aTI:∀ {e:List OV},OV.l5 e=true->aC.nK (e.map OV.val)=true
 | [],_=>rfl
 |x::e,h=>by
  simp only[OV.l5,pS]at h
  simp only[nE,aC.nK,OV.aXG h.1,OV.aTI h.2,Bool.and_self]
theorem OV.a36 {sz:Nat} {es:List (List OV)} (h:OV.aAN es=true):(bQ.row sz (OV.cells es)).eQ=true:=by
 rw[OV.aPQ]at h
 simp only[bQ.eQ,OV.cells,List.all_map,aB1,Function.comp_apply]at h ⊢
 intro e he c hc
 exact OV.aXG (h e he c hc)
mutual
theorem OV.a7C:∀ {x:OV},x.sol=true->∀ p∈x.rows,p.2.eQ=true
 | .v _,_=>by simp[OV.rows]
 | .nil _,_=>by simp[OV.rows]
 | .sl n sz es,h=>λp hp=>by
  rw[OV.rows]at hp
  rcases s7.1 hp with rfl|hp
  ·exact OV.a36 (by simpa only[OV.sol]using h)
  ·exact OV.aHF (by simpa only[OV.sol]using h) p hp
theorem OV.aHF:∀ {es:List (List OV)},OV.aAN es=true->∀ p∈OV.bV es,p.2.eQ=true
 | [],_=>by simp[OV.bV]
 |e::es,h=>λp hp=>by
  simp only[OV.aAN,pS]at h
  rw[OV.bV]at hp
  rcases rF.1 hp with hp|hp
  ·exact OV.aC6 h.1 p hp
  ·exact OV.aHF h.2 p hp
theorem OV.aC6:∀ {e:List OV},OV.l5 e=true->∀ p∈OV.cA e,p.2.eQ=true
 | [],_=>by simp[OV.cA]
 |x::e,h=>λp hp=>by
  simp only[OV.l5,pS]at h
  rw[OV.cA]at hp
  rcases rF.1 hp with hp|hp
  ·exact OV.a7C h.1 p hp
  ·exact OV.aC6 h.2 p hp
end
theorem aN0 {α:Type} {c:α->aC} (hc:∀ x,(c x).eQ=true) {x:α} {e:List OV} (h:oP c x e):OV.l5 e=true:=by
 unfold oP at h;subst h;simp[OV.l5,OV.sol,hc]
theorem tA {P:Program} {f:FuncId} {fn:Func} {c:Code} (N:Nat) (keep ib:List Nat) (mk:Marks) {args:List aC} {Q:aC->List (Nat×bQ)->Prop} (hf:P.funcs[f]?=some fn) (hw:∀ h,rG P N keep ib mk c (λτ h'=>o9 P fn.results (λr h'=>∃ r1 g l,Shift r h' r1 g/\Q r1 l/\eO h l g) () .normal τ h') (o9 P fn.results (λr h'=>∃ r1 g l,Shift r h' r1 g/\Q r1 l/\eO h l g) ()) (tI 0 args) h ()) (hmix:P.follows .mixedOrders=true:=by exact mix) (hb:fn.body=some c:=by rfl) (hck:(jM P f && decide (fn.ntmps=N) && jA N mk c)=true:=by kernel_rfl) (hl:args.length<=N:=by simp):qK P f args Q :=
 b8Q N keep ib mk hmix hf hb hck hl hw
def QS (R:OV->Prop) (w:aC->aC:=λx=>x):aC->List (Nat×bQ)->Prop:=λr l=>∃ y,R y/\r=w y.val/\l=y.rows
def QA (R:List OV->Prop) (w:aC->aC:=λx=>x):aC->List (Nat×bQ)->Prop:=λr l=>∃ e,R e/\r=w (.agg (e.map OV.val))/\l=OV.cA e
theorem eO.row {h h':Heap} {l:List (Nat×bQ)} (x:eO h l h') {n:Nat} {o:bQ} (hn:h' n=none):eO h ((n,o)::l) (bL h' n o):=(x.toT.row hn).b1S
theorem bFM {l:List aC}:(aC.agg l).eQ=aC.nK l:=by simp only[aC.eQ]
theorem QA.eQ {R:List OV->Prop} {w:aC->aC} (hR:∀ e,R e->OV.l5 e=true) (hw:∀ x:aC,x.eQ=true->(w x).eQ=true):aZB (QA R w):=λr l ⟨y,hy,e1,e2⟩=>by
 subst e1 e2
 exact⟨hw _ (by rw[bFM];exact OV.aTI (hR y hy)),OV.aC6 (hR y hy)⟩
theorem QS.fO {P:Program} {f:FuncId} {args:List aC} {R:OV->Prop} {d:aC} (a:qK P f args (QS R)) (hd:∀ y,R y->y.nD=d):fQ P f args d :=
 a.fO λr' l ⟨y,hy,e1,e2⟩ E w v h' ho R rx=>by
  subst e1 e2
  rw[←hd y hy]
  exact gG.aPP R y ho (λp hp=>eC.2 ⟨p.2,hp⟩) v rx
theorem OS.nil {α:Type} {R:α->List OV->Prop} {sz:Nat}:OS R sz [] (.nil sz):=.inl ⟨rfl,rfl⟩
theorem OS.mk {α:Type} {R:α->List OV->Prop} {sz n:Nat} {l:List α} {es:List (List OV)} (h:OR R l es):OS R sz l (.sl n sz es):=.inr ⟨n,es,rfl,h⟩
theorem OV.kG (sz:Nat):(OV.nil sz).rows=[]:=by rw[OV.rows]
theorem OV.dV (x:aC):(OV.v x).rows=[]:=by rw[OV.rows]
theorem OV.fF (n sz:Nat) (es:List (List OV)):(OV.sl n sz es).rows=(n,.row sz (OV.cells es))::OV.bV es:=by rw[OV.rows]
theorem OV.cV:OV.cA []=[]:=by rw[OV.cA]
theorem OV.b7 (x:OV) (e:List OV):OV.cA (x::e)=x.rows++OV.cA e:=by rw[OV.cA]
theorem OV.nV (sz:Nat):(OV.nil sz).val=.sl sz [] true:=rfl
theorem OV.lC (n sz:Nat) (es:List (List OV)):(OV.sl n sz es).val=.os n sz 0 es.length:=rfl
theorem OV.aD:List.map OV.val []=[]:=rfl
theorem OV.aM (x:OV) (e:List OV):List.map OV.val (x::e)=x.val::e.map OV.val:=rfl
theorem aTJ {es:List (List OV)} (e:List OV) {z:List aC} {k m:Nat} (hk:es.length=k) (hm:0<m) (c:List Cell) (hc:c=e.map λc=>Cell.v c.val) :
  ((OV.cells es++(List.replicate m z).map (List.map Cell.v)).set k c)=OV.cells (es++[e])++(List.replicate (m-1) z).map (List.map Cell.v):=by
 subst hc
 rw[bHL,bHL]
 exact bFL e hk hm
theorem aTK {es:List (List OV)} {z:List aC} {k m:Nat} (hk:es.length=k) (hm:0<m):(OV.cells es++(List.replicate m z).map (List.map Cell.v))[k]?=some (z.map .v):=by
 rw[aGJ (by simp[OV.cells,hk])]
 simp only[OV.cells,lM,hk,aIY,bHL]
 obtain⟨m,rfl⟩:∃ j,m=j+1:=⟨m-1,by omega⟩
 rfl
theorem qC {g h:Heap} {n:Nat} {o:bQ} (hn:g n=none) (hl:g.le h):g.le (bL h n o):=(aW hn).2 hl
def aC7 (n:Nat):List UInt8:=if h:n=0 then[]else aC7 (n / 10)++[UInt8.ofNat (48+n%10)]
termination_by n
decreasing_by omega
theorem aPR:aC7 0=[]:=by rw[aC7];simp
theorem aTL {n:Nat} (h:n≠0):aC7 n=aC7 (n / 10)++[UInt8.ofNat (48+n%10)]:=by rw[aC7];simp[h]
theorem a7D (n:Nat):(aC7 n).length<=n:=by
 induction n using Nat.strongRecOn with
 |ind n ih =>
  by_cases h:n=0
  ·subst h;simp[aPR]
  ·rw[aTL h]
   have:=ih (n / 10) aA
   simp;omega
def aI8 (k:Int):List UInt8:=if k<=0 then[109,48]else 109::aC7 k.toNat
mutual
def OV.ct:OV->Nat
 | .v _=>1
 | .nil _=>0
 | .sl _ _ es=>OV.dM es
def OV.dM:List (List OV)->Nat
 | []=>0
 |e::es=>OV.kN e+OV.dM es
def OV.kN:List OV->Nat
 | []=>0
 |x::e=>x.ct+OV.kN e
end
def aTM (k:Int):aC->aC
 | .int t _=>.int t k
 | .bool _=>.bool (decide (k.tmod 3=0))
 | .str _=>.str (aI8 k)
 |x=>x
mutual
def OV.mk (k:Int):OV->OV
 | .v x=>.v (aTM k x)
 | .nil sz=>.nil sz
 | .sl n sz es=>.sl n sz (OV.cM k es)
def OV.cM (k:Int):List (List OV)->List (List OV)
 | []=>[]
 |e::es=>OV.vB k e::OV.cM (k+OV.kN e) es
def OV.vB (k:Int):List OV->List OV
 | []=>[]
 |x::e=>x.mk k::OV.vB (k+x.ct) e
end
theorem OV.gW:∀ (a b:List (List OV)),OV.dM (a++b)=OV.dM a+OV.dM b
 | [],b=>by simp[OV.dM]
 |x::a,b=>by rw[tE,OV.dM,OV.gW a b,OV.dM];omega
theorem OV.mE:∀ (k:Int) (a b:List (List OV)),OV.cM k (a++b)=OV.cM k a++OV.cM (k+OV.dM a) b
 |k,[],b=>by simp[OV.dM,OV.cM]
 |k,x::a,b=>by
  rw[tE,OV.cM,OV.mE (k+OV.kN x) a b,OV.cM,OV.dM,tE]
  congr 3;omega
theorem OV.gD:∀ (k:Int) (a:List (List OV)),(OV.cM k a).length=a.length
 |k,[]=>rfl
 |k,x::a=>by rw[OV.cM,al6,al6,OV.gD]
theorem OV.vC (k:Int) (a:List (List OV)) (e:List OV):OV.cM k (a++[e])=OV.cM k a++[OV.vB (k+OV.dM a) e]:=by
 rw[OV.mE];simp[OV.cM]
theorem OV.kO (a:List (List OV)) (e:List OV):OV.dM (a++[e])=OV.dM a+OV.kN e:=by
 rw[OV.gW];simp[OV.dM]
theorem OV.aBJ (x:aC):(OV.v x).ct=1:=by rw[OV.ct]
theorem OV.wT (sz:Nat):(OV.nil sz).ct=0:=by rw[OV.ct]
theorem OV.pO (n sz:Nat) (es:List (List OV)):(OV.sl n sz es).ct=OV.dM es:=by rw[OV.ct]
theorem OV.nR:OV.kN []=0:=by rw[OV.kN]
theorem OV.lS (x:OV) (e:List OV):OV.kN (x::e)=x.ct+OV.kN e:=by rw[OV.kN]
theorem OV.aQO (k:Int) (x:aC):(OV.v x).mk k=.v (aTM k x):=by rw[OV.mk]
theorem OV.tB (k:Int) (sz:Nat):(OV.nil sz).mk k=.nil sz:=by rw[OV.mk]
theorem OV.aAJ (k:Int) (n sz:Nat) (es:List (List OV)):(OV.sl n sz es).mk k=.sl n sz (OV.cM k es):=by rw[OV.mk]
theorem OV.nS (k:Int):OV.vB k []=[]:=by rw[OV.vB]
theorem OV.lT (k:Int) (x:OV) (e:List OV):OV.vB k (x::e)=x.mk k::OV.vB (k+x.ct) e:=by rw[OV.vB]
theorem qD (k:Int) (t:IntKind) (n:Int):aTM k (.int t n)=.int t k:=rfl
theorem nT (k:Int) (b:Bool):aTM k (.bool b)=.bool (decide (k.tmod 3=0)):=rfl
theorem qE (k:Int) (s:List UInt8):aTM k (.str s)=.str (aI8 k):=rfl
theorem kX:((1:Nat):Int)=1:=rfl
theorem OS.mk_val {α:Type} {R:α->List OV->Prop} {sz:Nat} {l:List α} {y:OV} (h:OS R sz l y) (k:Int):(y.mk k).val=y.val:=by
 rcases h with⟨rfl,_⟩|⟨n,es,rfl,_⟩
 ·rw[OV.tB]
 ·rw[OV.aAJ,OV.lC,OV.lC,OV.gD]
structure mJ (h h':Heap) (l l':List (Nat×bQ)):Prop where
 names:cF l'=cF l
 gH:kD h' l'
 upto:bVH (cF l) h h'
theorem mJ.refl {h:Heap} {l:List (Nat×bQ)} (o:kD h l):mJ h h l l:=⟨rfl,o,λ_ _=>rfl⟩
theorem mJ.trans {h h1 h2:Heap} {a b c:List (Nat×bQ)} (x:mJ h h1 a b) (y:mJ h1 h2 b c):mJ h h2 a c :=
 ⟨y.names.trans x.names,y.gH,λm hm=>(y.upto m (by rw[x.names];exact hm)).trans (x.upto m hm)⟩
theorem kD.left {h:Heap} {a b:List (Nat×bQ)} (o:kD h (a++b)):kD h a:=λp hp=>o p (aF7 _ hp)
theorem kD.right {h:Heap} {a b:List (Nat×bQ)} (o:kD h (a++b)):kD h b:=λp hp=>o p (aA5 _ hp)
theorem mJ.mid {h h':Heap} {a l l' b:List (Nat×bQ)} (o:kD h (a++(l++b))) (nd:(cF (a++(l++b))).Nodup) (c:mJ h h' l l'):mJ h h' (a++(l++b)) (a++(l'++b)):=by
 have nd':=nd
 rw[eS,eS]at nd'
 obtain⟨_,n2,d1⟩:=aFY.1 nd'
 obtain⟨_,_,d2⟩:=aFY.1 n2
 refine⟨by rw[eS,eS,eS,eS,c.names],λp hp=>?_,λm hm=>c.upto m λq=>hm ?_⟩
 ·rcases rF.1 hp with hp|hp
  ·have hm:p.1∈cF a:=eC.2 ⟨p.2,hp⟩
   rw[c.upto p.1 λq=>d1 _ hm _ (aF7 _ q) rfl]
   exact o p (aF7 _ hp)
  ·rcases rF.1 hp with hp|hp
   ·exact c.gH p hp
   ·have hm:p.1∈cF b:=eC.2 ⟨p.2,hp⟩
    rw[c.upto p.1 λq=>d2 _ q _ hm rfl]
    exact o p (aA5 _ (aA5 _ hp))
 ·rw[eS,eS]
  exact aA5 _ (aF7 _ q)
theorem mJ.set {h:Heap} {n:Nat} {o o':bQ} {l:List (Nat×bQ)} (ow:kD h ((n,o)::l)) (nd:(cF ((n,o)::l)).Nodup):mJ h (bL h n o') ((n,o)::l) ((n,o')::l):=by
 have hn:n∉cF l:=(a2C.1 (show(n::cF l).Nodup from nd)).1
 refine⟨rfl,λp hp=>?_,λm hm=>?_⟩
 ·rcases s7.1 hp with rfl|hp
  ·exact bB _ _ _
  ·have:p.1≠n:=λe=>hn (e▸eC.2 ⟨p.2,hp⟩)
   rw[aE _ _ _ _ this];exact ow p (tF _ hp)
 ·have:m≠n:=λe=>hm (by rw[e];exact p6)
  exact aE _ _ _ _ this
theorem mJ.nodup {h h':Heap} {a b:List (Nat×bQ)} (c:mJ h h' a b) (nd:(cF a).Nodup):(cF b).Nodup:=by rw[c.names];exact nd
theorem eO.chg {h h1 h2:Heap} {l l':List (Nat×bQ)} (x:eO h l h1) (c:mJ h1 h2 l l'):eO h l' h2 :=
 ⟨c.nodup x.nodup,λm hm=>x.fresh m (c.names▸hm),c.gH,λm hm=>(c.upto m (c.names▸hm)).trans (x.upto m (c.names▸hm))⟩
theorem lJ {a l b:List (Nat×bQ)} (nd:(cF (a++(l++b))).Nodup):(cF l).Nodup:=by
 rw[eS,eS]at nd
 exact(aFY.1 (aFY.1 nd).2.1).1
theorem tT {α:Type} {X Y:List α} {c:α} {i:Nat} (h:X.length=i):(X++c::Y)[i]?=some c:=by
 rw[aGJ aA,h,aIY];rfl
theorem aID {α:Type} {X Y:List α} {c c':α} {i:Nat} (h:X.length=i):(X++c::Y).set i c'=X++c'::Y:=by
 rw[bHJ _ _ aA,h,aIY,bHK]
theorem OR.split {α:Type} {R:α->List OV->Prop}:∀ {l:List α} {es:List (List OV)},OR R l es->∀ k (hk:k<l.length),∃ A e B,es=A++e::B/\A.length=k/\R l[k] e
 |x::l,e::es,h,0,_=>⟨[],e,es,rfl,rfl,h.1⟩
 |x::l,e::es,h,k+1,hk=>by
  obtain⟨A,e',B,h1,h2,h3⟩:=OR.split h.2 k aSJ
  exact⟨e::A,e',B,by rw[h1];rfl,by simp[h2],by simpa using h3⟩
 | [],[],_,k,hk=>by simp at hk
 | [],_::_,h,_,_=>h.elim
 | _::_,[],h,_,_=>h.elim
theorem bX (a b:List (List OV)):OV.cells (a++b)=OV.cells a++OV.cells b:=by simp[OV.cells]
theorem cS (e:List OV) (b:List (List OV)):OV.cells (e::b)=(e.map λc=>Cell.v c.val)::OV.cells b:=rfl
theorem pB (a b:List (List OV)):OV.cW (a++b)=OV.cW a++OV.cW b:=by simp[OV.mD]
theorem sH (e:List OV) (b:List (List OV)):OV.cW (e::b)=e.map OV.nD::OV.cW b:=by simp[OV.mD]
theorem kP (a:List (List OV)):(OV.cW a).length=a.length:=by simp[OV.mD]
theorem aHG (x:aC):(OV.v x).nD=x:=by rw[OV.nD]
theorem aCF (sz:Nat):(OV.nil sz).nD=.sl sz [] false:=by rw[OV.nD]
theorem aHH (n sz:Nat) (es:List (List OV)):(OV.sl n sz es).nD=.sl sz (OV.cW es) false:=by rw[OV.nD]
theorem kH (x:OV) (e:List OV):(x::e).map OV.nD=x.nD::e.map OV.nD:=rfl
theorem lH:([]:List OV).map OV.nD=[]:=rfl
theorem aS (x:OV) (e:List OV):((x::e).map λc=>Cell.v c.val)=.v x.val::e.map λc=>Cell.v c.val:=rfl
theorem aY:(([]:List OV).map λc=>Cell.v c.val)=[]:=rfl
theorem bT (a b:List (List OV)):OV.bV (a++b)=OV.bV a++OV.bV b:=OV.aAA a b
theorem bP (e:List OV) (b:List (List OV)):OV.bV (e::b)=OV.cA e++OV.bV b:=by rw[OV.bV]
def OV.vK:OV->Nat
 | .v _=>0
 |x=>x.ct
def OV.xI (k:Int):OV->OV
 | .v x=>.v x
 |x=>x.mk k
def OV.wU:List OV->Nat
 | []=>0
 |x::e=>x.vK+OV.wU e
def OV.aHI (k:Int):List OV->List OV
 | []=>[]
 |x::e=>x.xI k::OV.aHI (k+x.vK) e
theorem OS.dT {α:Type} {R:α->List OV->Prop} {sz:Nat} {l:List α} {y:OV} (h:OS R sz l y) (k:Int):(y.mk k).nD.flat=true:=by
 rcases h with⟨rfl,_⟩|⟨n,es,rfl,_⟩
 ·rw[OV.tB,aCF];rfl
 ·rw[OV.aAJ,aHH];rfl
theorem OS.eT {α:Type} {R:α->List OV->Prop} {sz:Nat} {l:List α} {y:OV} (h:OS R sz l y) (k:Int):(y.mk k).nD.cells=[(y.mk k).nD]:=by
 rcases h with⟨rfl,_⟩|⟨n,es,rfl,_⟩
 ·rw[OV.tB,aCF];rfl
 ·rw[OV.aAJ,aHH];rfl
theorem OV.nP:OV.wU []=0:=rfl
theorem OV.lN (x:OV) (e:List OV):OV.wU (x::e)=x.vK+OV.wU e:=rfl
theorem OV.nQ (k:Int):OV.aHI k []=[]:=rfl
theorem OV.lO (k:Int) (x:OV) (e:List OV):OV.aHI k (x::e)=x.xI k::OV.aHI (k+x.vK) e:=rfl
theorem OV.aFZ (x:aC):(OV.v x).vK=0:=rfl
theorem OV.aF0 (k:Int) (x:aC):(OV.v x).xI k=.v x:=rfl
theorem gF:((0:Nat):Int)=0:=rfl
theorem OS.vK {α:Type} {R:α->List OV->Prop} {sz:Nat} {l:List α} {y:OV} (h:OS R sz l y):y.vK=y.ct:=by
 rcases h with⟨rfl,_⟩|⟨n,es,rfl,_⟩ <;> rfl
theorem OS.xI {α:Type} {R:α->List OV->Prop} {sz:Nat} {l:List α} {y:OV} (h:OS R sz l y) (k:Int):y.xI k=y.mk k:=by
 rcases h with⟨rfl,_⟩|⟨n,es,rfl,_⟩ <;> rfl
def aPS (P:Program) (f:FuncId) (R:OV->Prop):Prop:=∀ (y:OV) (k:Int) (h:Heap),R y->0<=k->k+y.ct<=4611686018427387904->kD h y.rows->(cF y.rows).Nodup ->
 gV P f [y.val,.int .i64 k] h λr h'=>r=.int .i64 (k+y.ct)/\mJ h h' y.rows (y.mk k).rows
def aPT (P:Program) (f:FuncId) (R:OV->Prop):Prop:=∀ (y:OV) (k:Int),R y->0<=k->k+y.ct<=4611686018427387904->fQ P f [(y.mk k).nD,.int .i64 k] (.int .i64 (k+y.ct))
def bI0 (P:Program) (f:FuncId) (R:List OV->Prop):Prop:=∀ (e:List OV) (k:Int) (h:Heap),R e->0<=k->k+OV.wU e<=4611686018427387904->kD h (OV.cA e)->(cF (OV.cA e)).Nodup ->
 gV P f [.agg (e.map OV.val),.int .i64 k] h λr h'=>r=.int .i64 (k+OV.wU e)/\mJ h h' (OV.cA e) (OV.cA (OV.aHI k e))
def bI1 (P:Program) (f:FuncId) (R:List OV->Prop):Prop:=∀ (e:List OV) (k:Int),R e->0<=k->k+OV.wU e<=4611686018427387904->fQ P f [.agg ((OV.aHI k e).map OV.nD),.int .i64 k] (.int .i64 (k+OV.wU e))
theorem kD.up {g:Heap} {l:List (Nat×bQ)} {n:Nat} {o:bQ} (ow:kD g l) (hn:g n=none):kD (bL g n o) l:=λp hp=>by
 have:p.1≠n:=λe=>by have:=ow p hp;rw[e,hn]at this;cases this
 rw[aE _ _ _ _ this];exact ow p hp
theorem mJ.under {g h':Heap} {n:Nat} {o:bQ} {l l':List (Nat×bQ)} (hg:g n=none) (ho:kD g l) (c:mJ (bL g n o) h' l l'):∃ g',h'=bL g' n o/\mJ g g' l l'/\g' n=none:=by
 have hn:n∉cF l:=λq=>by
  obtain⟨x,hx⟩:=eC.1 q
  have:=ho _ hx
  rw[hg]at this;cases this
 have hk:h' n=some o:=by rw[c.upto n hn,bB]
 refine⟨pA h' [n],?_,⟨c.names,λp hp=>?_,λm hm=>?_⟩,by simp[pA]⟩
 ·funext m
  by_cases e:m=n
  ·subst e;rw[bB,hk]
  ·rw[aE _ _ _ _ e];simp[pA,e]
 ·have e:p.1≠n:=λe=>hn (by rw[←c.names];exact e▸eC.2 ⟨p.2,hp⟩)
  have:pA h' [n] p.1=h' p.1:=by simp[pA,e]
  rw[this];exact c.gH p hp
 ·by_cases e:m=n
  ·subst e;rw[hg];simp[pA]
  ·have:pA h' [n] m=h' m:=by simp[pA,e]
   rw[this,c.upto m hm,aE _ _ _ _ e]
theorem eO.un0 {g h':Heap} {l:List (Nat×bQ)}  (x:eO g l h'):∃ g',h'=g'/\eO g l g':=by
 exact⟨h',rfl,x⟩
theorem aH.wn0 {P:Program} {f:FuncId} {args:List aC} {Q:aC->List (Nat×bQ)->Prop} {K:aC->Heap->Prop} {t:Tag K} {g:Heap} (a:qK P f args Q)  (k:∀ r l g',Q r l->eO g l g'->K r g'):aH P f args g K t :=
 aH.jP (a _) λr h' ⟨l,q,hq⟩=>by
  obtain⟨g',e0,q2⟩:=hq.un0;subst e0
  exact k r l _ q q2
theorem aH.wl0 {P:Program} {f:FuncId} {args args':List aC} {Q:aC->List (Nat×bQ)->Prop} {K:aC->Heap->Prop} {t:Tag K} {g:Heap} (a:qK P f args' Q) (hv:dS g args args') (hQ:aZB Q)  (k:∀ r l g',Q r l->eO g l g'->K r g'):aH P f args g K t :=
 aH.jP (a.bN8 hv hQ) λr h' ⟨l,q,hq⟩=>by
  obtain⟨g',e0,q2⟩:=hq.un0;subst e0
  exact k r l _ q q2
theorem eO.un1 {g h':Heap} {n0:Nat} {o0:bQ} {l:List (Nat×bQ)} (h0:g n0=none) (x:eO (bL g n0 o0) l h'):∃ g',h'=(bL g' n0 o0)/\eO g l g'/\g' n0=none:=by
 exact x.under h0
theorem mJ.un1 {g h':Heap} {n0:Nat} {o0:bQ} {l l':List (Nat×bQ)} (h0:g n0=none) (ho:kD g l) (x:mJ (bL g n0 o0) h' l l'):∃ g',h'=(bL g' n0 o0)/\mJ g g' l l'/\g' n0=none:=by
 exact x.under h0 ho
theorem aH.wn1 {P:Program} {f:FuncId} {args:List aC} {Q:aC->List (Nat×bQ)->Prop} {K:aC->Heap->Prop} {t:Tag K} {g:Heap} {n0:Nat} {o0:bQ} (a:qK P f args Q) (h0:g n0=none) (k:∀ r l g',Q r l->eO g l g'->g' n0=none->K r (bL g' n0 o0)):aH P f args (bL g n0 o0) K t :=
 aH.jP (a _) λr h' ⟨l,q,hq⟩=>by
  obtain⟨g',rfl,q2,z0⟩:=hq.un1 h0
  exact k r l _ q q2 z0
theorem eO.un2 {g h':Heap} {n0:Nat} {o0:bQ} {n1:Nat} {o1:bQ} {l:List (Nat×bQ)} (h0:g n0=none) (h1:n1≠n0/\g n1=none) (x:eO (bL (bL g n0 o0) n1 o1) l h'):∃ g',h'=(bL (bL g' n0 o0) n1 o1)/\eO g l g'/\g' n0=none/\g' n1=none:=by
 obtain⟨g1,rfl,x1,q1⟩:=x.under aW3
 obtain⟨g2,rfl,x2,z0⟩:=eO.un1 h0 x1
 refine⟨g2,rfl,x2,z0,?_⟩
 simp only[j4]at q1
 exact q1.2
theorem mJ.un2 {g h':Heap} {n0:Nat} {o0:bQ} {n1:Nat} {o1:bQ} {l l':List (Nat×bQ)} (h0:g n0=none) (h1:n1≠n0/\g n1=none) (ho:kD g l) (x:mJ (bL (bL g n0 o0) n1 o1) h' l l'):∃ g',h'=(bL (bL g' n0 o0) n1 o1)/\mJ g g' l l'/\g' n0=none/\g' n1=none:=by
 obtain⟨g1,rfl,x1,q1⟩:=x.under aW3 (ho.up h0)
 obtain⟨g2,rfl,x2,z0⟩:=mJ.un1 h0 ho x1
 refine⟨g2,rfl,x2,z0,?_⟩
 simp only[j4]at q1
 exact q1.2
theorem kD.up2 {g:Heap} {n0:Nat} {o0:bQ} {n1:Nat} {o1:bQ} {l:List (Nat×bQ)} (h0:g n0=none) (h1:n1≠n0/\g n1=none) (ho:kD g l):kD (bL (bL g n0 o0) n1 o1) l:=((ho.up h0).up aW3)
theorem aH.p5 {P:Program} {f:FuncId} {args:List aC} {Q:aC->List (Nat×bQ)->Prop} {K:aC->Heap->Prop} {t:Tag K} {g:Heap} {n0:Nat} {o0:bQ} {n1:Nat} {o1:bQ} (a:qK P f args Q) (h0:g n0=none) (h1:n1≠n0/\g n1=none) (k:∀ r l g',Q r l->eO g l g'->g' n0=none->g' n1=none->K r (bL (bL g' n0 o0) n1 o1)):aH P f args (bL (bL g n0 o0) n1 o1) K t :=
 aH.jP (a _) λr h' ⟨l,q,hq⟩=>by
  obtain⟨g',rfl,q2,z0,z1⟩:=hq.un2 h0 h1
  exact k r l _ q q2 z0 z1
theorem aH.wl2 {P:Program} {f:FuncId} {args args':List aC} {Q:aC->List (Nat×bQ)->Prop} {K:aC->Heap->Prop} {t:Tag K} {g:Heap} {n0:Nat} {o0:bQ} {n1:Nat} {o1:bQ} (a:qK P f args' Q) (hv:dS (bL (bL g n0 o0) n1 o1) args args') (hQ:aZB Q) (h0:g n0=none) (h1:n1≠n0/\g n1=none) (k:∀ r l g',Q r l->eO g l g'->g' n0=none->g' n1=none->K r (bL (bL g' n0 o0) n1 o1)):aH P f args (bL (bL g n0 o0) n1 o1) K t :=
 aH.jP (a.bN8 hv hQ) λr h' ⟨l,q,hq⟩=>by
  obtain⟨g',rfl,q2,z0,z1⟩:=hq.un2 h0 h1
  exact k r l _ q q2 z0 z1
theorem eO.un3 {g h':Heap} {n0:Nat} {o0:bQ} {n1:Nat} {o1:bQ} {n2:Nat} {o2:bQ} {l:List (Nat×bQ)} (h0:g n0=none) (h1:n1≠n0/\g n1=none) (h2:n2≠n1/\n2≠n0/\g n2=none) (x:eO (bL (bL (bL g n0 o0) n1 o1) n2 o2) l h'):∃ g',h'=(bL (bL (bL g' n0 o0) n1 o1) n2 o2)/\eO g l g'/\g' n0=none/\g' n1=none/\g' n2=none:=by
 obtain⟨g1,rfl,x1,q1⟩:=x.under bBR
 obtain⟨g2,rfl,x2,z0,z1⟩:=eO.un2 h0 h1 x1
 refine⟨g2,rfl,x2,z0,z1,?_⟩
 simp only[j4]at q1
 exact q1.2.2
theorem mJ.un3 {g h':Heap} {n0:Nat} {o0:bQ} {n1:Nat} {o1:bQ} {n2:Nat} {o2:bQ} {l l':List (Nat×bQ)} (h0:g n0=none) (h1:n1≠n0/\g n1=none) (h2:n2≠n1/\n2≠n0/\g n2=none) (ho:kD g l) (x:mJ (bL (bL (bL g n0 o0) n1 o1) n2 o2) h' l l'):∃ g',h'=(bL (bL (bL g' n0 o0) n1 o1) n2 o2)/\mJ g g' l l'/\g' n0=none/\g' n1=none/\g' n2=none:=by
 obtain⟨g1,rfl,x1,q1⟩:=x.under bBR ((ho.up h0).up aW3)
 obtain⟨g2,rfl,x2,z0,z1⟩:=mJ.un2 h0 h1 ho x1
 refine⟨g2,rfl,x2,z0,z1,?_⟩
 simp only[j4]at q1
 exact q1.2.2
theorem kD.up3 {g:Heap} {n0:Nat} {o0:bQ} {n1:Nat} {o1:bQ} {n2:Nat} {o2:bQ} {l:List (Nat×bQ)} (h0:g n0=none) (h1:n1≠n0/\g n1=none) (h2:n2≠n1/\n2≠n0/\g n2=none) (ho:kD g l):kD (bL (bL (bL g n0 o0) n1 o1) n2 o2) l:=(((ho.up h0).up aW3).up bBR)
theorem aH.wn3 {P:Program} {f:FuncId} {args:List aC} {Q:aC->List (Nat×bQ)->Prop} {K:aC->Heap->Prop} {t:Tag K} {g:Heap} {n0:Nat} {o0:bQ} {n1:Nat} {o1:bQ} {n2:Nat} {o2:bQ} (a:qK P f args Q) (h0:g n0=none) (h1:n1≠n0/\g n1=none) (h2:n2≠n1/\n2≠n0/\g n2=none) (k:∀ r l g',Q r l->eO g l g'->g' n0=none->g' n1=none->g' n2=none->K r (bL (bL (bL g' n0 o0) n1 o1) n2 o2)):aH P f args (bL (bL (bL g n0 o0) n1 o1) n2 o2) K t :=
 aH.jP (a _) λr h' ⟨l,q,hq⟩=>by
  obtain⟨g',rfl,q2,z0,z1,z2⟩:=hq.un3 h0 h1 h2
  exact k r l _ q q2 z0 z1 z2
theorem aH.wc3 {P:Program} {f:FuncId} {args:List aC} {K:aC->Heap->Prop} {t:Tag K} {g:Heap} {n0:Nat} {o0:bQ} {n1:Nat} {o1:bQ} {n2:Nat} {o2:bQ} {l l':List (Nat×bQ)} {r0:aC} (a:gV P f args (bL (bL (bL g n0 o0) n1 o1) n2 o2) λr h'=>r=r0/\mJ (bL (bL (bL g n0 o0) n1 o1) n2 o2) h' l l') (ho:kD g l) (h0:g n0=none) (h1:n1≠n0/\g n1=none) (h2:n2≠n1/\n2≠n0/\g n2=none) (k:∀ g',mJ g g' l l'->g' n0=none->g' n1=none->g' n2=none->K r0 (bL (bL (bL g' n0 o0) n1 o1) n2 o2)):aH P f args (bL (bL (bL g n0 o0) n1 o1) n2 o2) K t :=
 aH.jP a λr h' ⟨e,hq⟩=>by
  subst e
  obtain⟨g',e0,q2,z0,z1,z2⟩:=hq.un3 h0 h1 h2 ho
  subst e0
  exact k _ q2 z0 z1 z2
theorem eO.un4 {g h':Heap} {n0:Nat} {o0:bQ} {n1:Nat} {o1:bQ} {n2:Nat} {o2:bQ} {n3:Nat} {o3:bQ} {l:List (Nat×bQ)} (h0:g n0=none) (h1:n1≠n0/\g n1=none) (h2:n2≠n1/\n2≠n0/\g n2=none) (h3:n3≠n2/\n3≠n1/\n3≠n0/\g n3=none) (x:eO (bL (bL (bL (bL g n0 o0) n1 o1) n2 o2) n3 o3) l h'):∃ g',h'=(bL (bL (bL (bL g' n0 o0) n1 o1) n2 o2) n3 o3)/\eO g l g'/\g' n0=none/\g' n1=none/\g' n2=none/\g' n3=none:=by
 obtain⟨g1,rfl,x1,q1⟩:=x.under (by simp only[j4];exact h3)
 obtain⟨g2,rfl,x2,z0,z1,z2⟩:=eO.un3 h0 h1 h2 x1
 refine⟨g2,rfl,x2,z0,z1,z2,?_⟩
 simp only[j4]at q1
 exact q1.2.2.2
theorem kD.up4 {g:Heap} {n0:Nat} {o0:bQ} {n1:Nat} {o1:bQ} {n2:Nat} {o2:bQ} {n3:Nat} {o3:bQ} {l:List (Nat×bQ)} (h0:g n0=none) (h1:n1≠n0/\g n1=none) (h2:n2≠n1/\n2≠n0/\g n2=none) (h3:n3≠n2/\n3≠n1/\n3≠n0/\g n3=none) (ho:kD g l):kD (bL (bL (bL (bL g n0 o0) n1 o1) n2 o2) n3 o3) l:=((((ho.up h0).up aW3).up bBR).up (by simp only[j4];exact h3))
theorem aH.wn4 {P:Program} {f:FuncId} {args:List aC} {Q:aC->List (Nat×bQ)->Prop} {K:aC->Heap->Prop} {t:Tag K} {g:Heap} {n0:Nat} {o0:bQ} {n1:Nat} {o1:bQ} {n2:Nat} {o2:bQ} {n3:Nat} {o3:bQ} (a:qK P f args Q) (h0:g n0=none) (h1:n1≠n0/\g n1=none) (h2:n2≠n1/\n2≠n0/\g n2=none) (h3:n3≠n2/\n3≠n1/\n3≠n0/\g n3=none) (k:∀ r l g',Q r l->eO g l g'->g' n0=none->g' n1=none->g' n2=none->g' n3=none->K r (bL (bL (bL (bL g' n0 o0) n1 o1) n2 o2) n3 o3)):aH P f args (bL (bL (bL (bL g n0 o0) n1 o1) n2 o2) n3 o3) K t :=
 aH.jP (a _) λr h' ⟨l,q,hq⟩=>by
  obtain⟨g',rfl,q2,z0,z1,z2,z3⟩:=hq.un4 h0 h1 h2 h3
  exact k r l _ q q2 z0 z1 z2 z3
theorem eO.un5 {g h':Heap} {n0:Nat} {o0:bQ} {n1:Nat} {o1:bQ} {n2:Nat} {o2:bQ} {n3:Nat} {o3:bQ} {n4:Nat} {o4:bQ} {l:List (Nat×bQ)} (h0:g n0=none) (h1:n1≠n0/\g n1=none) (h2:n2≠n1/\n2≠n0/\g n2=none) (h3:n3≠n2/\n3≠n1/\n3≠n0/\g n3=none) (h4:n4≠n3/\n4≠n2/\n4≠n1/\n4≠n0/\g n4=none) (x:eO (bL (bL (bL (bL (bL g n0 o0) n1 o1) n2 o2) n3 o3) n4 o4) l h'):∃ g',h'=(bL (bL (bL (bL (bL g' n0 o0) n1 o1) n2 o2) n3 o3) n4 o4)/\eO g l g'/\g' n0=none/\g' n1=none/\g' n2=none/\g' n3=none/\g' n4=none:=by
 obtain⟨g1,rfl,x1,q1⟩:=x.under (by simp only[j4];exact h4)
 obtain⟨g2,rfl,x2,z0,z1,z2,z3⟩:=eO.un4 h0 h1 h2 h3 x1
 refine⟨g2,rfl,x2,z0,z1,z2,z3,?_⟩
 simp only[j4]at q1
 exact q1.2.2.2.2
theorem aH.wn5 {P:Program} {f:FuncId} {args:List aC} {Q:aC->List (Nat×bQ)->Prop} {K:aC->Heap->Prop} {t:Tag K} {g:Heap} {n0:Nat} {o0:bQ} {n1:Nat} {o1:bQ} {n2:Nat} {o2:bQ} {n3:Nat} {o3:bQ} {n4:Nat} {o4:bQ} (a:qK P f args Q) (h0:g n0=none) (h1:n1≠n0/\g n1=none) (h2:n2≠n1/\n2≠n0/\g n2=none) (h3:n3≠n2/\n3≠n1/\n3≠n0/\g n3=none) (h4:n4≠n3/\n4≠n2/\n4≠n1/\n4≠n0/\g n4=none) (k:∀ r l g',Q r l->eO g l g'->g' n0=none->g' n1=none->g' n2=none->g' n3=none->g' n4=none->K r (bL (bL (bL (bL (bL g' n0 o0) n1 o1) n2 o2) n3 o3) n4 o4)):aH P f args (bL (bL (bL (bL (bL g n0 o0) n1 o1) n2 o2) n3 o3) n4 o4) K t :=
 aH.jP (a _) λr h' ⟨l,q,hq⟩=>by
  obtain⟨g',rfl,q2,z0,z1,z2,z3,z4⟩:=hq.un5 h0 h1 h2 h3 h4
  exact k r l _ q q2 z0 z1 z2 z3 z4
theorem eO.un6 {g h':Heap} {n0:Nat} {o0:bQ} {n1:Nat} {o1:bQ} {n2:Nat} {o2:bQ} {n3:Nat} {o3:bQ} {n4:Nat} {o4:bQ} {n5:Nat} {o5:bQ} {l:List (Nat×bQ)} (h0:g n0=none) (h1:n1≠n0/\g n1=none) (h2:n2≠n1/\n2≠n0/\g n2=none) (h3:n3≠n2/\n3≠n1/\n3≠n0/\g n3=none) (h4:n4≠n3/\n4≠n2/\n4≠n1/\n4≠n0/\g n4=none) (h5:n5≠n4/\n5≠n3/\n5≠n2/\n5≠n1/\n5≠n0/\g n5=none) (x:eO (bL (bL (bL (bL (bL (bL g n0 o0) n1 o1) n2 o2) n3 o3) n4 o4) n5 o5) l h'):∃ g',h'=(bL (bL (bL (bL (bL (bL g' n0 o0) n1 o1) n2 o2) n3 o3) n4 o4) n5 o5)/\eO g l g'/\g' n0=none/\g' n1=none/\g' n2=none/\g' n3=none/\g' n4=none/\g' n5=none:=by
 obtain⟨g1,rfl,x1,q1⟩:=x.under (by simp only[j4];exact h5)
 obtain⟨g2,rfl,x2,z0,z1,z2,z3,z4⟩:=eO.un5 h0 h1 h2 h3 h4 x1
 refine⟨g2,rfl,x2,z0,z1,z2,z3,z4,?_⟩
 simp only[j4]at q1
 exact q1.2.2.2.2.2
theorem aH.wn6 {P:Program} {f:FuncId} {args:List aC} {Q:aC->List (Nat×bQ)->Prop} {K:aC->Heap->Prop} {t:Tag K} {g:Heap} {n0:Nat} {o0:bQ} {n1:Nat} {o1:bQ} {n2:Nat} {o2:bQ} {n3:Nat} {o3:bQ} {n4:Nat} {o4:bQ} {n5:Nat} {o5:bQ} (a:qK P f args Q) (h0:g n0=none) (h1:n1≠n0/\g n1=none) (h2:n2≠n1/\n2≠n0/\g n2=none) (h3:n3≠n2/\n3≠n1/\n3≠n0/\g n3=none) (h4:n4≠n3/\n4≠n2/\n4≠n1/\n4≠n0/\g n4=none) (h5:n5≠n4/\n5≠n3/\n5≠n2/\n5≠n1/\n5≠n0/\g n5=none) (k:∀ r l g',Q r l->eO g l g'->g' n0=none->g' n1=none->g' n2=none->g' n3=none->g' n4=none->g' n5=none->K r (bL (bL (bL (bL (bL (bL g' n0 o0) n1 o1) n2 o2) n3 o3) n4 o4) n5 o5)):aH P f args (bL (bL (bL (bL (bL (bL g n0 o0) n1 o1) n2 o2) n3 o3) n4 o4) n5 o5) K t :=
 aH.jP (a _) λr h' ⟨l,q,hq⟩=>by
  obtain⟨g',rfl,q2,z0,z1,z2,z3,z4,z5⟩:=hq.un6 h0 h1 h2 h3 h4 h5
  exact k r l _ q q2 z0 z1 z2 z3 z4 z5
theorem eO.un7 {g h':Heap} {n0:Nat} {o0:bQ} {n1:Nat} {o1:bQ} {n2:Nat} {o2:bQ} {n3:Nat} {o3:bQ} {n4:Nat} {o4:bQ} {n5:Nat} {o5:bQ} {n6:Nat} {o6:bQ} {l:List (Nat×bQ)} (h0:g n0=none) (h1:n1≠n0/\g n1=none) (h2:n2≠n1/\n2≠n0/\g n2=none) (h3:n3≠n2/\n3≠n1/\n3≠n0/\g n3=none) (h4:n4≠n3/\n4≠n2/\n4≠n1/\n4≠n0/\g n4=none) (h5:n5≠n4/\n5≠n3/\n5≠n2/\n5≠n1/\n5≠n0/\g n5=none) (h6:n6≠n5/\n6≠n4/\n6≠n3/\n6≠n2/\n6≠n1/\n6≠n0/\g n6=none) (x:eO (bL (bL (bL (bL (bL (bL (bL g n0 o0) n1 o1) n2 o2) n3 o3) n4 o4) n5 o5) n6 o6) l h'):∃ g',h'=(bL (bL (bL (bL (bL (bL (bL g' n0 o0) n1 o1) n2 o2) n3 o3) n4 o4) n5 o5) n6 o6)/\eO g l g'/\g' n0=none/\g' n1=none/\g' n2=none/\g' n3=none/\g' n4=none/\g' n5=none/\g' n6=none:=by
 obtain⟨g1,rfl,x1,q1⟩:=x.under (by simp only[j4];exact h6)
 obtain⟨g2,rfl,x2,z0,z1,z2,z3,z4,z5⟩:=eO.un6 h0 h1 h2 h3 h4 h5 x1
 refine⟨g2,rfl,x2,z0,z1,z2,z3,z4,z5,?_⟩
 simp only[j4]at q1
 exact q1.2.2.2.2.2.2
theorem aH.wn7 {P:Program} {f:FuncId} {args:List aC} {Q:aC->List (Nat×bQ)->Prop} {K:aC->Heap->Prop} {t:Tag K} {g:Heap} {n0:Nat} {o0:bQ} {n1:Nat} {o1:bQ} {n2:Nat} {o2:bQ} {n3:Nat} {o3:bQ} {n4:Nat} {o4:bQ} {n5:Nat} {o5:bQ} {n6:Nat} {o6:bQ} (a:qK P f args Q) (h0:g n0=none) (h1:n1≠n0/\g n1=none) (h2:n2≠n1/\n2≠n0/\g n2=none) (h3:n3≠n2/\n3≠n1/\n3≠n0/\g n3=none) (h4:n4≠n3/\n4≠n2/\n4≠n1/\n4≠n0/\g n4=none) (h5:n5≠n4/\n5≠n3/\n5≠n2/\n5≠n1/\n5≠n0/\g n5=none) (h6:n6≠n5/\n6≠n4/\n6≠n3/\n6≠n2/\n6≠n1/\n6≠n0/\g n6=none) (k:∀ r l g',Q r l->eO g l g'->g' n0=none->g' n1=none->g' n2=none->g' n3=none->g' n4=none->g' n5=none->g' n6=none->K r (bL (bL (bL (bL (bL (bL (bL g' n0 o0) n1 o1) n2 o2) n3 o3) n4 o4) n5 o5) n6 o6)):aH P f args (bL (bL (bL (bL (bL (bL (bL g n0 o0) n1 o1) n2 o2) n3 o3) n4 o4) n5 o5) n6 o6) K t :=
 aH.jP (a _) λr h' ⟨l,q,hq⟩=>by
  obtain⟨g',rfl,q2,z0,z1,z2,z3,z4,z5,z6⟩:=hq.un7 h0 h1 h2 h3 h4 h5 h6
  exact k r l _ q q2 z0 z1 z2 z3 z4 z5 z6
theorem OV.bN9 (k:Int) (x:OV):(x.xI k).val=x.val:=by
 cases x with
 |v x=>rfl
 |nil sz=>show((OV.nil sz).mk k).val=_;rw[OV.tB]
 |sl n sz es=>show((OV.sl n sz es).mk k).val=_;rw[OV.aAJ,OV.lC,OV.lC,OV.gD]
theorem OV.aXI:∀ (k:Int) (e:List OV),(OV.aHI k e).map OV.val=e.map OV.val
 |k,[]=>rfl
 |k,x::e=>by rw[OV.aHI,nE,nE,OV.bN9,OV.aXI]
theorem OR.aL6 {α:Type} {R:α->List OV->Prop}:∀ {l:List α} {es:List (List OV)},(∀ x∈l,∀ e,R x e->OV.l5 e=true)->OR R l es->OV.aAN es=true
 | [],[],_,_=>rfl
 |x::l,e::es,hR,h=>by rw[OV.aAN,hR x p6 e h.1,OR.aL6 (λy hy=>hR y (tF _ hy)) h.2];rfl
 | [],_::_,_,h=>h.elim
 | _::_,[],_,h=>h.elim
theorem OS.aL6 {α:Type} {R:α->List OV->Prop} {sz:Nat} {l:List α} {y:OV} (hR:∀ x∈l,∀ e,R x e->OV.l5 e=true) (h:OS R sz l y):y.sol=true:=by
 rcases h with⟨rfl,_⟩|⟨n,es,rfl,h⟩
 ·rfl
 ·simp only[OV.sol];exact h.aL6 hR
theorem bOA {α:Type} {R:α->List OV->Prop} {sz:Nat} {l:List α} {e:List OV} (hR:∀ x∈l,∀ e,R x e->OV.l5 e=true) (h:oS R sz l e):OV.l5 e=true:=by
 obtain⟨y,rfl,h⟩:=h
 simp[OV.l5,h.aL6 hR]
theorem OR.ct {α:Type} {R:α->List OV->Prop} {s:α->Nat}:∀ {l:List α} {es:List (List OV)},OR R l es->(∀ x∈l,∀ e,R x e->OV.kN e<=16*(1+s x))->OV.dM es<=16*zZ s l
 | [],[],_,_=>by simp[OV.dM]
 |x::l,e::es,h,hc=>by
  have h1:=hc x p6 e h.1
  have h2:=OR.ct (s:=s) h.2 λy hy=>hc y (tF _ hy)
  rw[OV.dM]
  simp only[zZ,al6,nE,aWR]at h2 ⊢
  omega
 | [],_::_,h,_=>h.elim
 | _::_,[],h,_=>h.elim
theorem OR.ct0 {α:Type} {R:α->List OV->Prop}:∀ {l:List α} {es:List (List OV)},OR R l es->(∀ x∈l,∀ e,R x e->OV.kN e<=16)->OV.dM es<=16*l.length
 | [],[],_,_=>by simp[OV.dM]
 |x::l,e::es,h,hc=>by
  have h1:=hc x p6 e h.1
  have h2:=OR.ct0 h.2 λy hy=>hc y (tF _ hy)
  rw[OV.dM]
  simp only[al6]at h2 ⊢
  omega
 | [],_::_,h,_=>h.elim
 | _::_,[],h,_=>h.elim
theorem OS.cts {α:Type} {R:α->List OV->Prop} {s:α->Nat} {sz:Nat} {l:List α} {y:OV} (h:OS R sz l y) (hc:∀ x∈l,∀ e,R x e->OV.kN e<=16*(1+s x)):y.ct<=16*zZ s l:=by
 rcases h with⟨rfl,_⟩|⟨n,es,rfl,h⟩
 ·rw[OV.wT];omega
 ·rw[OV.pO];exact h.ct hc
theorem OS.b1T {α:Type} {R:α->List OV->Prop} {sz:Nat} {l:List α} {y:OV} (h:OS R sz l y) (hc:∀ x∈l,∀ e,R x e->OV.kN e<=16):y.ct<=16*l.length:=by
 rcases h with⟨rfl,_⟩|⟨n,es,rfl,h⟩
 ·rw[OV.wT];omega
 ·rw[OV.pO];exact h.ct0 hc
theorem bSK {α:Type} {c:α->aC} {x:α} {e:List OV} (h:oP c x e):OV.kN e<=16:=by
 unfold oP at h;subst h;simp[OV.kN,OV.ct]
theorem OS.ctP {α:Type} {c:α->aC} {sz:Nat} {l:List α} {y:OV} (h:OS (oP c) sz l y):y.ct<=16*l.length:=h.b1T λ_ _ _ q=>bSK q
theorem bI2 {α:Type} {c:α->aC} {sz:Nat} {l:List α} {e:List OV} (h:oS (oP c) sz l e):OV.kN e<=16*(1+l.length):=by
 obtain⟨y,rfl,h⟩:=h
 have:=h.b1T λ_ _ _ q=>bSK q
 simp only[OV.kN];omega
def a7E (w:aC->aC):Prop:=∀ (E:Env) (h g:Heap) (W:World) (x y:aC) (v:Value),(∀ b,xM E h W b->xM E g W b)->(∀ u,gG E h W x u->gG E g W y u)->gG E h W (w x) v->gG E g W (w y) v
theorem eW.hole {E:Env} {h g:Heap} {W:World} {x y:aC} (hi:∀ b,xM E h W b->xM E g W b) (hr:∀ u,gG E h W x u->gG E g W y u):∀ (a b:List aC) (vs:List Value),eW E h W (a++x::b) vs->eW E g W (a++y::b) vs
 | [],b,v::vs,r=>⟨hr v r.1,eW.imm hi r.2⟩
 |z::a,b,v::vs,r=>⟨r.1.imm hi,eW.hole hi hr a b vs r.2⟩
 | [],b,[],r=>r.elim
 |z::a,b,[],r=>r.elim
theorem aHJ (a b:List aC):a7E λx=>.iJ (a++x::b):=λE h g W x y v hi hr r=>by
 generalize hc:a++x::b=cs at r
 cases r with
 |iJ _ vs hl hrr =>
  subst hc
  have:=eW.hole hi hr a b vs (eW.mk hl hrr)
  exact .iJ _ vs this.length this.get
theorem QS.bFP {P:Program} {f:FuncId} {args:List aC} {R:OV->Prop} {w:aC->aC} {d:aC} (a:qK P f args (QS R w)) (hd:∀ y,R y->y.nD=d) (hw:a7E w):fQ P f args (w d) :=
 a.fO λr' l ⟨y,hy,e1,e2⟩ E W v h' ho R' rx=>by
  subst e1 e2
  rw[←hd y hy]
  exact hw E h' _ W y.val y.nD v (λb=>yI _ b) (λu ru=>gG.aPP R' y ho (λp hp=>eC.2 ⟨p.2,hp⟩) u ru) rx
theorem QA.bFP {P:Program} {f:FuncId} {args:List aC} {R:List OV->Prop} {w:aC->aC} {d:List aC} (a:qK P f args (QA R w)) (hd:∀ e,R e->e.map OV.nD=d) (hw:a7E w):fQ P f args (w (.agg d)) :=
 a.fO λr' l ⟨y,hy,e1,e2⟩ E W v h' ho R' rx=>by
  subst e1 e2
  rw[←hd y hy]
  exact hw E h' _ W (.agg (y.map OV.val)) (.agg (y.map OV.nD)) v (λb=>yI _ b) (λu ru=>gG.a35 R' y u ho (λp hp=>eC.2 ⟨p.2,hp⟩) ru) rx
def nW (sz len:Nat):Option Nat->aC
 |none=>.sl sz [] true
 |some n=>.os n sz 0 len
def dG (h:Heap) (o:bQ):Option Nat->Heap
 |none=>h
 |some n=>bL h n o
theorem dK (sz len:Nat):nW sz len none=.sl sz [] true:=rfl
theorem bU (sz len n:Nat):nW sz len (some n)=.os n sz 0 len:=rfl
theorem aN (h:Heap) (o:bQ):dG h o none=h:=rfl
theorem aK (h:Heap) (o:bQ) (n:Nat):dG h o (some n)=bL h n o:=rfl
theorem pC {h:Heap} {n b:Nat} {o r:bQ} (hn:h n=none):(bL h b r).le (bL (bL (bL h n o) n .gone) b r):=λm=>by
 by_cases e:m=b
 ·subst e;right;simp
 ·rw[aE _ _ _ _ e,aE _ _ _ _ e]
  by_cases e2:m=n
  ·subst e2;exact .inl hn
  ·right;rw[aE _ _ _ _ e2,aE _ _ _ _ e2]
def lK {α:Type} (h:Heap) (l:List α):Option Nat->Prop
 |none=>l=[]
 |some n=>h n=none
theorem cZ {α:Type} (h:Heap) (l:List α):lK h l none=(l=[]):=rfl
theorem bY {α:Type} (h:Heap) (l:List α) (n:Nat):lK h l (some n)=(h n=none):=rfl
theorem grown {α:Type} {c:α->aC} {h:Heap} {sz:Nat} {l:List α} {o:Option Nat} (hs:lK h l o) :
  ∃ y:OV,OS (oP c) sz l y/\y.val=nW sz l.length o/\eO h y.rows (dG h (.row sz ((l.map λx=>[c x]).map (List.map .v))) o):=by
 cases o with
 |none=>exact⟨.nil sz,.inl ⟨rfl,hs⟩,rfl,by rw[OV.kG];exact eO.nil h⟩
 |some n =>
  refine⟨.sl n sz (l.map λx=>[.v (c x)]),OS.mk (uA l),by simp[OV.val,nW],?_⟩
  rw[OV.fF,wS,sG]
  exact eO.one hs
theorem jE {α:Type} (c:α->aC) (l:List α) (x:α):List.take l.length ((l.map λx=>[c x]).map (List.map Cell.v))++[[Cell.v (c x)]]=((l++[x]).map λx=>[c x]).map (List.map .v):=by
 rw[gX bF]
 simp
theorem View.bI3 {h:Heap} {c:List aC} (e:List OV) (hd:e.map OV.nD=c) (ho:kD h (OV.cA e)):View h (.agg (e.map OV.val)) (.agg c):=hd▸View.agg e ho
theorem View.b1U {h:Heap} (k:Int) (e:List OV) (ho:kD h (OV.cA (OV.aHI k e))):View h (.agg (e.map OV.val)) (.agg ((OV.aHI k e).map OV.nD)):=by
 have:=View.agg (OV.aHI k e) ho
 rwa [OV.aXI]at this
theorem View.ovD {h:Heap} {d:aC} (y:OV) (hd:y.nD=d) (ho:kD h y.rows):View h y.val d:=hd▸View.ov y ho
theorem aZC {α:Type} {c:α->aC} {l:List α} {sz:Nat} {h:Heap} (e:(l.map λx=>[c x])=[]):∃ r1 g l1,Shift .aU h r1 g/\QS (OS (oP c) sz l) (λx=>x) r1 l1/\eO h l1 g:=by
 obtain rfl:l=[]:=by simpa using e
 exact⟨_,_,_,Shift.of (Sub.nil sz true) (Heap.le_refl _),⟨.nil sz,OS.nil,rfl,rfl⟩,by rw[OV.kG];exact eO.nil h⟩
theorem aZD {α:Type} {c:α->aC} {l:List α} {sz:Nat} {h:Heap} (e:(l.map λx=>[c x])=[]):∃ r1 g l1,Shift (.sl sz [] true) h r1 g/\QS (OS (oP c) sz l) (λx=>x) r1 l1/\eO h l1 g:=by
 obtain rfl:l=[]:=by simpa using e
 exact⟨_,_,_,cE _ _,⟨.nil sz,OS.nil,rfl,rfl⟩,by rw[OV.kG];exact eO.nil h⟩
theorem aQY {α:Type} {c:α->aC} {l:List α} {sz n:Nat} {h:Heap} (hn:h n=none) :
  ∃ r1 g l1,Shift (.os n sz 0 l.length) (bL h n (.row sz ((l.map λx=>[c x]).map (List.map .v)))) r1 g/\QS (OS (oP c) sz l) (λx=>x) r1 l1/\eO h l1 g:=by
 refine⟨_,_,_,cE _ _,⟨.sl n sz (l.map λx=>[.v (c x)]),OS.mk (uA l),by simp[OV.val],rfl⟩,?_⟩
 rw[OV.fF,wS,sG]
 exact eO.one hn
def j3 (sz len:Nat):Option Nat->aC
 |none=>.aU
 |some n=>.os n sz 0 len
theorem bI (sz len:Nat):j3 sz len none=.aU:=rfl
theorem aZ (sz len n:Nat):j3 sz len (some n)=.os n sz 0 len:=rfl
def zE (g:Heap) (es:List (List OV)):Option Nat->Prop
 |none=>es=[]
 |some n=>g n=none
theorem jX (g:Heap) (es:List (List OV)):zE g es none=(es=[]):=rfl
theorem k6 (g:Heap) (es:List (List OV)) (n:Nat):zE g es (some n)=(g n=none):=rfl
def gov (sz:Nat) (es:List (List OV)):Option Nat->OV
 |none=>.nil sz
 |some n=>.sl n sz es
theorem bI4 (sz:Nat) (es:List (List OV)):gov sz es none=.nil sz:=rfl
theorem bI5 (sz:Nat) (es:List (List OV)) (n:Nat):gov sz es (some n)=.sl n sz es:=rfl
theorem yK {α:Type} {R:α->List OV->Prop} {sz:Nat} {l:List α} {es:List (List OV)} {g:Heap} {o:Option Nat} (h:OR R l es) (hs:zE g es o):OS R sz l (gov sz es o):=by
 cases o with
 |none=>rw[jX]at hs;subst hs;exact .inl ⟨rfl,by have:=h.length;simpa using this⟩
 |some n=>exact OS.mk h
theorem yX {sz:Nat} {es:List (List OV)} {o:Option Nat}:Sub (j3 sz es.length o) (gov sz es o).val:=by
 cases o with
 |none=>exact Sub.nil _ _
 |some n=>exact Sub.refl _
theorem sI {sz:Nat} {es:List (List OV)} {h g:Heap} {o:Option Nat} (x:eO h (OV.bV es) g) (hs:zE g es o):eO h (gov sz es o).rows (dG g (.row sz (OV.cells es)) o):=by
 cases o with
 |none=>rw[jX]at hs;subst hs;rw[bI4,OV.kG,aN];simpa[OV.bV]using x
 |some n=>rw[bI5,OV.fF,aK];exact x.row hs
theorem aSD (es:List (List OV)):List.take es.length (OV.cells es)=OV.cells es:=gX (by simp[OV.cells])
theorem aJH (es:List (List OV)) (e:List OV):OV.cells (es++[e])=OV.cells es++[e.map λc=>Cell.v c.val]:=by rw[bX];rfl
theorem aWW (e:List OV):OV.cells [e]=[e.map λc=>Cell.v c.val]:=rfl
theorem fY (sz len:Nat) (o:Option Nat):(j3 sz len o).flat=true:=by cases o <;> rfl
theorem iT (sz len:Nat) (o:Option Nat):(j3 sz len o).cells=[j3 sz len o]:=by cases o <;> rfl
theorem aWY (es:List (List OV)):(OV.cells es).length=es.length:=by simp[OV.cells]
theorem OR.snoc {α:Type} {R:α->List OV->Prop} {l:List α} {es:List (List OV)} {e:List OV} {k:Nat} (h:OR R (l.take k) es) (hk:k<l.length) (he:R l[k] e):OR R (l.take (k+1)) (es++[e]):=by
 rw[kF hk]
 exact OR.append h ⟨he,trivial⟩
theorem eO.snoc {h g g1:Heap} {es:List (List OV)} {e:List OV} (x:eO h (OV.bV es) g) (y:eO g (OV.cA e) g1):eO h (OV.bV (es++[e])) g1:=by
 rw[y9];exact x.append y
theorem e8 {g:Heap} {R:bQ} {o:Option Nat} {m:Nat} (hg:g m=none) (hon:∀ n,o=some n->¬n=m):dG g R o m=none:=by
 cases o with
 |none=>exact hg
 |some n =>
  have:=hon n rfl
  rw[aK,aE _ _ _ _ λe=>this e.symm];exact hg
theorem aWX:OV.cells []=[]:=rfl
theorem nZ {n m:Nat} {g:Heap} {x y:bQ} (h:¬n=m):bL (bL g n x) m y=bL (bL g m y) n x:=by
 funext q;simp only[fU];split <;> split <;> simp_all
theorem aQZ {α:Type} (c:α->aC) {l:List α} {sz m:Nat} {g:Heap} (hm:g m=none) :
  ∃ (y:OV) (g1:Heap),OS (oP c) sz l y/\y.val=.os m sz 0 l.length/\eO g y.rows g1/\g1=bL g m (.row sz ((l.map λx=>[c x]).map (List.map .v))) :=
 ⟨.sl m sz (l.map λx=>[.v (c x)]),_,OS.mk (uA l),by simp[OV.val],by rw[OV.fF,wS,sG];exact eO.one hm,rfl⟩
theorem aN1 {α:Type} (a b c:List α):(a++b++c).Perm (a++c++b):=by
 rw[oW,oW];exact List.Perm.append_left a List.perm_append_comm
def Heap.wk (g h:Heap):Prop:=∀ E w,Rel E h w->Rel E g w/\∀ b,xM E h w b->xM E g w b
theorem Heap.iU {g h:Heap} (hl:g.le h):g.wk h:=λE w R=>⟨R.forget hl,λb i=>xM.le hl i⟩
theorem Heap.wk.trans {a b c:Heap} (x:a.wk b) (y:b.wk c):a.wk c:=λE w R =>
 ⟨(x E w (y E w R).1).1,λd i=>(x E w (y E w R).1).2 d ((y E w R).2 d i)⟩
theorem Heap.wk.ev {g h:Heap} (x:g.wk h) {E:Env} {w:World} (R:Rel E h w):Ev E h w E g w :=
 ⟨eV _,λb hb=>⟨rfl,(x E w R).2 b hb⟩,λ_ _=>rfl,λ_ hn=>⟨rfl,hn⟩,rfl,rfl⟩
theorem u7.wk {P:Program} {N:Nat} {c:Code} {Q:Exit->cH->Heap->Prop} {τ:cH} {h g:Heap} (hl:g.wk h) (x:u7 P N c Q τ g):u7 P N c Q τ h :=
 λds E w a R r=>Code.wp_mono (λe a' w' y=>zU.trans (hl.ev R) y) (x ds E w a (hl E w R).1 (r.ev (hl.ev R)))
theorem u7.bI6 {P:Program} {N:Nat} {c:Code} {Q:Exit->cH->Heap->Prop} {τ:cH} {h:Heap} {α:Type} (S:α->cH) (H:α->Heap) (side:α->Prop) (μ:α->Nat) (x₀:α)
  (h₀:eE (S x₀) τ/\(H x₀).wk h/\side x₀)
  (round:∀ x,side x->u7 P N c (aDS (λτ' h'=>∃ x',eE (S x') τ'/\(H x').wk h'/\side x'/\μ x'<μ x) Q) (S x) (H x)):u7 P N (.loop c) Q τ h :=
 u7.loop (λx τ h=>eE (S x) τ/\(H x).wk h/\side x) μ x₀ h₀ λx τ h ⟨h1,h2,h3⟩ =>
  u7.wk h2 (u7.weaken h1 (Heap.le_refl _) ((round x h3).mono λe τ h q=>by
   cases e <;> simp only[aDS]at q ⊢ <;> first|exact q|(obtain⟨x',a,b,c,d⟩:=q;exact⟨x',⟨a,b,c⟩,d⟩)))
theorem bI6 {P:Program} {N:Nat} {keep ib:List Nat} {mk:Marks} {c:Code} {Q:Exit->cH->Heap->Prop} {τ:cH} {h:Heap} {t:Tag (Code.loop c,Q)} {α:Type} (hmix:P.follows .mixedOrders=true) (hc:jA N mk c=true) (S:α->cH) (H:α->Heap) (side:α->Prop) (μ:α->Nat) (x₀:α)
  (h₀:eE (S x₀) τ/\(H x₀).wk h/\side x₀)
  (round:∀ x,side x->rG P N keep ib mk c (λτ' h'=>∃ x',eE (S x') τ'/\(H x').wk h'/\side x'/\μ x'<μ x) Q (S x) (H x) ()):aNW P N (.loop c) Q τ h t :=
 u7.bI6 S H side μ x₀ h₀ λx hx=>aTB hmix c _ _ _ _ hc (round x hx)
theorem a7F {P:Program} {N:Nat} (keep ib:List Nat) (mk:Marks) {c:Code} {Q:Exit->cH->Heap->Prop} {τ:cH} {h:Heap} {t:Tag (Code.loop c,Q)} {α:Type} (S:α->cH) (H:α->Heap) (side:α->Prop) (μ:α->Nat) (x₀:α)
  (h₀:eE (S x₀) τ/\(H x₀).wk h/\side x₀)
  (round:∀ x,side x->rG P N keep ib mk c (λτ' h'=>∃ x',eE (S x') τ'/\(H x').wk h'/\side x'/\μ x'<μ x) Q (S x) (H x) ()) (hmix:P.follows .mixedOrders=true:=by exact mix) (hc:jA N mk c=true:=by kernel_rfl):aNW P N (.loop c) Q τ h t :=
 bI6 (keep:=keep) (ib:=ib) (mk:=mk) hmix hc S H side μ x₀ h₀ round
def aHK (x y:Cell):Prop:=∀ E h w c S,aC2 E h w x c S->aC2 E h w y c S
theorem aHK.refl (x:Cell):aHK x x:=λ_ _ _ _ _ r=>r
theorem aHK.v {x y:aC} (s:Sub x y):aHK (.v x) (.v y):=λE h w c S r=>by
 cases r with
 |v _ _ _ h1 hx=>exact .v _ _ _ h1 (s _ _ _ _ hx)
def iS:List (List Cell)->List (List Cell)->Prop
 | [],[]=>True
 |a::l,b::m=>(a.length=b.length/\∀ (j:Nat) (x:Cell),b[j]?=some x->∃ y,a[j]?=some y/\aHK y x)/\iS l m
 | _,_=>False
theorem iS.refl:∀ l,iS l l
 | []=>trivial
 |a::l=>⟨⟨rfl,λj x h=>⟨x,h,.refl x⟩⟩,iS.refl l⟩
theorem iS.last {a b:List Cell} (hl:a.length=b.length) (hc:∀ (j:Nat) (x:Cell),b[j]?=some x->∃ y,a[j]?=some y/\aHK y x):∀ l,iS (l++[a]) (l++[b])
 | []=>⟨⟨hl,hc⟩,trivial⟩
 |c::l=>⟨⟨rfl,λj x h=>⟨x,h,.refl x⟩⟩,iS.last hl hc l⟩
theorem iS.length:∀ {l m},iS l m->l.length=m.length
 | [],[],_=>rfl
 |a::l,b::m,h=>by rw[al6,al6,iS.length h.2]
 | [],_::_,h=>h.elim
 | _::_,[],h=>h.elim
theorem iS.size {sz:Nat}:∀ {l m},iS l m->(∀ e∈l,e.length=sz)->∀ e∈m,e.length=sz
 | [],[],_,_=>by simp
 |a::l,b::m,h,hs=>λe he=>by
  rcases s7.1 he with rfl|he
  ·rw[←h.1.1];exact hs a p6
  ·exact iS.size h.2 (λe he=>hs e (tF _ he)) e he
 | [],_::_,h,_=>h.elim
 | _::_,[],h,_=>h.elim
theorem iS.kS:∀ {l m} (i j:Nat) (x:Cell),iS l m->Hl.kS m i j=some x->∃ y,Hl.kS l i j=some y/\aHK y x
 | [],[],i,j,x,_,h=>by simp[Hl.kS]at h
 |a::l,b::m,0,j,x,w,h=>by simp only[Hl.kS,a6N,a6O]at h ⊢;exact w.1.2 j x h
 |a::l,b::m,i+1,j,x,w,h=>by simp only[Hl.kS,bA1]at h ⊢;exact iS.kS i j x w.2 h
 | [],_::_,_,_,_,w,_=>w.elim
 | _::_,[],_,_,_,w,_=>w.elim
theorem Heap.aJR {g h:Heap} {m sz:Nat} {es es':List (List Cell)} (hg:∀ q,q≠m->g q=h q) (hm:h m=some (.row sz es)) (gm:g m=some (.row sz es')) (hw:iS es es'):g.wk h:=λE w R=>by
 have live:∀ q o,g q=some o->∃ o',h q=some o'/\(o.live->o'.live):=λq o ho=>by
  by_cases e:q=m
  ·subst e;exact⟨_,hm,λ_=>trivial⟩
  ·rw[hg q e]at ho;exact⟨o,ho,id⟩
 have live':∀ q o,h q=some o->∃ o',g q=some o'/\(o.live->o'.live):=λq o ho=>by
  by_cases e:q=m
  ·subst e;exact⟨_,gm,λ_=>trivial⟩
  ·rw[←hg q e]at ho;exact⟨o,ho,id⟩
 have imm:∀ b,xM E h w b->xM E g w b:=λb i=>⟨i.1,λq o ho hl=>by
  obtain⟨o',h1,h2⟩:=live q o ho;exact i.2 q o' h1 (h2 hl)⟩
 refine⟨⟨R.fin,λn hn=>R.dom n λe=>?_,λn o b hn hl=>?_,λn o n' o' b hn hl hn' hl'=>?_,λn o hn=>?_,R.laid.imm imm⟩,imm⟩
 ·by_cases e2:n=m
  ·subst e2;rw[hm]at e;cases e
  ·rw[hg n e2]at hn;exact hn e
 ·obtain⟨o2,h1,h2⟩:=live n o hn
  exact R.lt n o2 b h1 (h2 hl)
 ·obtain⟨o2,h1,h2⟩:=live n o hn
  obtain⟨o3,h3,h4⟩:=live n' o' hn'
  exact R.apart n o2 n' o3 b h1 (h2 hl) h3 (h4 hl')
 ·by_cases e:n=m
  ·subst e
   rw[gm]at hn
   obtain rfl:=eN hn
   rcases R.obj n _ hm with⟨b,o2,hl,ra⟩|⟨he,hl⟩
   ·refine .inl ⟨b,o2,hl,ra.hb,hw.size ra.size,?_⟩
    obtain⟨cs,t,cv,T,h1,h2,h3,h4,h5,h6⟩:=ra.mem
    refine⟨cs,t,cv,T,h1,by rw[←hw.length];exact h2,h3,h4,λi j x hx=>?_,λi j x hx=>?_⟩
    ·obtain⟨y,hy,_⟩:=hw.kS i j x hx;exact h5 i j y hy
    ·obtain⟨y,hy,hyx⟩:=hw.kS i j x hx;exact(hyx _ _ _ _ _ (h6 i j y hy)).imm imm
   ·subst he
    have:es'=[]:=by have:=hw.length;simp at this;exact a2A.1 this.symm
    exact .inr ⟨this,hl⟩
  ·rw[hg n e]at hn
   exact(R.obj n o hn).imm imm
theorem iS.sub {xs ys:List aC} (s:b8 xs ys) (A:List (List Cell)):iS (A++[xs.map .v]) (A++[ys.map .v]):=by
 refine iS.last (by simpa using s.1) (λj x hx=>?_) A
 rw[s6,zR]at hx
 obtain⟨y,hy,rfl⟩:=hx
 have hlt:j<ys.length:=(oG.1 hy).1
 have hxl:j<xs.length:=by rw[s.1];exact hlt
 have hx2:xs[j]?=some xs[j]:=cJ hxl
 exact⟨.v xs[j],by rw[s6,hx2];rfl,aHK.v (s.2 j _ _ hx2 hy)⟩
theorem Shift.wk {r' r:aC} {h' h:Heap} (s:Sub r' r) (hl:h.wk h'):Shift r' h' r h:=λE w v R q =>
 ⟨E,hl.ev R,(hl E w R).1,gG.imm (hl E w R).2 (s _ _ _ _ q)⟩
theorem eO.field {h g g':Heap} {A l l' B:List (Nat×bQ)} (x:eO h (A++(l++B)) g) (c:mJ g g' l l'):eO h (A++(l'++B)) g':=x.chg (mJ.mid x.gH x.nodup c)
abbrev Q4:=Option (Nat×Nat×Nat×Nat)
def q1:Q4->Option Nat|none=>none|some x=>some x.1
def q2:Q4->Option Nat|none=>none|some x=>some x.2.1
def q3:Q4->Option Nat|none=>none|some x=>some x.2.2.1
def q4:Q4->Option Nat|none=>none|some x=>some x.2.2.2
theorem jQ:q1 none=none:=rfl
theorem jR:q2 none=none:=rfl
theorem jS:q3 none=none:=rfl
theorem jT:q4 none=none:=rfl
theorem iN (a b c d:Nat):q1 (some (a,b,c,d))=some a:=rfl
theorem iO (a b c d:Nat):q2 (some (a,b,c,d))=some b:=rfl
theorem iP (a b c d:Nat):q3 (some (a,b,c,d))=some c:=rfl
theorem iQ (a b c d:Nat):q4 (some (a,b,c,d))=some d:=rfl
def bCJ (g:Heap) (n m k:Nat):Q4->Prop
 |none=>k=0
 |some (a,b,c,d)=>(g a=none/\g b=none/\g c=none/\g d=none)/\(a≠b/\a≠c/\a≠d/\b≠c/\b≠d/\c≠d)/\(a≠n/\b≠n/\c≠n/\d≠n)/\(a≠m/\b≠m/\c≠m/\d≠m)
theorem aFC (g:Heap) (n m k:Nat):bCJ g n m k none=(k=0):=rfl
theorem rM (g:Heap) (n m k a b c d:Nat):bCJ g n m k (some (a,b,c,d))=((g a=none/\g b=none/\g c=none/\g d=none)/\(a≠b/\a≠c/\a≠d/\b≠c/\b≠d/\c≠d)/\(a≠n/\b≠n/\c≠n/\d≠n)/\(a≠m/\b≠m/\c≠m/\d≠m)):=rfl
def lI (k:Nat) (e:List Cell):List (List Cell):=List.replicate k e
theorem aIE (k:Nat) (e:List Cell):List.take k (lI k e)++[e]=lI (k+1) e:=by
 rw[lI,lI,gX bF,List.replicate_succ']
theorem a2V (k:Nat) (e:List Cell):(lI k e).length=k:=aRY
theorem OR.lI {α:Type} {R:α->List OV->Prop} {x:α} {e:List OV} (h:R x e):∀ k,OR R (List.replicate k x) (List.replicate k e)
 |0=>trivial
 |k+1=>⟨h,OR.lI h k⟩
theorem aFD (e:List OV) (k:Nat):OV.cells (List.replicate k e)=Hl.lI k (e.map λc=>Cell.v c.val):=by simp[OV.cells,Hl.lI]
theorem iD {e:List OV} (h:OV.cA e=[]):∀ k,OV.bV (List.replicate k e)=[]
 |0=>rfl
 |k+1=>by rw[bHC,OV.bV,h,iD h k];rfl
theorem iS.lI {a b:List aC} (s:b8 a b):∀ k,iS (Hl.lI k (a.map .v)) (Hl.lI k (b.map .v))
 |0=>trivial
 |k+1=>by
  have h:=iS.sub s []
  exact⟨h.1,iS.lI s k⟩
theorem aL7 (e:List Cell):lI 1 e=[e]:=rfl
theorem eO.four {h g:Heap} {L:List (Nat×bQ)} (w:eO h L g) {a b c d:Nat} {ra rb rc rd:bQ} (ha:g a=none) (hb:g b=none) (hc:g c=none) (hd:g d=none)
  (ab:a≠b) (ac:a≠c) (ad:a≠d) (bc:b≠c) (bd:b≠d) (cd:c≠d):eO h (L++[(a,ra),(b,rb),(c,rc),(d,rd)]) (bL (bL (bL (bL g a ra) b rb) c rc) d rd):=by
 have h1:=w.row (o:=ra) ha
 have h2:=h1.row (n:=b) (o:=rb) (by rw[aE _ _ _ _ ab.symm];exact hb)
 have h3:=h2.row (n:=c) (o:=rc) (by rw[aE _ _ _ _ bc.symm,aE _ _ _ _ ac.symm];exact hc)
 have h4:=h3.row (n:=d) (o:=rd) (by rw[aE _ _ _ _ cd.symm,aE _ _ _ _ bd.symm,aE _ _ _ _ ad.symm];exact hd)
 refine h4.perm ?_
 exact(List.Perm.append_right L (List.reverse_perm [(a,ra),(b,rb),(c,rc),(d,rd)])).trans List.perm_append_comm
def bSL (R:List OV->Prop) (z:List aC):Prop:=∃ e,R e/\OV.cA e=[]/\Sub (.agg z) (.agg (e.map OV.val))
def bVM (w:aC->aC):Prop:=∀ x y,Sub x y->Sub (w x) (w y)
theorem b8.mid {x y:aC} (s:Sub x y) (b:List aC):∀ a:List aC,b8 (a++x::b) (a++y::b)
 | []=>.cons s (.refl b)
 |z::a=>.cons (.refl z) (b8.mid s b a)
theorem jF (a b:List aC):bVM λx=>.iJ (a++x::b):=λ_ _ s=>Sub.iJ (b8.mid s b a)
theorem n9 {R:List OV->Prop} {w:aC->aC} {z:List aC} {h h':Heap} (hz:bSL R z) (hw:bVM w) (hl:h.le h'):∃ r1 g l,Shift (w (.agg z)) h' r1 g/\QA R w r1 l/\eO h l g:=by
 obtain⟨e,h1,h2,h3⟩:=hz
 exact⟨_,h,_,Shift.of (hw _ _ h3) hl,⟨e,h1,rfl,h2.symm⟩,eO.nil h⟩
theorem aQ0 {R:List OV->Prop} {w:aC->aC} {e:List OV} {h h' g:Heap} (hR:R e) (hn:eO h (OV.cA e) g) (hl:g.le h'):∃ r1 g l,Shift (w (.agg (e.map OV.val))) h' r1 g/\QA R w r1 l/\eO h l g :=
 ⟨_,g,_,Shift.of (Sub.refl _) hl,⟨e,hR,rfl,rfl⟩,hn⟩
theorem aBK {α:Type} (c:α->aC) (l:List α) (k:Nat) (x:α):((l.map λx=>[c x]).map (List.map Cell.v)).set k [Cell.v (c x)]=((l.set k x).map λx=>[c x]).map (List.map Cell.v):=by
 rw[List.map_map,List.map_map,a2D];rfl
theorem OR.aC8 {α:Type} {c:α->aC}:∀ {l:List α} {es:List (List OV)},OR (oP c) l es->es=l.map λx=>[.v (c x)]
 | [],[],_=>rfl
 |x::l,e::es,h=>by rw[nE,←OR.aC8 h.2,show e=[.v (c x)]from h.1]
 | [],_::_,h=>h.elim
 | _::_,[],h=>h.elim
theorem OS.aC8 {α:Type} {c:α->aC} {sz:Nat} {l:List α} {y:OV} (h:OS (oP c) sz l y):(y=.nil sz/\l=[])∨∃ n,y=.sl n sz (l.map λx=>[.v (c x)]):=by
 rcases h with h|⟨n,es,rfl,h⟩
 ·exact .inl h
 ·exact .inr ⟨n,by rw[h.aC8]⟩
theorem OV.kY {α:Type} (c:α->aC) (n sz:Nat) (l:List α):(OV.sl n sz (l.map λx=>[.v (c x)])).val=.os n sz 0 l.length:=by rw[OV.lC,lM]
theorem eO.aPV {h g:Heap} (e1:List OV) {e2:List OV} {n sz:Nat} {es:List (List OV)} (x:eO h (OV.cA (e1++OV.sl n sz es::e2)) g):g n=some (.row sz (OV.cells es)) :=
 x.gH (n,_) (by rw[OV.lG,OV.b7,OV.fF];simp)
theorem eO.aL8 {α:Type} {c:α->aC} {h g:Heap} (e1:List OV) {e2:List OV} {n sz:Nat} {l:List α} (x:eO h (OV.cA (e1++OV.sl n sz (l.map λx=>[.v (c x)])::e2)) g):g n=some (.row sz ((l.map λx=>[c x]).map (List.map .v))):=by
 rw[x.aPV e1,sG]
theorem eO.b1V {h g:Heap} (e1:List OV) {e2:List OV} {n sz:Nat} {es es':List (List OV)} (x:eO h (OV.cA (e1++OV.sl n sz es::e2)) g) (h0:OV.bV es'=OV.bV es) :
  eO h (OV.cA (e1++OV.sl n sz es'::e2)) (bL g n (.row sz (OV.cells es'))):=by
 rw[OV.lG,OV.b7,OV.fF]at x ⊢
 rw[h0]
 have o1:=x.gH.right.left
 have nd:=lJ x.nodup
 exact x.field (mJ.set o1 nd)
theorem eO.aWF {α:Type} {c:α->aC} {h g:Heap} (e1:List OV) {e2:List OV} {n sz:Nat} {l l':List α} (x:eO h (OV.cA (e1++OV.sl n sz (l.map λx=>[.v (c x)])::e2)) g) :
  eO h (OV.cA (e1++OV.sl n sz (l'.map λx=>[.v (c x)])::e2)) (bL g n (.row sz ((l'.map λx=>[c x]).map (List.map .v)))):=by
 rw[←sG];exact x.b1V e1 (by rw[wS,wS])
theorem eO.qX {h g:Heap} (e1:List OV) {e2:List OV} {n sz:Nat} {es:List (List OV)} {m sz':Nat} {es':List (List OV)} (x:eO h (OV.cA (e1++OV.sl n sz es::e2)) g) (hm:OV.sl m sz' es'∈e2):n≠m:=by
 have nd:=x.nodup
 rw[OV.lG,OV.b7,OV.fF,eS]at nd
 have n2:=(aFY.1 nd).2.1
 rw[tE]at n2
 simp only[cF,nE,xX,a2C,rF,not_or]at n2
 intro e
 refine n2.1.2 ?_
 subst e
 exact yC.2 ⟨(n,.row sz' (OV.cells es')),OV.aL5 hm (by rw[OV.fF];exact p6),rfl⟩
theorem fE {g:Heap} {n m:Nat} {o:bQ} (hn:g n=some o) (hm:g m=none):n≠m:=λe=>by rw[e,hm]at hn;cases hn
theorem bI7 {P:Program} {N:Nat} {keep ib:List Nat} {mk:Marks} {c:Code} {Q:Exit->cH->Heap->Prop} {τ:cH} {h:Heap} {t:Tag (Code.loop c,Q)} {α:Type} (hmix:P.follows .mixedOrders=true) (hc:jA N mk c=true) (S:α->cH) (side:α->Prop) (μ:α->Nat) (x₀:α)
  (h₀:eE (S x₀) τ/\side x₀)
  (round:∀ x,side x->rG P N keep ib mk c (λτ' h'=>∃ x',eE (S x') τ'/\h.le h'/\side x'/\μ x'<μ x) Q (S x) h ()):aNW P N (.loop c) Q τ h t :=
 a3V hmix hc S (λ_=>h) side μ x₀ ⟨h₀.1,Heap.le_refl _,h₀.2⟩ round
theorem aHL {h:Heap} {n:Nat} {o:bQ} (hn:h n=some o):bL h n o=h:=by
 funext q;simp only[fU];split
 ·subst_vars;exact hn.symm
 ·rfl
theorem bOB {P:Program} {N:Nat} {keep ib:List Nat} {mk:Marks} {c:Code} {Q:Exit->cH->Heap->Prop} {τ:cH} {h:Heap} {t:Tag (Code.loop c,Q)} {α:Type} (hmix:P.follows .mixedOrders=true) (hc:jA N mk c=true) (S:α->cH) (n:Nat) (R:α->bQ) (side:α->Prop) (μ:α->Nat) (x₀:α)
  (h₀:eE (S x₀) τ/\h n=some (R x₀)/\side x₀)
  (round:∀ x,side x->rG P N keep ib mk c (λτ' h'=>∃ x',eE (S x') τ'/\(bL h n (R x')).le h'/\side x'/\μ x'<μ x) Q (S x) (bL h n (R x)) ()):aNW P N (.loop c) Q τ h t :=
 a3V hmix hc S (λx=>bL h n (R x)) side μ x₀ ⟨h₀.1,by simp only[aHL h₀.2.1];exact Heap.le_refl _,h₀.2.2⟩ round
theorem Heap.b5 {g h:Heap} {n:Nat} {o:bQ} (hl:g.le h):(bL g n o).le (bL h n o):=λq=>by
 simp only[fU];split
 ·exact .inr rfl
 ·exact hl q
def aN2 (h0:Heap) (nb sz:Nat) (Q:aC->List OV->Prop):aC->Heap->Prop:=λr h'=>∃ e' g',Q r e'/\h'=bL g' nb (.row sz (OV.cells [e']))/\g' nb=none/\eO h0 (OV.cA e') g'
theorem eO.over {h g:Heap} {l:List (Nat×bQ)} {n:Nat} {o:bQ} (w:eO h l g) (hn:g n=none):eO (bL h n o) l (bL g n o):=by
 have hne:∀ m∈cF l,m≠n:=λm hm e=>by
  obtain⟨x,hx⟩:=eC.1 hm
  have:=w.gH (m,x) hx
  rw[e,hn]at this;cases this
 refine⟨w.nodup,λm hm=>?_,λp hp=>?_,λm hm=>?_⟩
 ·rw[aE _ _ _ _ (hne m hm)];exact w.fresh m hm
 ·rw[aE _ _ _ _ (hne p.1 (eC.2 ⟨p.2,hp⟩))];exact w.gH p hp
 ·simp only[fU];split
  ·rfl
  ·exact w.upto m hm
theorem eO.base {h g:Heap} {l:List (Nat×bQ)} {n:Nat} {o:bQ} (w:eO (bL h n o) l g) (hn:h n=none):∃ g',g'.le g/\eO h l g'/\g' n=none/\g=bL g' n o:=by
 have hne:∀ m∈cF l,m≠n:=λm hm e=>by
  have:=w.fresh m hm
  rw[e,bB]at this;cases this
 have hg:g n=some o:=by
  rw[w.upto n (λhm=>hne n hm rfl),bB]
 refine⟨λm=>if m=n then none else g m,λm=>?_,⟨w.nodup,λm hm=>?_,λp hp=>?_,λm hm=>?_⟩,by simp,?_⟩
 ·by_cases e:m=n <;> simp[e]
 ·have:=w.fresh m hm;rwa [aE _ _ _ _ (hne m hm)]at this
 ·simp only[if_neg (hne p.1 (eC.2 ⟨p.2,hp⟩))];exact w.gH p hp
 ·show(if m=n then none else g m)=h m
  split
  ·subst_vars;exact hn.symm
  ·rename_i e;rw[w.upto m hm,aE _ _ _ _ e]
 ·funext m;simp only[fU];split
  ·subst_vars;exact hg
  ·rename_i e;simp
theorem cP (e:List OV):OV.cells [e]=[e.map λc=>Cell.v c.val]:=rfl
theorem View.box {T:List aC} {g:Heap} {nb sz:Nat} {e:List OV} (hd:e.map OV.nD=T) (hn:g nb=none) (ho:kD g (OV.cA e)):View (bL g nb (.row sz (OV.cells [e]))) (.op nb sz 0 0) (.ip sz [T] 0 0):=by
 have:=View.op (h:=bL g nb (.row sz (OV.cells [e]))) (n:=nb) (sz:=sz) (i:=0) (off:=0) [e] (by rw[bB]) bF (by
  have h1:OV.bV [e]=OV.cA e:=by simp[OV.bV]
  rw[h1];exact ho.up hn)
 have h2:OV.cW [e]=[T]:=by rw[OV.mD];simp[hd]
 rwa [h2]at this
theorem eO.le {h g:Heap} {l:List (Nat×bQ)} (w:eO h l g):h.le g:=λq=>by
 by_cases hq:q∈cF l
 ·exact .inl (w.fresh q hq)
 ·exact .inr (w.upto q hq).symm
theorem bFQ {α:Type} {A B:List α} {x y:α}:(A++x::B).set A.length y=A++y::B:=by simp
theorem eO.aXJ {h g g2:Heap} (e1:List OV) {e2:List OV} {n sz:Nat} {es:List (List OV)} {k:Nat} {enew:List OV} (x:eO h (OV.cA (e1++OV.sl n sz es::e2)) g) (y:eO g (OV.cA enew) g2) (hk:k<es.length) :
  ∃ g3,g3.le (bL g2 n (.row sz (OV.cells (es.set k enew))))/\eO h (OV.cA (e1++OV.sl n sz (es.set k enew)::e2)) g3:=by
 obtain⟨A,old,B,rfl,hA⟩:∃ A old B,es=A++old::B/\A.length=k:=⟨es.take k,es[k],es.drop (k+1),by simp,by simp;omega⟩
 subst hA
 rw[bFQ]
 have z:=x.append y
 rw[OV.lG,OV.b7,OV.fF,bT,bP]at z
 have z2:=z.perm (b:=OV.cA old++(OV.cA e1++((n,.row sz (OV.cells (A++old::B)))::(OV.bV A++(OV.cA enew++OV.bV B))++OV.cA e2))) (by
  classical
  rw[List.perm_iff_count]
  intro q
  simp only[List.count_append,tE,List.count_cons]
  omega)
 have z3:=z2.drop
 refine⟨bL (pA g2 (cF (OV.cA old))) n (.row sz (OV.cells (A++enew::B))),Heap.b5 (aTG _ _),?_⟩
 rw[OV.lG,OV.b7,OV.fF,bT,bP]
 exact z3.field (l:=(n,.row sz (OV.cells (A++old::B)))::(OV.bV A++(OV.cA enew++OV.bV B))) (mJ.set z3.gH.right.left (lJ z3.nodup))
theorem vD (es:List (List OV)) (k:Nat) (e:List OV) (c:List Cell) (hc:c=e.map λc=>Cell.v c.val):(OV.cells es).set k c=OV.cells (es.set k e):=by
 rw[hc,OV.cells,OV.cells,a2D]
theorem yL {es:List (List OV)} {k:Nat} {e:List OV} (h:es[k]?=some e):(OV.cells es)[k]?=some (e.map λc=>Cell.v c.val):=by
 rw[OV.cells,s6,h];rfl
theorem OR.a38 {α:Type} {R:α->List OV->Prop}:∀ {l:List α} {es:List (List OV)},OR R l es->∀ (k:Nat) x,l[k]?=some x->∃ e,es[k]?=some e/\R x e
 | [],[],_,k,x,h=>by simp at h
 |a::l,b::es,h,0,x,e=>by simp at e;subst e;exact⟨b,rfl,h.1⟩
 |a::l,b::es,h,k+1,x,e=>OR.a38 h.2 k x (by simpa using e)
 | [],_::_,h,_,_,_=>h.elim
 | _::_,[],h,_,_,_=>h.elim
theorem OR.set {α:Type} {R:α->List OV->Prop}:∀ {l:List α} {es:List (List OV)},OR R l es->∀ (k:Nat) x e,R x e->OR R (l.set k x) (es.set k e)
 | [],[],_,k,x,e,_=>by simp[OR]
 |a::l,b::es,h,0,x,e,he=>⟨he,h.2⟩
 |a::l,b::es,h,k+1,x,e,he=>⟨h.1,OR.set h.2 k x e he⟩
 | [],_::_,h,_,_,_,_=>h.elim
 | _::_,[],h,_,_,_,_=>h.elim
theorem OS.some {α:Type} {R:α->List OV->Prop} {sz:Nat} {l:List α} {y:OV} (h:OS R sz l y) (hl:0<l.length):∃ n es,y=.sl n sz es/\OR R l es:=by
 rcases h with⟨_,h⟩|h
 ·rw[h]at hl;simp at hl
 ·exact h
def leX (S:List Nat) (g h:Heap):Prop:=∀ q,q∉S->g q=none∨g q=h q
theorem jU {g h:Heap} (x:leX [] g h):g.le h:=λq=>x q bF
theorem hZ (S:List Nat) (g:Heap):leX S g g:=λq _=>.inr rfl
theorem jV {S:List Nat} {g h:Heap} {n:Nat} {o:bQ} (hn:h n=some o) (x:leX (n::S) g h):leX S (bL g n o) h:=λq hq=>by
 simp only[fU];split
 ·subst_vars;exact .inr hn.symm
 ·rename_i e;exact x q (by simp only[s7,not_or];exact⟨e,hq⟩)
theorem fZ {S:List Nat} {g h:Heap} {n:Nat} {o:bQ} (hn:n∈S∨g n=none) (x:leX S g h):leX S g (bL h n o):=λq hq=>by
 simp only[fU];split
 ·subst_vars
  rcases hn with hn|hn
  ·exact absurd hn hq
  ·exact .inl hn
 ·exact x q hq
theorem aBL {R:List OV->Prop} {w:aC->aC} {e:List OV} {h h' g:Heap} {r:aC} (hr:r=w (.agg (e.map OV.val))) (hR:R e) (hn:eO h (OV.cA e) g) (hl:g.le h'):∃ r1 g l,Shift r h' r1 g/\QA R w r1 l/\eO h l g:=by
 rw[hr];exact aQ0 hR hn hl
theorem Heap.le_none {g h:Heap} (hl:g.le h) {n:Nat} (hn:h n=none):g n=none:=by
 rcases hl n with e|e
 ·exact e
 ·rw[e,hn]
theorem gV.wk {P:Program} {f:FuncId} {args:List aC} {g h:Heap} {K:aC->Heap->Prop} (hl:g.wk h) (a:gV P f args g K):gV P f args h K :=
 ⟨a.1,λE w vs R r=>by
  obtain⟨R',hi⟩:=hl E w R
  exact(a.2 E w vs R' (eW.imm hi r)).mono λe w' q=>by
   cases e with
   |returned v =>
    obtain⟨r,h',E',k,ev,R2,r2⟩:=q
    exact⟨r,h',E',k,(hl.ev R).trans ev,R2,r2⟩
   | _=>exact q.elim⟩
theorem aH.wk {P:Program} {f:FuncId} {args:List aC} {g h:Heap} {K:aC->Heap->Prop} {t:Tag K} (hl:g.wk h) (a:aH P f args g K t):aH P f args h K t:=gV.wk hl a
theorem gV.shift {P:Program} {f:FuncId} {args:List aC} {h:Heap} {K K':aC->Heap->Prop} (a:gV P f args h K') (hk:∀ r h',K' r h'->∃ g:Heap,g.wk h'/\K r g):gV P f args h K :=
 ⟨a.1,λE w vs R r=>by
  exact(a.2 E w vs R r).mono λe w' q=>by
   cases e with
   |returned v =>
    obtain⟨r,h',E',k,ev,R2,r2⟩:=q
    obtain⟨g,hg,k'⟩:=hk r h' k
    obtain⟨R3,hi⟩:=hg E' w' R2
    exact⟨r,g,E',k',ev.trans (hg.ev R2),R3,gG.imm hi r2⟩
   | _=>exact q.elim⟩
theorem iS.setAt {xs ys:List aC} (s:b8 xs ys):∀ (l:List (List Cell)) (k:Nat),iS (l.set k (xs.map .v)) (l.set k (ys.map .v))
 | [],k=>by simp[iS]
 |a::l,0=>by
  have h:=iS.sub s []
  exact⟨h.1,iS.refl l⟩
 |a::l,k+1=>⟨(iS.refl [a]).1,iS.setAt s l k⟩
def upL (c:List Int) (k:Nat):List Int:=c.take k++List.replicate (c.length-k) 0
theorem bOC (n:Nat):(List.replicate n [aC.int .i64 0]).map (List.map Cell.v)=((List.replicate n (0:Int)).map λn=>[aC.int .i64 n]).map (List.map Cell.v):=by simp
theorem aHM {P:Program} {N:Nat} (keep ib:List Nat) (mk:Marks) {c:Code} {Q:Exit->cH->Heap->Prop} {τ:cH} {h:Heap} {t:Tag (Code.loop c,Q)} {α:Type} (S:α->cH) (side:α->Prop) (μ:α->Nat) (x₀:α) (h₀:eE (S x₀) τ/\side x₀) (round:∀ x,side x->rG P N keep ib mk c (λτ' h'=>∃ x',eE (S x') τ'/\h.le h'/\side x'/\μ x'<μ x) Q (S x) h ()) (hmix:P.follows .mixedOrders=true:=by exact mix) (hc:jA N mk c=true:=by kernel_rfl):aNW P N (.loop c) Q τ h t :=
 bI7 (keep:=keep) (ib:=ib) (mk:=mk) hmix hc S side μ x₀ h₀ round
theorem a7G {P:Program} {N:Nat} (keep ib:List Nat) (mk:Marks) {c:Code} {Q:Exit->cH->Heap->Prop} {τ:cH} {h:Heap} {t:Tag (Code.loop c,Q)} {α:Type} (S:α->cH) (n:Nat) (R:α->bQ) (side:α->Prop) (μ:α->Nat) (x₀:α) (h₀:eE (S x₀) τ/\h n=some (R x₀)/\side x₀) (round:∀ x,side x->rG P N keep ib mk c (λτ' h'=>∃ x',eE (S x') τ'/\(bL h n (R x')).le h'/\side x'/\μ x'<μ x) Q (S x) (bL h n (R x)) ()) (hmix:P.follows .mixedOrders=true:=by exact mix) (hc:jA N mk c=true:=by kernel_rfl):aNW P N (.loop c) Q τ h t :=
 bOB (keep:=keep) (ib:=ib) (mk:=mk) hmix hc S n R side μ x₀ h₀ round
theorem bCK {E:Env} {h:Heap} {w:World} (k:Nat) (os:Array Obj):Ev E h w E h (Go.Sort.grow (w.drewN k) os):=by
 have hb:∀ b,b<w.heap.size->(Go.Sort.grow (w.drewN k) os).heap[b]?=w.heap[b]?:=λb hb=>by
  show(w.heap++os)[b]?=_
  rw[bHG hb]
 refine⟨?_,λb i=>⟨hb b i.1,?_,i.2⟩,λb i=>?_,λ_ hn=>⟨rfl,hn⟩,rfl,rfl⟩
 ·show w.heap.size<=(w.heap++os).size
  simp
 ·show b<(w.heap++os).size
  have:=i.1
  simp;omega
 ·simp only[World.shape?,hb b i]
theorem bI8 {E:Env} {h:Heap} {w:World} (R:Rel E h w) (k:Nat) (os:Array Obj):Rel E h (Go.Sort.grow (w.drewN k) os) :=
 have ev:=bCK (E:=E) (h:=h) (w:=w) k os
 ⟨R.fin,R.dom,λn x b hn hx hb=>bG5 (R.lt n x b hn hx hb) ev.size,R.apart,
  λn x hn=>(R.obj n x hn).ev ev rfl rfl λc hx hc=>by
   have:=R.lt n x c hn hx hc
   show(w.heap++os)[c]?=_
   rw[bHG this],R.laid.ev ev⟩
theorem bFR {P:Program} {f:FuncId} {args:List aC} {r:aC} (hc:jM P f=true)
  (H:∀ E h w vs,Rel E h w->eW E h w args vs->Calls P f vs.toArray w λe w'=>∃ v,e=.returned v/\(∀ E' h' w',gG E' h' w' r v)/\∃ k os,w'=Go.Sort.grow (w.drewN k) os):fQ P f args r:=λh =>
 ⟨hc,λE w vs R rl=>(H E h w vs R rl).mono λe w' q=>by
  obtain⟨v,rfl,hv,k,os,rfl⟩:=q
  exact⟨r,h,E,⟨rfl,rfl⟩,bCK k os,bI8 R k os,hv _ _ _⟩⟩
theorem LaidIn.var {E:Env} {h:Heap} {w:World} (x:LaidIn E h w) {P:Program} {name:String} {g:Nat} {Q:Array Value->Prop} (hg:P.globalNamed name=some g) (hm:(g,Q)∈pV):∃ cs,w.var? P name=some cs/\Q cs:=by
 obtain⟨_,cs,t,f,ht,q⟩:=x _ hm
 exact⟨cs,by simp only[World.var?,hg,a6O,ht],q⟩
theorem LaidIn.cell {E:Env} {h:Heap} {w:World} (x:LaidIn E h w) {g:Nat} {Q:Array Value->Prop} (hm:(g,Q)∈pV):∃ cs,(∀ i,w.cell? ⟨g,i,none⟩=cs[i]?)/\Q cs:=by
 obtain⟨_,cs,t,f,ht,q⟩:=x _ hm
 exact⟨cs,λi=>by simp only[World.cell?,ht];simp,q⟩
theorem aTN {E:Env} {h:Heap} {w w':World} (x:Go.RowKit.Below w.heap.size w w'):Ev E h w E h w':=by
 refine⟨x.size,λb i=>⟨x.block b i.1,bG5 i.1 x.size,i.2⟩,λb i=>?_,λ_ hn=>⟨rfl,hn⟩,x.os,x.output⟩
 unfold World.shape?
 rw[x.block b i]
theorem aXK {E:Env} {h:Heap} {w w':World} (R:Rel E h w) (x:Go.RowKit.Below w.heap.size w w'):Rel E h w' :=
 have ev:=aTN (E:=E) (h:=h) x
 ⟨R.fin,R.dom,λn o b hn hx hb=>bG5 (R.lt n o b hn hx hb) ev.size,R.apart,
  λn o hn=>(R.obj n o hn).ev ev rfl rfl λc hx hc=>x.block c (R.lt n o c hn hx hc),R.laid.ev ev⟩
theorem aN3 {P:Program} {f:FuncId} {args:List aC} {r:aC} (hc:jM P f=true)
  (H:∀ E h w vs,Rel E h w->eW E h w args vs->Calls P f vs.toArray w λe w'=>∃ v,e=.returned v/\(∀ E' h' w',gG E' h' w' r v)/\Go.RowKit.Below w.heap.size w w'):fQ P f args r:=λh =>
 ⟨hc,λE w vs R rl=>(H E h w vs R rl).mono λe w' q=>by
  obtain⟨v,rfl,hv,b⟩:=q
  exact⟨r,h,E,⟨rfl,rfl⟩,aTN b,aXK R b,hv _ _ _⟩⟩
theorem b80 {P:Program} {f:FuncId} {fn:Func} {c:Code} (N:Nat) (keep ib:List Nat) (mk:Marks) {args:List aC} {h:Heap} {K:aC->Heap->Prop} (hmix:P.follows .mixedOrders=true) (hf:P.funcs[f]?=some fn) (hb:fn.body=some c)
  (hck:(jM P f && decide (fn.ntmps=N) && jA N mk c)=true) (hl:args.length<=N)
  (hw:rG P N keep ib mk c (λτ h'=>o9 P fn.results (λr h'=>∃ r1 g,Shift r h' r1 g/\K r1 g) () .normal τ h') (o9 P fn.results (λr h'=>∃ r1 g,Shift r h' r1 g/\K r1 g) ()) (tI 0 args) h ()):gV P f args h K :=
 aBH (fn:=fn) (c:=c) (N:=N) (aS8 N keep ib mk hmix hf hb hck hl (K':=λr h'=>∃ r1 g,Shift r h' r1 g/\K r1 g) (K:=λr h'=>∃ r1 g,Shift r h' r1 g/\K r1 g) hw λ_ h' hx=>⟨h',Heap.le_refl _,hx⟩) λr h' hx=>hx
theorem eW.aBA {E:Env} {h:Heap} {w:World} (R:Rel E h w) {n sz:Nat} {es:List (List Cell)} (hn:h n=some (.row sz es)):∀ {xs:List aC} {vs:List Value},eW E h w xs vs->lZ n sz es.length xs=true->eW E (bL h n .gone) w (oZ n (jJ es) xs) vs
 | [],[],_,_=>trivial
 |x::xs,v::vs,r,hb=>by
  simp only[lZ,pS]at hb
  exact⟨r.1.aBA R hn hb.1,eW.aBA R hn r.2 hb.2⟩
 | [],_::_,r,_=>r.elim
 | _::_,[],r,_=>r.elim
theorem aH.a4Y {P:Program} {f:FuncId} {args:List aC} {h:Heap} {K:aC->Heap->Prop} {t:Tag K} (n:Nat) {sz:Nat} {es:List (List Cell)} (hn:h n=some (.row sz es)) (hb:lZ n sz es.length args=true)
  (a:gV P f (oZ n (jJ es) args) (bL h n .gone) K):aH P f args h K t :=
 ⟨a.1,λE w vs R r=>(a.2 E w vs (R.gone hn) (r.aBA R hn hb)).mono λe w' q=>by
  cases e with
  |returned v =>
   obtain⟨r,h',E',k,ev,R2,r2⟩:=q
   exact⟨r,h',E',k,(Ev.gone n).trans ev,R2,r2⟩
  | _=>exact q.elim⟩
theorem mK {P:Program} {f:FuncId} {fn:Func} {c:Code} (N:Nat) (keep ib:List Nat) (mk:Marks) {args:List aC} {h:Heap} {K:aC->Heap->Prop} (hf:P.funcs[f]?=some fn) (hw:rG P N keep ib mk c (λτ h'=>o9 P fn.results (λr h'=>∃ r1 g,Shift r h' r1 g/\K r1 g) () .normal τ h') (o9 P fn.results (λr h'=>∃ r1 g,Shift r h' r1 g/\K r1 g) ()) (tI 0 args) h ()) (hmix:P.follows .mixedOrders=true:=by exact mix) (hb:fn.body=some c:=by rfl) (hck:(jM P f && decide (fn.ntmps=N) && jA N mk c)=true:=by kernel_rfl) (hl:args.length<=N:=by simp):gV P f args h K :=
 b80 N keep ib mk hmix hf hb hck hl hw
open Go.ChangeShapes Go.WideShapes
theorem aVY {H:Type} {enc:TypeId×Value->H} {a:Assume} {C:Checked} {os:Os} {f:FuncId} {fn:Func} {s:ChangeSpec} {conds:List PathCond} {apart fresh handsOn again:Bool} {X:World->Array Value->Prop}
  (hX:∀ (w w':World) (args:Array Value),w.heap=w'.heap->X w args->X w' args)
  (own:ownKnob C.prog.godebug=none) (started:os.Started) (noInit:C.prog.inits.idxOf? f=none) (hfn:C.prog.funcs[f]?=some fn)
  (witness:∃ (w:World) (tape:Tape) (i:Input),w.os=os/\(w.forCall tape i).Shaped C.prog/\i.vars=[]/\Input.okWide C.prog (w.forCall tape i) .any w.heap.size f i /\
   ((s.pre enc C.prog fn conds apart (w.forCall tape i).memory i.args/\X (w.forCall tape i).memory i.args)/\sizedMet enc C.prog fn (OpenSpec.ofChange s) apart (w.forCall tape i).memory i.args)/\a.holds C.prog (lone (Frame.enter C.prog f i.args .normal) [] (w.forCall tape i)))
  (contract:∀ (W:World) (base:Nat) (args:Array Value) (ds gs:List (DataW H)) (before:List MemPlace),W.ShapedOpen C.prog ->
   (∀ (j:Nat) t v,fn.params[j]?=some t->args[j]?=some v->Value.okWide C.prog W .any base t v) ->
   DataW.Whole enc C.prog fn.params.toList s.vars apart W args.toList ds gs before ->
   conds.all (PathCond.test C.prog ⟨fn.params.toList,ds,s.plain.varTypes C.prog,gs⟩)=true ->
   (DataW.weightsEach C.prog (fn.params.toList++s.plain.varTypes C.prog) (ds++gs)).all (·<=reachBytes)=true->X W args ->
   a.holds C.prog (lone (Frame.enter C.prog f args .normal) [] W) ->
   Calls C.prog f args W λe W'=>∃ v,e=.returned v/\s.post enc C.prog fn apart fresh handsOn again W args v W') :
  ReturnsInHanded a C os f .any (λw args=>(s.pre enc C.prog fn conds apart w args/\X w args)/\sizedMet enc C.prog fn (OpenSpec.ofChange s) apart w args) (s.post enc C.prog fn apart fresh handsOn again):=by
 refine returnsInHanded_of_calls own started noInit witness ?_
 intro w tape i _ hsh _ hok hpre hholds
 obtain⟨_,_,_,fn',hfn',_,_,_,_,hval⟩:=hok
 have e:fn'=fn:=eN (hfn'.symm.trans hfn)
 subst e
 obtain⟨⟨⟨ds,gs,before,hw,hc⟩,hx⟩,hz⟩:=hpre
 have hw':=DataW.Whole.of_heap (w':=w.forCall tape i) dC hw
 refine(contract (w.forCall tape i) w.heap.size i.args ds gs before hsh hval hw' hc (hz.weights hw) (hX _ _ _ dC hx) hholds).mono λe W' ⟨v,he,hp⟩=>?_
 subst he
 exact ChangeSpec.post_blind hp
theorem aWP {H:Type} {enc:TypeId×Value->H} {C:Checked} {os:Os} {f:FuncId} {fn:Func} {s:ChangeSpec} {laid:List (String×DataW Unit)}
  (own:ownKnob C.prog.godebug=none) (started:os.Started) (noInit:C.prog.inits.idxOf? f=none) (hfn:C.prog.funcs[f]?=some fn)
  (witness:∃ (w:World) (tape:Tape) (i:Input),w.os=os/\(w.forCall tape i).Shaped C.prog/\i.vars=[]/\Input.okWide C.prog (w.forCall tape i) .any w.heap.size f i /\
   ((s.pre enc C.prog fn [] false (w.forCall tape i).memory i.args/\laidMetH C.prog laid (w.forCall tape i).memory)/\sizedMet enc C.prog fn (OpenSpec.ofChange s) false (w.forCall tape i).memory i.args)/\({}:Assume).holds C.prog (lone (Frame.enter C.prog f i.args .normal) [] (w.forCall tape i)))
  (lo:laidOutB C.prog=true) (mr:mapsRowed C.prog=true)
  (hz:((List.range C.prog.types.size).all λt=>match C.prog.underlying t with|some (.slice e)=>decide (0<C.prog.cellsOf e)|_=>true)=true)
  (T:List TypeId) (hT:bFJ C.prog T=true) (hp:fn.params.all (λt=>decide (t<C.prog.types.size) && T.contains t)=true)
  (hsv:s.vars=[]) (hs:∀ ds:List (DataW H),ds.length=fn.params.size->s.fn H ds={ results:=[.lit (.bool true)],args:=ds })
  {tb:TypeId} (hr:fn.resultTypes=#[tb]) (htb:C.prog.underlying tb=some .bool)
  (hc:∀ xs,a32 C.prog fn.params.toList xs->gV C.prog f xs yH λr _=>r=.bool true) (hlaid:∀ W,laidMetH C.prog laid W->W.ShapedOpen C.prog->∀ p∈pV,∃ cs t f,W.heap[p.1]?=some (.cells cs t f)/\p.2 cs) :
  ReturnsInHanded {} C os f .any (λw args=>(s.pre enc C.prog fn [] false w args/\laidMetH C.prog laid w)/\sizedMet enc C.prog fn (OpenSpec.ofChange s) false w args) (s.post enc C.prog fn false true false false):=by
 refine aVY (X:=λw _=>laidMetH C.prog laid w) (λ_ _ _ hh h=>h.of_heap hh) own started noInit hfn witness ?_
 intro W base args ds gs before hsh hval hW _ _ hL _
 have hW0:=hW
 obtain⟨p,q,hA,hV,_,_,_⟩:=hW
 have hp':=bHI.1 hp
 simp only[pS,decide_eq_true_eq]at hp'
 have hbase:∀ (j:Nat) t v,fn.params.toList[j]?=some t->args.toList[j]?=some v->Value.okWide C.prog W .any base t v:=λj t v h1 h2=>hval j t v (by simpa using h1) (by simpa using h2)
 obtain⟨xs,h1,h2,h3⟩:=aXF hT (E:=a33) (h:=yH) (λb hb=>aTF hb) (λt ht=>by have:=(hp' t (by simpa using ht)).2;simpa using this) hbase hA
 refine Calls.mono (by simpa using(hc xs h1).2 a33 W args.toList (bIX W λp hp=>⟨aTF (by obtain⟨cs,t,f,e,_⟩:=hlaid W hL hsh p hp;exact(aYQ.1 e).1),hlaid W hL hsh p hp⟩) h2) λe W' he=>?_
 cases e with
 |returned v =>
  obtain⟨r,h',E',rfl,ev,_,rep⟩:=he
  cases rep
  exact⟨_,rfl,bIW lo mr hz (by rw[bHI];intro t ht;simpa using(hp' t ht).1) hsv hs hr htb hW0 (by simpa using h3) (λb hb=>(ev.keep b (aTF hb)).1) ev.os ev.out⟩
 | _=>exact he.elim
theorem kL {P:Program} {n:String} {d:DataW Unit} {r:List (String×DataW Unit)} {w:World} (h:laidMet P ((n,d)::r) w):laidMet P r w:=by
 obtain⟨ps,⟨g,t,cs,fuel,p,q,_,_,_,_,hq,rfl⟩,hn,ha⟩:=h
 exact⟨q,hq,(aFY.1 hn).2.1,λb off hm=>ha b off (aA5 _ hm)⟩
theorem aED {P:Program} {W:World} {g:Nat} {t:TypeId} {n nm:String} {d:DataW Unit} {r:List (String×DataW Unit)}
  (h:laidMet P ((n,.iface nm d)::r) W) (hg:P.globalNamed n=some g) (ht:(P.globals[g]?).map (·.type)=some t) (hi:aDR P t=true) :
  ∃ v,W.cell? ⟨g,0,none⟩=some v/\(v=.nilIface∨∃ te pe,v=.iface te pe):=by
 obtain⟨ms,hu⟩:∃ ms,P.underlying t=some (.interface ms):=by
  unfold aDR at hi
  split at hi
  ·exact⟨_,by assumption⟩
  ·cases hi
 obtain⟨ps,⟨g0,t0,cs0,f0,p0,q0,hg0,ht0,hv0,hd0,_,_⟩,_,_⟩:=h
 obtain rfl:=eN (hg.symm.trans hg0)
 obtain rfl:=eN (ht.symm.trans ht0)
 obtain⟨f1,u,v,hc,_,_⟩:=iface_of_trod hu hd0
 refine⟨.iface u v,?_,.inr ⟨u,v,rfl⟩⟩
 rw[World.var?_cell hg0 hv0 0]
 rw[←aQI,hc]
 rfl
theorem aFW {w:World} {g:Nat} {Q:Value->Prop} (h:∃ v,w.cell? ⟨g,0,none⟩=some v/\Q v):∃ cs t f,w.heap[g]?=some (.cells cs t f)/\∃ v,cs[0]?=some v/\Q v:=by
 obtain⟨v,hv,hq⟩:=h
 unfold World.cell? at hv
 cases hW:w.heap[g]? with
 |none=>rw[hW]at hv;cases hv
 |some o =>
  rw[hW]at hv
  cases o with
  |cells c t f=>exact⟨c,t,f,rfl,v,by simpa using hv,hq⟩
  | _=>cases hv
theorem a57 {w:World} {g:Nat} {k:IntKind} (h:∃ m,w.cell? ⟨g,0,none⟩=some (.int k m)):∃ cs t f,w.heap[g]?=some (.cells cs t f)/\∃ m,cs[0]?=some (.int k m):=by
 obtain⟨m,hm⟩:=h
 obtain⟨cs,t,f,h1,v,h2,rfl⟩:=aFW (Q:=λv=>v=.int k m) ⟨_,hm,rfl⟩
 exact⟨cs,t,f,h1,m,h2⟩
end Go.Hl

/-
  Contracts of functions and laws of the layer over the walk.
-/
import Derived.Test.YtajjlpophonkoaaGreatDoorHlC
import Derived.KernelRfl
import Derived.Sort.Grow
import Derived.Deep.Draws
import Derived.Below
import Derived.LaidLaws
import Derived.LaidHandle
import Derived.Stop.Joined
import Derived.Lib.LaidTab
import Derived.Shelf.Vars
namespace Go.Hl
set_option linter.unusedVariables false
set_option linter.unusedSimpArgs false
inductive OV where
 |v (x:aH)
 |nil (sz:Nat)
 |sl (n sz:Nat) (es:List (List OV))
def OV.val:OV->aH
 | .v x=>x
 | .nil sz=>.sl sz [] true
 | .sl n sz es=>.os n sz 0 es.length
mutual
def OV.pU:OV->aH
 | .v x=>x
 | .nil sz=>.sl sz [] false
 | .sl n sz es=>.sl sz (OV.nM es) false
def OV.nM:List (List OV)->List (List aH)
 | []=>[]
 |e::es=>OV.aVW e::OV.nM es
def OV.aVW:List OV->List aH
 | []=>[]
 |x::e=>x.pU::OV.aVW e
end
theorem OV.aCI:∀ (e:List OV),OV.aVW e=e.map OV.pU
 | []=>rfl
 |x::e=>by rw[OV.aVW,OV.aCI e];rfl
theorem OV.fS:∀ (es:List (List OV)),OV.nM es=es.map (List.map OV.pU)
 | []=>rfl
 |e::es=>by rw[OV.nM,OV.fS es,OV.aCI];rfl
def OV.cells (es:List (List OV)):List (List Cell):=es.map (List.map λc=>Cell.v c.val)
mutual
def OV.rows:OV->List (Nat×bE)
 | .v _=>[]
 | .nil _=>[]
 | .sl n sz es=>(n,.row sz (OV.cells es))::OV.bF es
def OV.bF:List (List OV)->List (Nat×bE)
 | []=>[]
 |e::es=>OV.cJ e++OV.bF es
def OV.cJ:List OV->List (Nat×bE)
 | []=>[]
 |x::e=>x.rows++OV.cJ e
end
theorem OV.aGX:∀ {es:List (List OV)} {e:List OV} {p:Nat×bE},e∈es->p∈OV.cJ e->p∈OV.bF es
 |y::es,e,p,he,hp=>by
  rw[OV.bF]
  rcases pY.1 he with rfl|he
  ·exact aLF _ hp
  ·exact aD5 _ (OV.aGX he hp)
def xH (h:aE) (l:List (Nat×bE)):Prop:=∀ p∈l,h p.1=some p.2
def jL (h:aE) (S:List Nat):aE:=λm=>if m∈S then(h m).map λ_=>.gone else h m
theorem xW {h:aE} {S:List Nat} {m:Nat} {o:bE} (hm:m∈S) (ho:jL h S m=some o):o=.gone:=by
 simp only[jL,if_pos hm,u5]at ho
 obtain⟨_,_,rfl⟩:=ho;rfl
theorem iL {h:aE} {S:List Nat} {m:Nat} (hm:m∉S):jL h S m=h m:=by simp only[jL,if_neg hm]
theorem tJ {E:Env} {h:aE} {w:World} (S:List Nat) (b:Nat) (i:qK E h w b):qK E (jL h S) w b :=
 ⟨i.1,λm o hm ho=>by
  by_cases e:m∈S
  ·rw[xW e hm]at ho;exact ho.elim
  ·rw[iL e]at hm;exact i.2 m o hm ho⟩
theorem aVX {E:Env} {h:aE} {w:World} (R:Rel E h w) {S:List Nat} {n:Nat} (hS:n∈S) {x:bE} (hn:h n=some x) (hx:x.live) (b:Nat) (hb:E.fp n b):qK E (jL h S) w b :=
 ⟨R.lt n x b hn hx hb,λm o hm ho hf=>by
  by_cases e:m∈S
  ·rw[xW e hm]at ho;exact ho.elim
  ·rw[iL e]at hm
   have:=R.apart m o n x b hm ho hn hx hf hb
   exact e (this▸hS)⟩
theorem Rel.jL {E:Env} {h:aE} {w:World} (R:Rel E h w) (S:List Nat):Rel E (jL h S) w:=by
 refine⟨R.fin,λm hm=>?_,?_,?_,?_,R.laid.sB (tJ S)⟩
 ·by_cases e:m∈S
  ·refine R.dom m λq=>hm ?_
   simp only[Hl.jL,if_pos e,q,bC3]
  ·rw[iL e]at hm;exact R.dom m hm
 ·intro m o b hm ho
  by_cases e:m∈S
  ·rw[xW e hm]at ho;exact ho.elim
  ·rw[iL e]at hm;exact R.lt m o b hm ho
 ·intro m o m' o' b hm ho hm' ho'
  by_cases e:m∈S
  ·rw[xW e hm]at ho;exact ho.elim
  ·by_cases e':m'∈S
   ·rw[xW e' hm']at ho';exact ho'.elim
   ·rw[iL e]at hm;rw[iL e']at hm';exact R.apart m o m' o' b hm ho hm' ho'
 ·intro m o hm
  by_cases e:m∈S
  ·rw[xW e hm];trivial
  ·rw[iL e]at hm;exact(R.obj m o hm).sB λb=>tJ S b
theorem Ev.jL {E:Env} {h:aE} {w:World} (S:List Nat):Ev E h w E (jL h S) w :=
 ⟨iH _,λb hb=>⟨rfl,tJ S b hb⟩,λ_ _=>rfl,λ_ hn=>⟨rfl,hn⟩,rfl,rfl⟩
mutual
theorem gC.aGY {E:Env} {h:aE} {w:World} (R:Rel E h w) {S:List Nat}:∀ (x:OV),xH h x.rows->(∀ p∈x.rows,p.1∈S)->∀ v,gC E h w x.val v->gC E (Hl.jL h S) w x.pU v
 | .v x,_,_,v,r=>gC.sB (λb=>tJ S b) r
 | .nil sz,_,_,v,r=>Sub.loose sz [] true _ _ _ _ (gC.sB (λb=>tJ S b) (show gC E h w (.sl sz [] true) v from r))
 | .sl n sz es,ho,hS,v,r=>by
  have hn:h n=some (.row sz (OV.cells es)):=ho (n,_) (by rw[OV.rows];exact x6)
  have hnS:n∈S:=hS (n,_) (by rw[OV.rows];exact x6)
  simp only[OV.val]at r
  simp only[OV.pU]
  have hcells:∀ i j y,kA (OV.cells es) i j=some y->∃ c,kA es i j=some c/\y=.v c.val:=by
   intro i j y hy
   rw[OV.cells,qA]at hy
   obtain⟨c,hc,rfl⟩:=u5.1 hy
   exact⟨c,hc,rfl⟩
  have hdat:∀ i j y,kA (OV.nM es) i j=some y->∃ c,kA es i j=some c/\y=c.pU:=by
   intro i j y hy
   rw[OV.fS,qA]at hy
   obtain⟨c,hc,rfl⟩:=u5.1 hy
   exact⟨c,hc,rfl⟩
  have hlen:(OV.nM es).length=es.length:=by rw[OV.fS,nG]
  have key:∀ L,L=es.length->gC E h w (.os n sz 0 L) v->gC E (Hl.jL h S) w (.sl sz (OV.nM es) false) v:=by
   intro L hL r
   cases r with
   |os0 _ _ hd hl =>
    have:es=[]:=aYT hL.symm
    subst this
    exact .sl0 sz false none 0 (λ_=>rfl) (by simp[maxLen]) trivial
   |os _ _ _ _ b o cap t m hd hl hlc hmax hsh hm =>
    obtain⟨b',o',hl',hbS,hs,cs,ct,cv,T,hh,hm',hT,hD,hc,hrr⟩:=aEG R hn (.inr ⟨_,hl⟩)
    rw[hl]at hl'
    obtain⟨rfl,rfl⟩:=aU4 (gV hl')
    have himm:∀ c,E.fp n c->qK E (Hl.jL h S) w c:=λc hc=>aVX R hnS hn trivial c hc
    have hcs:∀ i j y,kA (OV.nM es) i j=some y->∃ c,kA es i j=some c/\y=c.pU/\cs[o+i*sz+j]?=some (cv i j)/\(cv i j).oneCell'=true/\gC E h w c.val (cv i j):=by
     intro i j y hy
     obtain⟨c,hc1,rfl⟩:=hdat i j y hy
     have hcell:kA (OV.cells es) i j=some (.v c.val):=by rw[OV.cells,qA,hc1];rfl
     have h2:=hrr i j _ hcell
     cases h2 with
     |v x c' S' h1 hx=>exact⟨c,hc1,rfl,hc i j _ hcell,h1,hx⟩
    have:=gC.sl (E:=E) (h:=Hl.jL h S) (w:=w) sz (OV.nM es) false b (o+0*sz) cap cv (himm b hbS) (by rw[hlen,←hL];exact hlc) hmax (λe=>by simp at e)
     (λe he=>by
      rw[OV.fS,qU]at he
      obtain⟨e',he',rfl⟩:=he
      have:=hs (e'.map λc=>Cell.v c.val) (qU.2 ⟨e',he',rfl⟩)
      simpa using this)
     (λi j y hy=>by
      obtain⟨c,_,_,h1,_,_⟩:=hcs i j y hy
      simp only[World.cell?,hh]
      rw[←h1]
      simp)
     (λi j y hy=>by obtain⟨c,_,_,_,h1,_⟩:=hcs i j y hy;exact h1)
     (λi j y hy=>by
      obtain⟨c,hc1,rfl,_,_,h1⟩:=hcs i j y hy
      obtain⟨e,he,hj⟩:=lG hc1
      exact aL3 R es (λp hp=>ho p (by rw[OV.rows];exact w6 _ hp)) (λp hp=>hS p (by rw[OV.rows];exact w6 _ hp)) e (nO he) c (nO hj) _ h1)
    rw[hlen,←hL]at this
    exact this
  exact key _ rfl r
theorem aL3 {E:Env} {h:aE} {w:World} (R:Rel E h w) {S:List Nat}:∀ (es:List (List OV)),xH h (OV.bF es)->(∀ p∈OV.bF es,p.1∈S)->∀ e∈es,∀ c∈e,∀ v,gC E h w c.val v->gC E (Hl.jL h S) w c.pU v
 | [],_,_,e,he,_,_,_,_=>by simp at he
 |a::es,ho,hS,e,he,c,hc,v,r=>by
  rcases pY.1 he with h1|h1
  ·rw[h1]at hc
   exact aZ8 R a (λp hp=>ho p (by rw[OV.bF];exact aLF _ hp)) (λp hp=>hS p (by rw[OV.bF];exact aLF _ hp)) c hc v r
  ·exact aL3 R es (λp hp=>ho p (by rw[OV.bF];exact aD5 _ hp)) (λp hp=>hS p (by rw[OV.bF];exact aD5 _ hp)) e h1 c hc v r
theorem aZ8 {E:Env} {h:aE} {w:World} (R:Rel E h w) {S:List Nat}:∀ (e:List OV),xH h (OV.cJ e)->(∀ p∈OV.cJ e,p.1∈S)->∀ c∈e,∀ v,gC E h w c.val v->gC E (Hl.jL h S) w c.pU v
 | [],_,_,c,hc,_,_=>by simp at hc
 |a::e,ho,hS,c,hc,v,r=>by
  rcases pY.1 hc with h1|h1
  ·rw[h1]at r ⊢
   exact gC.aGY R a (λp hp=>ho p a6O) (λp hp=>hS p a6O) v r
  ·exact aZ8 R e (λp hp=>ho p a6N) (λp hp=>hS p a6N) c h1 v r
end
mutual
def aH.jM:aH->Bool
 | .any | .bool _ | .int _ _ | .str _ | .kT | .bD | .wX | .nK | .r5=>true
 | .os _ _ _ _ | .op _ _ _ _ | .mp _=>true
 | .sl _ es _=>es.isEmpty
 | .agg cs=>aH.aL4 cs
 | .jO cs=>aH.aL4 cs
 | _=>false
def aH.aL4:List aH->Bool
 | []=>true
 |x::xs=>x.jM && aH.aL4 xs
end
theorem aH.aHM:∀ {l:List aH},aH.aL4 l=true->∀ (i:Nat) x,l[i]?=some x->x.jM=true
 |y::l,h,0,x,hx=>by simp only[aH.aL4,oW]at h;simp at hx;subst hx;exact h.1
 |y::l,h,i+1,x,hx=>by simp only[aH.aL4,oW]at h;exact aH.aHM h.2 i x aO1
 | [],_,i,x,hx=>by simp at hx
def Cell.jM:Cell->Bool
 | .v x=>x.jM
 | .own _ _=>false
def bE.jM:bE->Bool
 | .row _ es=>es.all λe=>e.all Cell.jM
 | .map _ _ _=>false
 | .raw _ _=>true
 | .abs _=>true
 | .gone=>true
theorem gC.jM {E E':Env} {h h':aE} {w w':World} (hl:∀ n,E.used n->E'.loc n=E.loc n/\E'.used n) (hs:∀ b,b<w.heap.size->w'.shape? b=w.shape? b) {x:aH} {v:Value} (r:gC E h w x v) (hx:x.jM=true):gC E' h' w' x v:=by
 induction r with
 |any v=>exact .any v
 |bool b=>exact .bool b
 |int k n=>exact .int k n
 |str s hl=>exact .str s hl
 |kT=>exact .kT
 |bD=>exact .bD
 |wX=>exact .wX
 |nK=>exact .nK
 |r5=>exact .r5
 |sl0 sz t a cap ht hmax ha=>exact .sl0 sz t a cap ht hmax ha
 |sl sz es t b o cap cv hi hcap hmax ht hs' hc h1 hr ih =>
  simp only[aH.jM,List.isEmpty_iff]at hx
  subst hx
  exact .sl0 sz t _ cap (λe=>by have:=ht e;simpa using this) hmax trivial
 |ip sz es i off b o cv hi hs' hc h1 hr ih=>simp[aH.jM]at hx
 |os n sz i len b o cap t m hd hl' hlc hmax hsh hm=>exact .os n sz i len b o cap t m (hl n hd).2 ((hl n hd).1.trans hl') hlc hmax ((hs b (aO3 hsh)).trans hsh) hm
 |os0 n sz hd hl'=>exact .os0 n sz (hl n hd).2 ((hl n hd).1.trans hl')
 |op n sz i off b o hd hl'=>exact .op n sz i off b o (hl n hd).2 ((hl n hd).1.trans hl')
 |agg cs vs hle hr ih=>exact .agg cs vs hle λi x v a b=>ih i x v a b (aH.aHM (by simpa only[aH.jM]using hx) i x a)
 |jO cs vs hle hr ih=>exact .jO cs vs hle λi x v a b=>ih i x v a b (aH.aHM (by simpa only[aH.jM]using hx) i x a)
 |fn f cs ds vs us hle hr hle' hr' ih ih'=>simp[aH.jM]at hx
 |iface t x v hr ih=>simp[aH.jM]at hx
 |mp n b o hd hl'=>exact .mp n b o (hl n hd).2 ((hl n hd).1.trans hl')
theorem aI9.jM {E E':Env} {h h':aE} {w w':World} (hl:∀ n,E.used n->E'.loc n=E.loc n/\E'.used n) (hs:∀ b,b<w.heap.size->w'.shape? b=w.shape? b) {n:Nat} {o:bE} (hn:E'.loc n=E.loc n) (hfp:E'.fp n=E.fp n)
  (hm:∀ b,E.fp n b->w'.heap[b]?=w.heap[b]?) (ho:o.jM=true) (r:aI9 E h w n o):aI9 E' h' w' n o:=by
 cases o with
 |gone=>trivial
 |raw t cs=>obtain⟨b,hb,hf,hr⟩:=r;exact⟨b,hn.trans hb,by rw[hfp];exact hf,(hm b hf).trans hr⟩
 |abs Q=>obtain⟨b,hb,hf,w0,hq,ha⟩:=r;exact⟨b,hn.trans hb,by rw[hfp];exact hf,w0,by rw[hfp];exact hq,λc hc=>by rw[hfp]at hc;exact(hm c hc).trans (ha c hc)⟩
 |map _ _ _=>simp[bE.jM]at ho
 |row sz es =>
  rcases r with⟨b,o',h1,h2⟩|⟨h1,h2⟩
  ·refine .inl ⟨b,o',hn.trans h1,?_⟩
   obtain⟨hb,c6,cs,t,cv,T,hh,hle,hT,hD,hc,hr⟩:=h2
   rw[hfp]
   refine⟨hb,c6,cs,t,cv,T,(hm b hb).trans hh,hle,hT,hD,hc,λi j x hx=>?_⟩
   have hsx:x.jM=true:=by
    obtain⟨e,he,hj⟩:=lG hx
    have h3:=zF.1 ho e (nO he)
    exact zF.1 h3 x (nO hj)
   have hx':=hr i j x hx
   cases x with
   |own _ _=>simp[Cell.jM]at hsx
   |v y =>
    generalize cv i j=cc at hx'
    cases hx' with
    |v _ _ _ h1' hy=>exact .v y _ _ h1' (hy.jM hl hs hsx)
  ·exact .inr ⟨h1,hn.trans h2⟩
def OR {α:Type} (R:α->List OV->Prop):List α->List (List OV)->Prop
 | [],[]=>True
 |x::l,e::es=>R x e/\OR R l es
 | _,_=>False
def OS {α:Type} (R:α->List OV->Prop) (sz:Nat) (l:List α) (y:OV):Prop:=(y=.nil sz/\l=[])∨∃ n es,y=.sl n sz es/\OR R l es
def oP {α:Type} (c:α->aH) (x:α) (e:List OV):Prop:=e=[.v (c x)]
theorem OR.length {α:Type} {R:α->List OV->Prop}:∀ {l:List α} {es:List (List OV)},OR R l es->l.length=es.length
 | [],[],_=>rfl
 |x::l,e::es,h=>by simpa using OR.length h.2
 | [],_::_,h=>h.elim
 | _::_,[],h=>h.elim
theorem OR.get {α:Type} {R:α->List OV->Prop}:∀ {l:List α} {es:List (List OV)},OR R l es->∀ (i:Nat) x e,l[i]?=some x->es[i]?=some e->R x e
 |x::l,e::es,h,0,y,d,hy,hd=>by simp at hy hd;subst hy;subst hd;exact h.1
 |x::l,e::es,h,i+1,y,d,hy,hd=>OR.get h.2 i y d (by simpa using hy) (by simpa using hd)
 | [],[],_,i,y,d,hy,_=>by simp at hy
 | [],_::_,h,_,_,_,_,_=>h.elim
 | _::_,[],h,_,_,_,_,_=>h.elim
theorem OR.append {α:Type} {R:α->List OV->Prop}:∀ {l l':List α} {es es':List (List OV)},OR R l es->OR R l' es'->OR R (l++l') (es++es')
 | [],_,[],_,_,h=>h
 |x::l,_,e::es,_,a,h=>⟨a.1,OR.append a.2 h⟩
 | [],_,_::_,_,a,_=>a.elim
 | _::_,_,[],_,a,_=>a.elim
theorem OR.pU {α:Type} {R:α->List OV->Prop} {c:α->List aH} (hR:∀ x e,R x e->e.map OV.pU=c x):∀ {l:List α} {es:List (List OV)},OR R l es->OV.nM es=l.map c
 | [],[],_=>rfl
 |x::l,e::es,h=>by rw[OV.nM,OR.pU hR h.2,OV.aCI,hR x e h.1];rfl
 | [],_::_,h=>h.elim
 | _::_,[],h=>h.elim
theorem OS.pU {α:Type} {R:α->List OV->Prop} {c:α->List aH} {sz:Nat} {l:List α} {y:OV} (hR:∀ x e,R x e->e.map OV.pU=c x) (h:OS R sz l y):y.pU=.sl sz (l.map c) false:=by
 rcases h with⟨rfl,rfl⟩|⟨n,es,rfl,h⟩
 ·rfl
 ·simp only[OV.pU,OR.pU hR h]
def bH (l:List (Nat×bE)):List Nat:=l.map (·.1)
def bSR (S:List Nat) (h h':aE):Prop:=∀ m,m∉S->h' m=h m
open Go.ChangeShapes Go.WideShapes
def uW {α:Type} (s:α->Nat) (l:List α):Nat:=l.length+(l.map s).sum
theorem l8 {α:Type} (s:α->Nat) (l:List α):uW s l=l.length+(l.map s).sum:=rfl
theorem OV.aEU:∀ (a b:List OV),OV.cJ (a++b)=OV.cJ a++OV.cJ b
 | [],b=>rfl
 |x::a,b=>by rw[aU8,OV.cJ,OV.aEU a b,OV.cJ,aD6]
theorem OV.pL:∀ (a b:List (List OV)),OV.bF (a++b)=OV.bF a++OV.bF b
 | [],b=>rfl
 |x::a,b=>by rw[aU8,OV.bF,OV.pL a b,OV.bF,aD6]
theorem mX (a b:List (Nat×bE)):bH (a++b)=bH a++bH b:=kS
theorem dR {l:List (Nat×bE)} {m:Nat}:m∈bH l↔∃ o,(m,o)∈l:=by
 simp[bH]
structure gB (h:aE) (l:List (Nat×bE)) (h':aE):Prop where
 nodup:(bH l).Nodup
 fresh:∀ m∈bH l,h m=none
 tO:xH h' l
 upto:bSR (bH l) h h'
theorem gB.nil (h:aE):gB h [] h:=⟨List.nodup_nil,by simp[bH],by simp[xH],λm _=>rfl⟩
theorem gB.one {h:aE} {n:Nat} {o:bE} (hn:h n=none):gB h [(n,o)] (aR h n o) :=
 ⟨by simp[bH],by simpa[bH]using hn,by simp[xH],λm hm=>aI _ _ _ _ (by simpa[bH]using hm)⟩
theorem gB.append {h h1 h2:aE} {a b:List (Nat×bE)} (x:gB h a h1) (y:gB h1 b h2):gB h (a++b) h2:=by
 have dis:∀ m∈bH a,m∉bH b:=λm hm hb=>by
  obtain⟨o,ho⟩:=dR.1 hm
  have:=y.fresh m hb
  rw[x.tO _ ho]at this;cases this
 refine⟨?_,?_,?_,?_⟩
 ·rw[mX]
  exact aMM.2 ⟨x.nodup,y.nodup,λp hp q hq e=>dis p hp (e▸hq)⟩
 ·intro m hm
  rw[mX,pJ]at hm
  by_cases hb:m∈bH a
  ·exact x.fresh m hb
  ·rcases hm with hm|hm
   ·exact absurd hm hb
   ·rw[←x.upto m hb];exact y.fresh m hm
 ·intro p hp
  rcases pJ.1 hp with hp|hp
  ·have:p.1∈bH a:=dR.2 ⟨p.2,hp⟩
   rw[y.upto p.1 (dis _ this)];exact x.tO p hp
  ·exact y.tO p hp
 ·intro m hm
  rw[mX,pJ]at hm
  rw[y.upto m λq=>hm (.inr q),x.upto m λq=>hm (.inl q)]
theorem gB.perm {h h':aE} {a b:List (Nat×bE)} (x:gB h a h') (p:a.Perm b):gB h b h' :=
 ⟨(p.map _).nodup_iff.1 x.nodup,λm hm=>x.fresh m (((p.map (·.1)).mem_iff).2 hm),λq hq=>x.tO q (p.mem_iff.2 hq),λm hm=>x.upto m λq=>hm (((p.map (·.1)).mem_iff).1 q)⟩
theorem gB.set {h h':aE} {n:Nat} {o o':bE} {l:List (Nat×bE)} (x:gB h ((n,o)::l) h'):gB h ((n,o')::l) (aR h' n o'):=by
 have hnd:=x.nodup
 have hn:n∉bH l:=by
  have:(bH ((n,o)::l)).Nodup:=hnd
  simp only[bH,nZ,aMN]at this
  exact this.1
 refine⟨hnd,x.fresh,?_,λm hm=>?_⟩
 ·intro p hp
  rcases pY.1 hp with rfl|hp
  ·exact aM _ _ _
  ·have:p.1≠n:=λe=>hn (e▸dR.2 ⟨p.2,hp⟩)
   rw[aI _ _ _ _ this];exact x.tO p (w6 _ hp)
 ·have:m≠n:=λe=>hm (by subst e;simp[bH])
  rw[aI _ _ _ _ this];exact x.upto m hm
def uX (h:aE) (S:List Nat):aE:=λm=>if m∈S then none else h m
theorem bEX (h:aE) (S:List Nat):(uX h S).le h:=λm=>by
 by_cases e:m∈S
 ·exact .inl (if_pos e)
 ·exact .inr (if_neg e)
theorem gB.drop {h h':aE} {a b:List (Nat×bE)} (x:gB h (a++b) h'):gB h b (uX h' (bH a)):=by
 have hnd:=x.nodup
 rw[mX]at hnd
 obtain⟨_,nb,dis⟩:=aMM.1 hnd
 refine⟨nb,λm hm=>x.fresh m (by rw[mX];exact aD5 _ hm),λp hp=>?_,λm hm=>?_⟩
 ·have:p.1∉bH a:=λq=>dis _ q _ (dR.2 ⟨p.2,hp⟩) rfl
  simp only[uX,if_neg this]
  exact x.tO p (aD5 _ hp)
 ·by_cases e:m∈bH a
  ·simp only[uX,if_pos e]
   exact(x.fresh m (by rw[mX];exact aLF _ e)).symm
  ·simp only[uX,if_neg e]
   exact x.upto m (by rw[mX];simp[e,hm])
theorem aZ9 {P:Program} {f:FuncId} {args:List aH} {r:aH} {K:aH->aE->Prop} (h:aE) (a:jC P f args h K)
  (hk:∀ r' h',K r' h'->∃ l,gB h l h'/\∀ E w v,Rel E h' w->gC E h' w r' v->gC E (jL h' (bH l)) w r v):jC P f args h λr' h'=>r'=r/\h'=h :=
 ⟨a.1,λE w vs R hv=>Calls.mono (a.2 E w vs R hv) λe w' he=>by
  cases e <;> try exact he
  obtain⟨r',h',E',k,ev,R',rx⟩:=he
  obtain⟨l,nw,hr⟩:=hk r' h' k
  have hle:h.le (jL h' (bH l)):=λm=>by
   by_cases e:m∈bH l
   ·exact .inl (nw.fresh m e)
   ·rw[iL e,nw.upto m e];exact .inr rfl
  refine⟨r,h,E',⟨rfl,rfl⟩,ev.trans ((Ev.jL _).forget hle),(R'.jL _).forget hle,?_⟩
  refine gC.sB (λb hb=>qK.le hle hb) (hr E' w' _ R' rx)⟩
theorem fD.aGY {E:Env} {h:aE} {w:World} (R:Rel E h w) {S:List Nat}:∀ (e:List OV) (vs:List Value),xH h (OV.cJ e)->(∀ p∈OV.cJ e,p.1∈S)->fD E h w (e.map OV.val) vs->fD E (jL h S) w (e.map OV.pU) vs
 | [],[],_,_,_=>trivial
 |x::e,v::vs,ho,hS,hr=>⟨gC.aGY R x (λp hp=>ho p a6O) (λp hp=>hS p a6O) v hr.1,
   fD.aGY R e vs (λp hp=>ho p a6N) (λp hp=>hS p a6N) hr.2⟩
 | [],_::_,_,_,hr=>hr.elim
 | _::_,[],_,_,hr=>hr.elim
theorem gC.aP1 {E:Env} {h:aE} {w:World} (R:Rel E h w) {S:List Nat} (e:List OV) (v:Value) (ho:xH h (OV.cJ e)) (hS:∀ p∈OV.cJ e,p.1∈S) (hr:gC E h w (.agg (e.map OV.val)) v):gC E (jL h S) w (.agg (e.map OV.pU)) v:=by
 cases hr with
 |agg _ vs hl hr =>
  have:=fD.aGY R e vs ho hS (fD.mk hl hr)
  exact .agg _ vs this.length this.get
theorem aP2 {α:Type} {c:α->aH} {x:α} {e:List OV} (h:oP c x e):e.map OV.pU=[c x]:=by
 unfold oP at h;subst h;rfl
structure aL5 (h:aE) (T:List Nat) (l:List (Nat×bE)) (h':aE):Prop where
 nodup:(T++bH l).Nodup
 fresh:∀ m∈T++bH l,h m=none
 there:∀ m∈T,h' m≠none
 tO:xH h' l
 upto:bSR (T++bH l) h h'
theorem aL5.b0M {h h':aE} {l:List (Nat×bE)} (x:aL5 h [] l h'):gB h l h':=⟨x.nodup,x.fresh,x.tO,x.upto⟩
theorem gB.toT {h h':aE} {l:List (Nat×bE)} (x:gB h l h'):aL5 h [] l h':=⟨x.nodup,x.fresh,by simp,x.tO,x.upto⟩
theorem aL5.drop {h h':aE} {T:List Nat} {l:List (Nat×bE)} (x:aL5 h T l h'):gB h l (uX h' T):=by
 obtain⟨_,nb,dis⟩:=aMM.1 x.nodup
 refine⟨nb,λm hm=>x.fresh m (aD5 _ hm),λp hp=>?_,λm hm=>?_⟩
 ·have:p.1∉T:=λq=>dis _ q _ (dR.2 ⟨p.2,hp⟩) rfl
  simp only[uX,if_neg this]
  exact x.tO p hp
 ·by_cases e:m∈T
  ·simp only[uX,if_pos e]
   exact(x.fresh m (aLF _ e)).symm
  ·simp only[uX,if_neg e]
   exact x.upto m (by simp[e,hm])
theorem aL5.some {h h':aE} {T:List Nat} {l:List (Nat×bE)} (x:aL5 h T l h') {m:Nat} (hm:m∈T++bH l):h' m≠none:=by
 rcases pJ.1 hm with hm|hm
 ·exact x.there m hm
 ·obtain⟨o,ho⟩:=dR.1 hm
  rw[x.tO _ ho];simp
theorem aL5.row {h h':aE} {T:List Nat} {l:List (Nat×bE)} (x:aL5 h T l h') {n:Nat} {o:bE} (hn:h' n=none):aL5 h T ((n,o)::l) (aR h' n o):=by
 have hn1:n∉T++bH l:=λq=>x.some q hn
 have nd:=aMM.1 x.nodup
 refine⟨aMM.2 ⟨nd.1,?_,?_⟩,?_,?_,λp hp=>?_,λm hm=>?_⟩
 ·show(n::bH l).Nodup
  exact aMN.2 ⟨λq=>hn1 (aD5 _ q),nd.2.1⟩
 ·intro a ha b hb e
  have hb':b∈n::bH l:=hb
  rcases pY.1 hb' with rfl|hb'
  ·exact hn1 (e▸aLF _ ha)
  ·exact nd.2.2 a ha b hb' e
 ·intro m hm
  rcases pJ.1 hm with hm|hm
  ·exact x.fresh m (aLF _ hm)
  ·have hm':m∈n::bH l:=hm
   rcases pY.1 hm' with rfl|hm'
   ·rw[←x.upto m hn1];exact hn
   ·exact x.fresh m (aD5 _ hm')
 ·intro m hm
  have:m≠n:=λe=>hn1 (e▸aLF _ hm)
  rw[aI _ _ _ _ this];exact x.there m hm
 ·rcases pY.1 hp with rfl|hp
  ·exact aM _ _ _
  ·have:p.1≠n:=λe=>hn1 (e▸aD5 _ (dR.2 ⟨p.2,hp⟩))
   rw[aI _ _ _ _ this];exact x.tO p hp
 ·have h1:m≠n:=λe=>hm (e▸aD5 _ aHC)
  rw[aI _ _ _ _ h1]
  refine x.upto m λq=>hm ?_
  rcases pJ.1 q with q|q
  ·exact aLF _ q
  ·exact aD5 _ (w6 _ q)
theorem gB.keep {h h':aE} {l:List (Nat×bE)} (x:gB h l h') {n:Nat} {o:bE} (hn:h n=some o):h' n=some o:=by
 rw[x.upto n λq=>by rw[x.fresh n q]at hn;cases hn];exact hn
theorem aL5.set {h h':aE} {T:List Nat} {n:Nat} {o o':bE} {l:List (Nat×bE)} (x:aL5 h T ((n,o)::l) h'):aL5 h T ((n,o')::l) (aR h' n o'):=by
 have nd:=aMM.1 x.nodup
 have nd2:(n::bH l).Nodup:=nd.2.1
 refine⟨x.nodup,x.fresh,λm hm=>?_,λp hp=>?_,λm hm=>?_⟩
 ·by_cases e:m=n
  ·subst e;simp
  ·rw[aI _ _ _ _ e];exact x.there m hm
 ·rcases pY.1 hp with rfl|hp
  ·exact aM _ _ _
  ·have:p.1≠n:=λe=>(aMN.1 nd2).1 (e▸dR.2 ⟨p.2,hp⟩)
   rw[aI _ _ _ _ this];exact x.tO p (w6 _ hp)
 ·have h1:m≠n:=λe=>hm (e▸aD5 _ aHC)
  rw[aI _ _ _ _ h1];exact x.upto m hm
theorem aP3 {α:Type} {c:α->aH}:∀ (l:List α),OR (oP c) l (l.map λx=>[.v (c x)])
 | []=>trivial
 |x::l=>⟨rfl,aP3 l⟩
theorem kG {α:Type} (c:α->aH) (l:List α):OV.cells (l.map λx=>[OV.v (c x)])=(l.map λx=>[c x]).map (List.map .v):=by
 simp[OV.cells,OV.val]
theorem l3 {α:Type} (c:α->aH):∀ (l:List α),OV.bF (l.map λx=>[OV.v (c x)])=[]
 | []=>rfl
 |x::l=>by rw[nZ,OV.bF,l3 c l];rfl
theorem OV.jB (x:aH):(OV.v x).val=x:=rfl
theorem OS.flat {α:Type} {R:α->List OV->Prop} {sz:Nat} {l:List α} {y:OV} (h:OS R sz l y):y.val.flat=true:=by
 rcases h with⟨rfl,_⟩|⟨n,es,rfl,_⟩ <;> rfl
theorem OS.one {α:Type} {R:α->List OV->Prop} {sz:Nat} {l:List α} {y:OV} (h:OS R sz l y):y.val.cells=[y.val]:=by
 rcases h with⟨rfl,_⟩|⟨n,es,rfl,_⟩ <;> rfl
theorem aSS (es:List (List OV)) (e:List OV):OV.bF (es++[e])=OV.bF es++OV.cJ e:=by
 rw[OV.pL];simp only[OV.bF,dT]
def uT (P:Program) (f:FuncId) (args:List aH) (Q:aH->List (Nat×bE)->Prop):Prop:=∀ h:aE,jC P f args h λr h'=>∃ l,Q r l/\gB h l h'
theorem gB.under {g h':aE} {n:Nat} {o:bE} {l:List (Nat×bE)} (hg:g n=none) (x:gB (aR g n o) l h'):∃ g',h'=aR g' n o/\gB g l g'/\g' n=none:=by
 have hn:n∉bH l:=λq=>by have:=x.fresh n q;simp at this
 have hk:h' n=some o:=x.keep (aM _ _ _)
 refine⟨uX h' [n],?_,⟨x.nodup,λm hm=>?_,λp hp=>?_,λm hm=>?_⟩,by simp[uX]⟩
 ·funext m
  by_cases e:m=n
  ·subst e;rw[aM,hk]
  ·rw[aI _ _ _ _ e];simp[uX,e]
 ·have e:m≠n:=λe=>hn (e▸hm)
  have:=x.fresh m hm
  rwa [aI _ _ _ _ e]at this
 ·have e:p.1≠n:=λe=>hn (e▸dR.2 ⟨p.2,hp⟩)
  have:uX h' [n] p.1=h' p.1:=by simp[uX,e]
  rw[this];exact x.tO p hp
 ·by_cases e:m=n
  ·subst e;rw[hg];simp[uX]
  ·have:uX h' [n] m=h' m:=by simp[uX,e]
   rw[this,x.upto m hm,aI _ _ _ _ e]
theorem gB.aHN {g h':aE} {n m:Nat} {x y:bE} {l:List (Nat×bE)} (hn:g n=none) (hm:aR g n x m=none) (q:gB (aR (aR g n x) m y) l h'):∃ g',h'=aR (aR g' n x) m y/\gB g l g'/\g' n=none/\aR g' n x m=none:=by
 obtain⟨g1,rfl,q1,h1⟩:=q.under hm
 obtain⟨g2,rfl,q2,h2⟩:=q1.under hn
 exact⟨g2,rfl,q2,h2,h1⟩
theorem gB.aVY {g h':aE} {n m k:Nat} {x y z:bE} {l:List (Nat×bE)} (hn:g n=none) (hm:aR g n x m=none) (hk:aR (aR g n x) m y k=none) (q:gB (aR (aR (aR g n x) m y) k z) l h') :
  ∃ g',h'=aR (aR (aR g' n x) m y) k z/\gB g l g'/\g' n=none/\aR g' n x m=none/\aR (aR g' n x) m y k=none:=by
 obtain⟨g1,rfl,q1,h1⟩:=q.under hk
 obtain⟨g2,rfl,q2,h2,h3⟩:=q1.aHN hn hm
 exact⟨g2,rfl,q2,h2,h3,h1⟩
section
variable {P:Program} {f:FuncId} {args:List aH} {Q:aH->List (Nat×bE)->Prop} {K:aH->aE->Prop} {t:Tag K}
end
theorem b8F {P:Program} {f:FuncId} {fn:Func} {c:Code} (N:Nat) (keep ib:List Nat) (mk:Marks) {args:List aH} {Q:aH->List (Nat×bE)->Prop} (hmix:P.follows .mixedOrders=true) (hf:P.funcs[f]?=some fn) (hb:fn.body=some c)
  (hck:(kC P f && decide (fn.ntmps=N) && iV N mk c)=true) (hl:args.length<=N)
  (hw:∀ h,qH P N keep ib mk c (λτ h'=>oD P fn.results (λr h'=>∃ r1 g l,Shift r h' r1 g/\Q r1 l/\gB h l g) () .normal τ h') (oD P fn.results (λr h'=>∃ r1 g l,Shift r h' r1 g/\Q r1 l/\gB h l g) ()) (sC 0 args) h ()):uT P f args Q:=by
 intro h
 have h1:jC P f args h (λr h'=>∃ r1 g l,Shift r h' r1 g/\Q r1 l/\gB h l g) :=
  jC.mono (b0K (K:=λr h'=>∃ r1 g l,Shift r h' r1 g/\Q r1 l/\gB h l g) N keep ib mk hmix hf hb hck hl (by
   have:=hw h
   refine Eq.mp ?_ this
   have e:(λr h'=>∃ r1 g l,Shift r h' r1 g/\Q r1 l/\gB h l g)=(λr h'=>∃ g':aE,g'.le h'/\∃ r1 g l,Shift r g' r1 g/\Q r1 l/\gB h l g):=by
    funext r h'
    refine propext ⟨λ⟨r1,g,l,s,q⟩=>⟨h',aE.le_refl _,r1,g,l,s,q⟩,λ⟨g',hl,r1,g,l,s,q⟩=>⟨r1,g,l,(Shift.of (Sub.refl _) hl).trans s,q⟩⟩
   rw[e])) λr h' q=>q
 exact yH (fn:=fn) (c:=c) (N:=N) h1 λr h' ⟨r1,g,l,s,q,n⟩=>⟨r1,g,s,l,q,n⟩
theorem uT.cU {P:Program} {f:FuncId} {args:List aH} {Q:aH->List (Nat×bE)->Prop} {r:aH} (a:uT P f args Q)
  (hk:∀ r' l,Q r' l->∀ E w v h',xH h' l->Rel E h' w->gC E h' w r' v->gC E (jL h' (bH l)) w r v):fM P f args r:=λh =>
 aZ9 h (a h) λr' h' ⟨l,q,hn⟩=>⟨l,hn,λE w v R rx=>hk r' l q E w v h' hn.tO R rx⟩
theorem uT.mono {P:Program} {f:FuncId} {args:List aH} {Q Q':aH->List (Nat×bE)->Prop} (a:uT P f args Q) (hq:∀ r l,Q r l->Q' r l):uT P f args Q':=λh =>
 (a h).mono λr h' ⟨l,q,n⟩=>⟨l,hq r l q,n⟩
theorem uT.sub {P:Program} {f:FuncId} {xs ys:List aH} {Q:aH->List (Nat×bE)->Prop} (s:qV xs ys) (a:uT P f ys Q):uT P f xs Q:=λh=>jC.sub s (a h)
def uY (h:aE):aE:=λm=>(h m).map λ_=>.gone
theorem aCJ {h:aE} {m:Nat} {o:bE} (ho:uY h m=some o):o=.gone:=by
 simp only[uY,u5]at ho
 obtain⟨_,_,rfl⟩:=ho;rfl
theorem aBB {E:Env} {h:aE} {w:World} {b:Nat} (hb:b<w.heap.size):qK E (uY h) w b:=⟨hb,λm o hm ho=>by rw[aCJ hm]at ho;exact ho.elim⟩
theorem Rel.uY {E:Env} {h:aE} {w:World} (R:Rel E h w):Rel E (uY h) w:=by
 refine⟨R.fin,λm hm=>R.dom m λq=>hm (by simp[Hl.uY,q]),?_,?_,?_,R.laid.sB λb hb=>aBB hb.1⟩
 ·intro m o b hm ho;rw[aCJ hm]at ho;exact ho.elim
 ·intro m o m' o' b hm ho;rw[aCJ hm]at ho;exact ho.elim
 ·intro m o hm;rw[aCJ hm];trivial
theorem jC.bP7 {P:Program} {f:FuncId} {args args':List aH} {h:aE} {K:aH->aE->Prop} {K':aH->List (Nat×bE)->Prop}
  (hview:∀ E w vs,Rel E h w->fD E h w args vs->fD E (uY h) w args' vs) (a:jC P f args' (uY h) K)
  (hK:∀ r h',K r h'->∃ l,K' r l/\gB (uY h) l h'/\r.jM=true/\∀ p∈l,p.2.jM=true) :
  jC P f args h λr h'=>∃ l,K' r l/\gB h l h':=by
 refine⟨a.1,λE w vs R hv=>Calls.mono (a.2 E w vs R.uY (hview E w vs R hv)) λe w' he=>?_⟩
 cases e <;> try exact he
 obtain⟨r,h',E',k,ev,R',rx⟩:=he
 obtain⟨l,k',nw,hr,hsol⟩:=hK r h' k
 have hnew:∀ m∈bH l,h m=none:=λm hm=>by
  have:=nw.fresh m hm
  simpa[uY]using this
 let h2:aE:=λm=>if m∈bH l then h' m else h m
 have e1:∀ m,m∈bH l->h2 m=h' m:=λm hm=>if_pos hm
 have e2:∀ m,m∉bH l->h2 m=h m:=λm hm=>if_neg hm
 let E2:Env:={ loc:=E'.loc,fp:=λn=>if n∈bH l then E'.fp n else E.fp n,used:=E'.used }
 have f1:∀ m,m∈bH l->E2.fp m=E'.fp m:=λm hm=>if_pos hm
 have f2:∀ m,m∉bH l->E2.fp m=E.fp m:=λm hm=>if_neg hm
 have a27:∀ b,b<w.heap.size->qK E (uY h) w b:=λb hb=>aBB hb
 have solL:∀ m o,m∈bH l->h' m=some o->o.jM=true:=λm o hm ho=>by
  obtain⟨o',ho'⟩:=dR.1 hm
  have:=nw.tO _ ho'
  rw[ho]at this
  obtain rfl:=gV this
  exact hsol _ ho'
 have evA:Ev E h w E2 h2 w':=by
  refine⟨ev.size,λb hb=>?_,ev.shape,ev.loc,ev.os,ev.out⟩
  have h1:=ev.keep b (a27 b hb.1)
  refine⟨h1.1,h1.2.1,λm o hm ho hf=>?_⟩
  by_cases e:m∈bH l
  ·rw[e1 m e]at hm;rw[f1 m e]at hf;exact h1.2.2 m o hm ho hf
  ·rw[e2 m e]at hm;rw[f2 m e]at hf;exact hb.2 m o hm ho hf
 have R2:Rel E2 h2 w':=by
  refine⟨R'.fin,λm hm=>?_,?_,?_,?_,R.laid.ev evA⟩
  ·by_cases e:m∈bH l
   ·rw[e1 m e]at hm;exact R'.dom m hm
   ·rw[e2 m e]at hm;exact(ev.loc m (R.dom m hm)).2
  ·intro m o b hm ho hf
   by_cases e:m∈bH l
   ·rw[e1 m e]at hm;rw[f1 m e]at hf;exact R'.lt m o b hm ho hf
   ·rw[e2 m e]at hm;rw[f2 m e]at hf;exact bRQ (R.lt m o b hm ho hf) ev.size
  ·intro m o m' o' b hm ho hm' ho' hf hf'
   by_cases e:m∈bH l
   ·rw[e1 m e]at hm;rw[f1 m e]at hf
    by_cases e':m'∈bH l
    ·rw[e1 m' e']at hm';rw[f1 m' e']at hf';exact R'.apart m o m' o' b hm ho hm' ho' hf hf'
    ·rw[e2 m' e']at hm';rw[f2 m' e']at hf'
     exact absurd hf ((ev.keep b (a27 b (R.lt m' o' b hm' ho' hf'))).2.2 m o hm ho)
   ·rw[e2 m e]at hm;rw[f2 m e]at hf
    by_cases e':m'∈bH l
    ·rw[e1 m' e']at hm';rw[f1 m' e']at hf'
     exact absurd hf' ((ev.keep b (a27 b (R.lt m o b hm ho hf))).2.2 m' o' hm' ho')
    ·rw[e2 m' e']at hm';rw[f2 m' e']at hf';exact R.apart m o m' o' b hm ho hm' ho' hf hf'
  ·intro m o hm
   by_cases e:m∈bH l
   ·rw[e1 m e]at hm
    exact aI9.jM (E:=E') (E':=E2) (λn hn=>⟨rfl,hn⟩) (λ_ _=>rfl) rfl (f1 m e) (λ_ _=>rfl) (solL m o e hm) (R'.obj m o hm)
   ·rw[e2 m e]at hm
    cases o with
    |gone=>trivial
    |row sz es=>exact(R.obj m _ hm).ev evA (ev.loc m (R.dom m (by simp[hm]))).1 (f2 m e) λb _ hb=>(ev.keep b (a27 b (R.lt m _ b hm trivial hb))).1
    |abs Q=>exact(R.obj m _ hm).ev evA (ev.loc m (R.dom m (by simp[hm]))).1 (f2 m e) λb _ hb=>(ev.keep b (a27 b (R.lt m _ b hm trivial hb))).1
    |raw t cs=>exact(R.obj m _ hm).ev evA (ev.loc m (R.dom m (by simp[hm]))).1 (f2 m e) λb _ hb=>(ev.keep b (a27 b (R.lt m _ b hm trivial hb))).1
    |map kt et l'=>exact(R.obj m _ hm).ev evA (ev.loc m (R.dom m (by simp[hm]))).1 (f2 m e) λb _ hb=>(ev.keep b (a27 b (R.lt m _ b hm trivial hb))).1
 refine⟨r,h2,E2,⟨l,k',⟨nw.nodup,hnew,λp hp=>?_,λm hm=>e2 m hm⟩⟩,evA,R2,gC.jM (E:=E') (E':=E2) (λn hn=>⟨rfl,hn⟩) (λ_ _=>rfl) rx hr⟩
 rw[e1 p.1 (dR.2 ⟨p.2,hp⟩)];exact nw.tO p hp
def View (h:aE) (x x':aH):Prop:=∀ E w v,Rel E h w->gC E h w x v->gC E (uY h) w x' v
def sD (h:aE):List aH->List aH->Prop
 | [],[]=>True
 |x::xs,y::ys=>View h x y/\sD h xs ys
 | _,_=>False
theorem bSS {E:Env} {h:aE} {w:World} {b:Nat} (i:qK E h w b):qK E (uY h) w b:=aBB i.1
theorem View.same (h:aE) (x:aH):View h x x:=λE w v R r=>r.sB λb i=>bSS i
theorem aP4 {E:Env} {h:aE} {w:World} {S:List Nat}:∀ b,qK E (Hl.jL h S) w b->qK E (uY h) w b:=λb i=>aBB i.1
theorem View.ov {h:aE} (y:OV) (ho:xH h y.rows):View h y.val y.pU:=λE w v R r =>
 (gC.aGY R (S:=bH y.rows) y ho (λp hp=>dR.2 ⟨p.2,hp⟩) v r).sB aP4
theorem View.op {h:aE} {n sz i off:Nat} (es:List (List OV)) (hn:h n=some (.row sz (OV.cells es))) (hne:es≠[]) (ho:xH h (OV.bF es)):View h (.op n sz i off) (.ip sz (OV.nM es) i off):=by
 intro E w v R r
 cases v <;> try(cases r;done)
 cases r with
 |op _ _ _ _ b o hd hl =>
  obtain⟨b',o',hl',hbS,hs,cs,ct,cv,T,hh,hm',hT,hD,hc,hrr⟩:=aEG R hn (.inr ⟨_,hl⟩)
  rw[hl]at hl'
  obtain⟨rfl,rfl⟩:=aU4 (gV hl')
  have hcs:∀ i j y,kA (OV.nM es) i j=some y->∃ c,kA es i j=some c/\y=c.pU/\cs[o+i*sz+j]?=some (cv i j)/\(cv i j).oneCell'=true/\gC E h w c.val (cv i j):=by
   intro i j y hy
   rw[OV.fS,qA]at hy
   obtain⟨c,hc1,rfl⟩:=u5.1 hy
   have hcell:kA (OV.cells es) i j=some (.v c.val):=by rw[OV.cells,qA,hc1];rfl
   have h2:=hrr i j _ hcell
   generalize hcv:cv i j=z at h2
   cases h2 with
   |v x c' S' h1 hx=>exact⟨c,hc1,rfl,hcv▸hc i j _ hcell,h1,hx⟩
  refine .ip sz (OV.nM es) i off b o cv (aBB (R.lt n _ b hn trivial hbS)) ?_ ?_ ?_ ?_
  ·intro e he
   rw[OV.fS,qU]at he
   obtain⟨e',he',rfl⟩:=he
   have:=hs (e'.map λc=>Cell.v c.val) (qU.2 ⟨e',he',rfl⟩)
   simpa using this
  ·intro i j y hy
   obtain⟨c,_,_,h1,_,_⟩:=hcs i j y hy
   simp only[World.cell?,hh]
   rw[←h1]
   simp
  ·intro i j y hy;obtain⟨c,_,_,_,h1,_⟩:=hcs i j y hy;exact h1
  ·intro i j y hy
   obtain⟨c,hc1,rfl,_,_,h1⟩:=hcs i j y hy
   obtain⟨e,he,hj⟩:=lG hc1
   exact(aL3 R (S:=bH (OV.bF es)) es ho (λp hp=>dR.2 ⟨p.2,hp⟩) e (nO he) c (nO hj) _ h1).sB aP4
theorem sD.aZ1 {h:aE}:∀ {xs ys:List aH},sD h xs ys->∀ E w vs,Rel E h w->fD E h w xs vs->fD E (uY h) w ys vs
 | [],[],_,E,w,[],R,r=>trivial
 |x::xs,y::ys,hv,E,w,v::vs,R,r=>⟨hv.1 E w v R r.1,sD.aZ1 hv.2 E w vs R r.2⟩
 | [],[],_,E,w,_::_,R,r=>r.elim
 |x::xs,y::ys,hv,E,w,[],R,r=>r.elim
 | [],_::_,h,_,_,_,_,_=>h.elim
 | _::_,[],h,_,_,_,_,_=>h.elim
theorem sD.nil {h:aE}:sD h [] []:=trivial
theorem sD.cons {h:aE} {x y:aH} {xs ys:List aH} (a:View h x y) (b:sD h xs ys):sD h (x::xs) (y::ys):=⟨a,b⟩
def bEY (Q:aH->List (Nat×bE)->Prop):Prop:=∀ r l,Q r l->r.jM=true/\∀ p∈l,p.2.jM=true
theorem uT.bST {P:Program} {f:FuncId} {args args':List aH} {Q:aH->List (Nat×bE)->Prop} {h:aE} (a:uT P f args' Q) (hv:sD h args args') (hQ:bEY Q):jC P f args h λr h'=>∃ l,Q r l/\gB h l h' :=
 jC.bP7 hv.aZ1 (a (uY h)) λr h' ⟨l,q,n⟩=>⟨l,q,n,(hQ r l q).1,(hQ r l q).2⟩
theorem fM.bST {P:Program} {f:FuncId} {args args':List aH} {r:aH} {h:aE} (a:fM P f args' r) (hv:sD h args args') (hr:r.jM=true):jC P f args h λr' h'=>r'=r/\h'=h :=
 (jC.bP7 (K':=λr' l=>r'=r/\l=[]) hv.aZ1 (a (uY h)) λr' h' ⟨e,e'⟩=>by
  subst e;subst e';exact⟨[],⟨rfl,rfl⟩,.nil _,hr,by simp⟩).mono λr' h' ⟨l,⟨e1,e2⟩,n⟩=>by
  subst e2
  exact⟨e1,funext λm=>n.upto m aHC⟩
section
variable {P:Program} {f:FuncId} {args args':List aH} {Q:aH->List (Nat×bE)->Prop} {K:aH->aE->Prop} {t:Tag K} {g:aE}
theorem aJ.bP8 {r:aH} (a:fM P f args' r) (hv:sD g args args') (hr:r.jM=true) (k:K r g):aJ P f args g K t :=
 aJ.gS (a.bST hv hr) λr' h' ⟨e,e'⟩=>by subst e;subst e';exact k
end
mutual
def OV.sol:OV->Bool
 | .v x=>x.jM
 | .nil _=>true
 | .sl _ _ es=>OV.xI es
def OV.xI:List (List OV)->Bool
 | []=>true
 |e::es=>OV.wP e && OV.xI es
def OV.wP:List OV->Bool
 | []=>true
 |x::e=>x.sol && OV.wP e
end
theorem OV.aTT:∀ {x:OV},x.sol=true->x.val.jM=true
 | .v x,h=>by simpa only[OV.sol,OV.val]using h
 | .nil _,_=>by simp[OV.val,aH.jM]
 | .sl _ _ _,_=>by simp[OV.val,aH.jM]
theorem OV.aP5:∀ (e:List OV),OV.wP e=e.all OV.sol
 | []=>rfl
 |x::e=>by rw[OV.wP,OV.aP5 e];rfl
theorem OV.aM3:∀ (es:List (List OV)),OV.xI es=es.all (λe=>e.all OV.sol)
 | []=>rfl
 |e::es=>by rw[OV.xI,OV.aM3 es,OV.aP5];rfl
theorem OV.a0A {sz:Nat} {es:List (List OV)} (h:OV.xI es=true):(bE.row sz (OV.cells es)).jM=true:=by
 rw[OV.aM3]at h
 simp only[bE.jM,OV.cells,List.all_map,zF,Function.comp_apply]at h ⊢
 intro e he c hc
 exact OV.aTT (h e he c hc)
mutual
theorem OV.aP6:∀ {x:OV},x.sol=true->∀ p∈x.rows,p.2.jM=true
 | .v _,_=>by simp[OV.rows]
 | .nil _,_=>by simp[OV.rows]
 | .sl n sz es,h=>λp hp=>by
  rw[OV.rows]at hp
  rcases pY.1 hp with rfl|hp
  ·exact OV.a0A (by simpa only[OV.sol]using h)
  ·exact OV.aEV (by simpa only[OV.sol]using h) p hp
theorem OV.aEV:∀ {es:List (List OV)},OV.xI es=true->∀ p∈OV.bF es,p.2.jM=true
 | [],_=>by simp[OV.bF]
 |e::es,h=>λp hp=>by
  simp only[OV.xI,oW]at h
  rw[OV.bF]at hp
  rcases pJ.1 hp with hp|hp
  ·exact OV.aGZ h.1 p hp
  ·exact OV.aEV h.2 p hp
theorem OV.aGZ:∀ {e:List OV},OV.wP e=true->∀ p∈OV.cJ e,p.2.jM=true
 | [],_=>by simp[OV.cJ]
 |x::e,h=>λp hp=>by
  simp only[OV.wP,oW]at h
  rw[OV.cJ]at hp
  rcases pJ.1 hp with hp|hp
  ·exact OV.aP6 h.1 p hp
  ·exact OV.aGZ h.2 p hp
end
theorem OR.sol {α:Type} {R:α->List OV->Prop} (hR:∀ x e,R x e->OV.wP e=true):∀ {l:List α} {es:List (List OV)},OR R l es->OV.xI es=true
 | [],[],_=>rfl
 |x::l,e::es,h=>by rw[OV.xI,hR x e h.1,OR.sol hR h.2];rfl
 | [],_::_,h=>h.elim
 | _::_,[],h=>h.elim
theorem OS.sol {α:Type} {R:α->List OV->Prop} {sz:Nat} {l:List α} {y:OV} (hR:∀ x e,R x e->OV.wP e=true) (h:OS R sz l y):y.sol=true:=by
 rcases h with⟨rfl,_⟩|⟨n,es,rfl,h⟩
 ·rfl
 ·simp only[OV.sol];exact h.sol hR
theorem bEZ {α:Type} {c:α->aH} (hc:∀ x,(c x).jM=true) {x:α} {e:List OV} (h:oP c x e):OV.wP e=true:=by
 unfold oP at h;subst h;simp[OV.wP,OV.sol,hc]
theorem aBC {P:Program} {f:FuncId} {fn:Func} {c:Code} (N:Nat) (keep ib:List Nat) (mk:Marks) {args:List aH} {Q:aH->List (Nat×bE)->Prop} (hf:P.funcs[f]?=some fn) (hw:∀ h,qH P N keep ib mk c (λτ h'=>oD P fn.results (λr h'=>∃ r1 g l,Shift r h' r1 g/\Q r1 l/\gB h l g) () .normal τ h') (oD P fn.results (λr h'=>∃ r1 g l,Shift r h' r1 g/\Q r1 l/\gB h l g) ()) (sC 0 args) h ()) (hmix:P.follows .mixedOrders=true:=by exact mix) (hb:fn.body=some c:=by rfl) (hck:(kC P f && decide (fn.ntmps=N) && iV N mk c)=true:=by kernel_rfl) (hl:args.length<=N:=by simp):uT P f args Q :=
 b8F N keep ib mk hmix hf hb hck hl hw
def QS (R:OV->Prop) (w:aH->aH:=λx=>x):aH->List (Nat×bE)->Prop:=λr l=>∃ y,R y/\r=w y.val/\l=y.rows
def QA (R:List OV->Prop) (w:aH->aH:=λx=>x):aH->List (Nat×bE)->Prop:=λr l=>∃ e,R e/\r=w (.agg (e.map OV.val))/\l=OV.cJ e
theorem gB.row {h h':aE} {l:List (Nat×bE)} (x:gB h l h') {n:Nat} {o:bE} (hn:h' n=none):gB h ((n,o)::l) (aR h' n o):=(x.toT.row hn).b0M
theorem QS.jM {R:OV->Prop} {w:aH->aH} (hR:∀ y,R y->y.sol=true) (hw:∀ x:aH,x.jM=true->(w x).jM=true):bEY (QS R w):=λr l ⟨y,hy,e1,e2⟩=>by
 subst e1 e2
 exact⟨hw _ (OV.aTT (hR y hy)),OV.aP6 (hR y hy)⟩
theorem QS.cU {P:Program} {f:FuncId} {args:List aH} {R:OV->Prop} {d:aH} (a:uT P f args (QS R)) (hd:∀ y,R y->y.pU=d):fM P f args d :=
 a.cU λr' l ⟨y,hy,e1,e2⟩ E w v h' ho R rx=>by
  subst e1 e2
  rw[←hd y hy]
  exact gC.aGY R y ho (λp hp=>dR.2 ⟨p.2,hp⟩) v rx
theorem QA.cU {P:Program} {f:FuncId} {args:List aH} {R:List OV->Prop} {d:List aH} (a:uT P f args (QA R)) (hd:∀ e,R e->e.map OV.pU=d):fM P f args (.agg d) :=
 a.cU λr' l ⟨y,hy,e1,e2⟩ E w v h' ho R rx=>by
  subst e1 e2
  rw[←hd y hy]
  exact gC.aP1 R y v ho (λp hp=>dR.2 ⟨p.2,hp⟩) rx
theorem OS.nil {α:Type} {R:α->List OV->Prop} {sz:Nat}:OS R sz [] (.nil sz):=.inl ⟨rfl,rfl⟩
theorem OS.mk {α:Type} {R:α->List OV->Prop} {sz n:Nat} {l:List α} {es:List (List OV)} (h:OR R l es):OS R sz l (.sl n sz es):=.inr ⟨n,es,rfl,h⟩
theorem OV.uE (sz:Nat):(OV.nil sz).rows=[]:=by rw[OV.rows]
theorem OV.sZ (x:aH):(OV.v x).rows=[]:=by rw[OV.rows]
theorem OV.hJ (n sz:Nat) (es:List (List OV)):(OV.sl n sz es).rows=(n,.row sz (OV.cells es))::OV.bF es:=by rw[OV.rows]
theorem OV.gZ:OV.cJ []=[]:=by rw[OV.cJ]
theorem OV.fC (x:OV) (e:List OV):OV.cJ (x::e)=x.rows++OV.cJ e:=by rw[OV.cJ]
theorem OV.bK4 (sz:Nat):(OV.nil sz).val=.sl sz [] true:=rfl
theorem OV.aCK (n sz:Nat) (es:List (List OV)):(OV.sl n sz es).val=.os n sz 0 es.length:=rfl
theorem OV.bS:List.map OV.val []=[]:=rfl
theorem OV.dY (x:OV) (e:List OV):List.map OV.val (x::e)=x.val::e.map OV.val:=rfl
structure Chg (h h':aE) (l l':List (Nat×bE)):Prop where
 names:bH l'=bH l
 tO:xH h' l'
 upto:bSR (bH l) h h'
theorem Chg.trans {h h1 h2:aE} {a b c:List (Nat×bE)} (x:Chg h h1 a b) (y:Chg h1 h2 b c):Chg h h2 a c :=
 ⟨y.names.trans x.names,y.tO,λm hm=>(y.upto m (by rw[x.names];exact hm)).trans (x.upto m hm)⟩
theorem Chg.set {h:aE} {n:Nat} {o o':bE} {l:List (Nat×bE)} (ow:xH h ((n,o)::l)) (nd:(bH ((n,o)::l)).Nodup):Chg h (aR h n o') ((n,o)::l) ((n,o')::l):=by
 have hn:n∉bH l:=(aMN.1 (show(n::bH l).Nodup from nd)).1
 refine⟨rfl,λp hp=>?_,λm hm=>?_⟩
 ·rcases pY.1 hp with rfl|hp
  ·exact aM _ _ _
  ·have:p.1≠n:=λe=>hn (e▸dR.2 ⟨p.2,hp⟩)
   rw[aI _ _ _ _ this];exact ow p (w6 _ hp)
 ·have:m≠n:=λe=>hm (by rw[e];exact x6)
  exact aI _ _ _ _ this
theorem xJ (a b:List (List OV)):OV.cells (a++b)=OV.cells a++OV.cells b:=by simp[OV.cells]
theorem a2O (x:OV) (e:List OV):((x::e).map λc=>Cell.v c.val)=.v x.val::e.map λc=>Cell.v c.val:=rfl
theorem bA3:(([]:List OV).map λc=>Cell.v c.val)=[]:=rfl
theorem aSU (e:List OV) (b:List (List OV)):OV.bF (e::b)=OV.cJ e++OV.bF b:=by rw[OV.bF]
theorem xH.up {g:aE} {l:List (Nat×bE)} {n:Nat} {o:bE} (ow:xH g l) (hn:g n=none):xH (aR g n o) l:=λp hp=>by
 have:p.1≠n:=λe=>by have:=ow p hp;rw[e,hn]at this;cases this
 rw[aI _ _ _ _ this];exact ow p hp
theorem gB.un0 {g h':aE} {l:List (Nat×bE)}  (x:gB g l h'):∃ g',h'=g'/\gB g l g':=by
 exact⟨h',rfl,x⟩
theorem aJ.wn0 {P:Program} {f:FuncId} {args:List aH} {Q:aH->List (Nat×bE)->Prop} {K:aH->aE->Prop} {t:Tag K} {g:aE} (a:uT P f args Q)  (k:∀ r l g',Q r l->gB g l g'->K r g'):aJ P f args g K t :=
 aJ.gS (a _) λr h' ⟨l,q,hq⟩=>by
  obtain⟨g',e0,q2⟩:=hq.un0;subst e0
  exact k r l _ q q2
theorem gB.un1 {g h':aE} {n0:Nat} {o0:bE} {l:List (Nat×bE)} (h0:g n0=none) (x:gB (aR g n0 o0) l h'):∃ g',h'=(aR g' n0 o0)/\gB g l g'/\g' n0=none:=by
 exact x.under h0
theorem aJ.wn1 {P:Program} {f:FuncId} {args:List aH} {Q:aH->List (Nat×bE)->Prop} {K:aH->aE->Prop} {t:Tag K} {g:aE} {n0:Nat} {o0:bE} (a:uT P f args Q) (h0:g n0=none) (k:∀ r l g',Q r l->gB g l g'->g' n0=none->K r (aR g' n0 o0)):aJ P f args (aR g n0 o0) K t :=
 aJ.gS (a _) λr h' ⟨l,q,hq⟩=>by
  obtain⟨g',rfl,q2,z0⟩:=hq.un1 h0
  exact k r l _ q q2 z0
theorem gB.un2 {g h':aE} {n0:Nat} {o0:bE} {n1:Nat} {o1:bE} {l:List (Nat×bE)} (h0:g n0=none) (h1:n1≠n0/\g n1=none) (x:gB (aR (aR g n0 o0) n1 o1) l h'):∃ g',h'=(aR (aR g' n0 o0) n1 o1)/\gB g l g'/\g' n0=none/\g' n1=none:=by
 obtain⟨g1,rfl,x1,q1⟩:=x.under (by simp only[r9];exact h1)
 obtain⟨g2,rfl,x2,z0⟩:=gB.un1 h0 x1
 refine⟨g2,rfl,x2,z0,?_⟩
 simp only[r9]at q1
 exact q1.2
theorem aJ.wn2 {P:Program} {f:FuncId} {args:List aH} {Q:aH->List (Nat×bE)->Prop} {K:aH->aE->Prop} {t:Tag K} {g:aE} {n0:Nat} {o0:bE} {n1:Nat} {o1:bE} (a:uT P f args Q) (h0:g n0=none) (h1:n1≠n0/\g n1=none) (k:∀ r l g',Q r l->gB g l g'->g' n0=none->g' n1=none->K r (aR (aR g' n0 o0) n1 o1)):aJ P f args (aR (aR g n0 o0) n1 o1) K t :=
 aJ.gS (a _) λr h' ⟨l,q,hq⟩=>by
  obtain⟨g',rfl,q2,z0,z1⟩:=hq.un2 h0 h1
  exact k r l _ q q2 z0 z1
theorem gB.un3 {g h':aE} {n0:Nat} {o0:bE} {n1:Nat} {o1:bE} {n2:Nat} {o2:bE} {l:List (Nat×bE)} (h0:g n0=none) (h1:n1≠n0/\g n1=none) (h2:n2≠n1/\n2≠n0/\g n2=none) (x:gB (aR (aR (aR g n0 o0) n1 o1) n2 o2) l h'):∃ g',h'=(aR (aR (aR g' n0 o0) n1 o1) n2 o2)/\gB g l g'/\g' n0=none/\g' n1=none/\g' n2=none:=by
 obtain⟨g1,rfl,x1,q1⟩:=x.under (by simp only[r9];exact h2)
 obtain⟨g2,rfl,x2,z0,z1⟩:=gB.un2 h0 h1 x1
 refine⟨g2,rfl,x2,z0,z1,?_⟩
 simp only[r9]at q1
 exact q1.2.2
theorem aJ.wn3 {P:Program} {f:FuncId} {args:List aH} {Q:aH->List (Nat×bE)->Prop} {K:aH->aE->Prop} {t:Tag K} {g:aE} {n0:Nat} {o0:bE} {n1:Nat} {o1:bE} {n2:Nat} {o2:bE} (a:uT P f args Q) (h0:g n0=none) (h1:n1≠n0/\g n1=none) (h2:n2≠n1/\n2≠n0/\g n2=none) (k:∀ r l g',Q r l->gB g l g'->g' n0=none->g' n1=none->g' n2=none->K r (aR (aR (aR g' n0 o0) n1 o1) n2 o2)):aJ P f args (aR (aR (aR g n0 o0) n1 o1) n2 o2) K t :=
 aJ.gS (a _) λr h' ⟨l,q,hq⟩=>by
  obtain⟨g',rfl,q2,z0,z1,z2⟩:=hq.un3 h0 h1 h2
  exact k r l _ q q2 z0 z1 z2
theorem gB.un4 {g h':aE} {n0:Nat} {o0:bE} {n1:Nat} {o1:bE} {n2:Nat} {o2:bE} {n3:Nat} {o3:bE} {l:List (Nat×bE)} (h0:g n0=none) (h1:n1≠n0/\g n1=none) (h2:n2≠n1/\n2≠n0/\g n2=none) (h3:n3≠n2/\n3≠n1/\n3≠n0/\g n3=none) (x:gB (aR (aR (aR (aR g n0 o0) n1 o1) n2 o2) n3 o3) l h'):∃ g',h'=(aR (aR (aR (aR g' n0 o0) n1 o1) n2 o2) n3 o3)/\gB g l g'/\g' n0=none/\g' n1=none/\g' n2=none/\g' n3=none:=by
 obtain⟨g1,rfl,x1,q1⟩:=x.under (by simp only[r9];exact h3)
 obtain⟨g2,rfl,x2,z0,z1,z2⟩:=gB.un3 h0 h1 h2 x1
 refine⟨g2,rfl,x2,z0,z1,z2,?_⟩
 simp only[r9]at q1
 exact q1.2.2.2
theorem aJ.wn4 {P:Program} {f:FuncId} {args:List aH} {Q:aH->List (Nat×bE)->Prop} {K:aH->aE->Prop} {t:Tag K} {g:aE} {n0:Nat} {o0:bE} {n1:Nat} {o1:bE} {n2:Nat} {o2:bE} {n3:Nat} {o3:bE} (a:uT P f args Q) (h0:g n0=none) (h1:n1≠n0/\g n1=none) (h2:n2≠n1/\n2≠n0/\g n2=none) (h3:n3≠n2/\n3≠n1/\n3≠n0/\g n3=none) (k:∀ r l g',Q r l->gB g l g'->g' n0=none->g' n1=none->g' n2=none->g' n3=none->K r (aR (aR (aR (aR g' n0 o0) n1 o1) n2 o2) n3 o3)):aJ P f args (aR (aR (aR (aR g n0 o0) n1 o1) n2 o2) n3 o3) K t :=
 aJ.gS (a _) λr h' ⟨l,q,hq⟩=>by
  obtain⟨g',rfl,q2,z0,z1,z2,z3⟩:=hq.un4 h0 h1 h2 h3
  exact k r l _ q q2 z0 z1 z2 z3
theorem gB.un5 {g h':aE} {n0:Nat} {o0:bE} {n1:Nat} {o1:bE} {n2:Nat} {o2:bE} {n3:Nat} {o3:bE} {n4:Nat} {o4:bE} {l:List (Nat×bE)} (h0:g n0=none) (h1:n1≠n0/\g n1=none) (h2:n2≠n1/\n2≠n0/\g n2=none) (h3:n3≠n2/\n3≠n1/\n3≠n0/\g n3=none) (h4:n4≠n3/\n4≠n2/\n4≠n1/\n4≠n0/\g n4=none) (x:gB (aR (aR (aR (aR (aR g n0 o0) n1 o1) n2 o2) n3 o3) n4 o4) l h'):∃ g',h'=(aR (aR (aR (aR (aR g' n0 o0) n1 o1) n2 o2) n3 o3) n4 o4)/\gB g l g'/\g' n0=none/\g' n1=none/\g' n2=none/\g' n3=none/\g' n4=none:=by
 obtain⟨g1,rfl,x1,q1⟩:=x.under (by simp only[r9];exact h4)
 obtain⟨g2,rfl,x2,z0,z1,z2,z3⟩:=gB.un4 h0 h1 h2 h3 x1
 refine⟨g2,rfl,x2,z0,z1,z2,z3,?_⟩
 simp only[r9]at q1
 exact q1.2.2.2.2
theorem aJ.wn5 {P:Program} {f:FuncId} {args:List aH} {Q:aH->List (Nat×bE)->Prop} {K:aH->aE->Prop} {t:Tag K} {g:aE} {n0:Nat} {o0:bE} {n1:Nat} {o1:bE} {n2:Nat} {o2:bE} {n3:Nat} {o3:bE} {n4:Nat} {o4:bE} (a:uT P f args Q) (h0:g n0=none) (h1:n1≠n0/\g n1=none) (h2:n2≠n1/\n2≠n0/\g n2=none) (h3:n3≠n2/\n3≠n1/\n3≠n0/\g n3=none) (h4:n4≠n3/\n4≠n2/\n4≠n1/\n4≠n0/\g n4=none) (k:∀ r l g',Q r l->gB g l g'->g' n0=none->g' n1=none->g' n2=none->g' n3=none->g' n4=none->K r (aR (aR (aR (aR (aR g' n0 o0) n1 o1) n2 o2) n3 o3) n4 o4)):aJ P f args (aR (aR (aR (aR (aR g n0 o0) n1 o1) n2 o2) n3 o3) n4 o4) K t :=
 aJ.gS (a _) λr h' ⟨l,q,hq⟩=>by
  obtain⟨g',rfl,q2,z0,z1,z2,z3,z4⟩:=hq.un5 h0 h1 h2 h3 h4
  exact k r l _ q q2 z0 z1 z2 z3 z4
def a29 (w:aH->aH):Prop:=∀ (E:Env) (h g:aE) (W:World) (x y:aH) (v:Value),(∀ b,qK E h W b->qK E g W b)->(∀ u,gC E h W x u->gC E g W y u)->gC E h W (w x) v->gC E g W (w y) v
theorem fD.hole {E:Env} {h g:aE} {W:World} {x y:aH} (hi:∀ b,qK E h W b->qK E g W b) (hr:∀ u,gC E h W x u->gC E g W y u):∀ (a b:List aH) (vs:List Value),fD E h W (a++x::b) vs->fD E g W (a++y::b) vs
 | [],b,v::vs,r=>⟨hr v r.1,fD.sB hi r.2⟩
 |z::a,b,v::vs,r=>⟨r.1.sB hi,fD.hole hi hr a b vs r.2⟩
 | [],b,[],r=>r.elim
 |z::a,b,[],r=>r.elim
theorem aEW (a b:List aH):a29 λx=>.jO (a++x::b):=λE h g W x y v hi hr r=>by
 generalize hc:a++x::b=cs at r
 cases r with
 |jO _ vs hl hrr =>
  subst hc
  have:=fD.hole hi hr a b vs (fD.mk hl hrr)
  exact .jO _ vs this.length this.get
theorem QS.b0N {P:Program} {f:FuncId} {args:List aH} {R:OV->Prop} {w:aH->aH} {d:aH} (a:uT P f args (QS R w)) (hd:∀ y,R y->y.pU=d) (hw:a29 w):fM P f args (w d) :=
 a.cU λr' l ⟨y,hy,e1,e2⟩ E W v h' ho R' rx=>by
  subst e1 e2
  rw[←hd y hy]
  exact hw E h' _ W y.val y.pU v (λb=>tJ _ b) (λu ru=>gC.aGY R' y ho (λp hp=>dR.2 ⟨p.2,hp⟩) u ru) rx
def iO (sz len:Nat):Option Nat->aH
 |none=>.sl sz [] true
 |some n=>.os n sz 0 len
def bY (h:aE) (o:bE):Option Nat->aE
 |none=>h
 |some n=>aR h n o
theorem bM (sz len:Nat):iO sz len none=.sl sz [] true:=rfl
theorem bC (sz len n:Nat):iO sz len (some n)=.os n sz 0 len:=rfl
theorem aQ (h:aE) (o:bE):bY h o none=h:=rfl
theorem aK (h:aE) (o:bE) (n:Nat):bY h o (some n)=aR h n o:=rfl
theorem qM {h:aE} {n b:Nat} {o r:bE} (hn:h n=none):(aR h b r).le (aR (aR (aR h n o) n .gone) b r):=λm=>by
 by_cases e:m=b
 ·subst e;right;simp
 ·rw[aI _ _ _ _ e,aI _ _ _ _ e]
  by_cases e2:m=n
  ·subst e2;exact .inl hn
  ·right;rw[aI _ _ _ _ e2,aI _ _ _ _ e2]
def fT {α:Type} (h:aE) (l:List α):Option Nat->Prop
 |none=>l=[]
 |some n=>h n=none
theorem aZ {α:Type} (h:aE) (l:List α):fT h l none=(l=[]):=rfl
theorem aV {α:Type} (h:aE) (l:List α) (n:Nat):fT h l (some n)=(h n=none):=rfl
theorem jD {α:Type} (c:α->aH) (l:List α) (x:α):List.take l.length ((l.map λx=>[c x]).map (List.map Cell.v))++[[Cell.v (c x)]]=((l++[x]).map λx=>[c x]).map (List.map .v):=by
 rw[pQ cT]
 simp
theorem uT.gX {P:Program} {f:FuncId} {args:List aH} {R:List OV->Prop} {d:List aH} (a:uT P f args (QA R)) (hd:∀ e,R e->e.map OV.pU=d):fM P f args (.agg d):=QA.cU a hd
theorem View.ovD {h:aE} {d:aH} (y:OV) (hd:y.pU=d) (ho:xH h y.rows):View h y.val d:=hd▸View.ov y ho
theorem a7M {α:Type} {c:α->aH} {l:List α} {sz:Nat} {h:aE} (e:(l.map λx=>[c x])=[]):∃ r1 g l1,Shift .bD h r1 g/\QS (OS (oP c) sz l) (λx=>x) r1 l1/\gB h l1 g:=by
 obtain rfl:l=[]:=by simpa using e
 exact⟨_,_,_,Shift.of (Sub.nil sz true) (aE.le_refl _),⟨.nil sz,OS.nil,rfl,rfl⟩,by rw[OV.uE];exact gB.nil h⟩
theorem a7N {α:Type} {c:α->aH} {l:List α} {sz:Nat} {h:aE} (e:(l.map λx=>[c x])=[]):∃ r1 g l1,Shift (.sl sz [] true) h r1 g/\QS (OS (oP c) sz l) (λx=>x) r1 l1/\gB h l1 g:=by
 obtain rfl:l=[]:=by simpa using e
 exact⟨_,_,_,bQ _ _,⟨.nil sz,OS.nil,rfl,rfl⟩,by rw[OV.uE];exact gB.nil h⟩
theorem zP {α:Type} {c:α->aH} {l:List α} {sz n:Nat} {h:aE} (hn:h n=none) :
  ∃ r1 g l1,Shift (.os n sz 0 l.length) (aR h n (.row sz ((l.map λx=>[c x]).map (List.map .v)))) r1 g/\QS (OS (oP c) sz l) (λx=>x) r1 l1/\gB h l1 g:=by
 refine⟨_,_,_,bQ _ _,⟨.sl n sz (l.map λx=>[.v (c x)]),OS.mk (aP3 l),by simp[OV.val],rfl⟩,?_⟩
 rw[OV.hJ,l3,kG]
 exact gB.one hn
def gW (sz len:Nat):Option Nat->aH
 |none=>.bD
 |some n=>.os n sz 0 len
theorem b5 (sz len:Nat):gW sz len none=.bD:=rfl
theorem aY (sz len n:Nat):gW sz len (some n)=.os n sz 0 len:=rfl
def yJ (g:aE) (es:List (List OV)):Option Nat->Prop
 |none=>es=[]
 |some n=>g n=none
theorem kD (g:aE) (es:List (List OV)):yJ g es none=(es=[]):=rfl
theorem jX (g:aE) (es:List (List OV)) (n:Nat):yJ g es (some n)=(g n=none):=rfl
def gov (sz:Nat) (es:List (List OV)):Option Nat->OV
 |none=>.nil sz
 |some n=>.sl n sz es
theorem a0B (sz:Nat) (es:List (List OV)):gov sz es none=.nil sz:=rfl
theorem aP7 (sz:Nat) (es:List (List OV)) (n:Nat):gov sz es (some n)=.sl n sz es:=rfl
theorem aCL {α:Type} {R:α->List OV->Prop} {sz:Nat} {l:List α} {es:List (List OV)} {g:aE} {o:Option Nat} (h:OR R l es) (hs:yJ g es o):OS R sz l (gov sz es o):=by
 cases o with
 |none=>rw[kD]at hs;subst hs;exact .inl ⟨rfl,by have:=h.length;simpa using this⟩
 |some n=>exact OS.mk h
theorem aFT {sz:Nat} {es:List (List OV)} {o:Option Nat}:Sub (gW sz es.length o) (gov sz es o).val:=by
 cases o with
 |none=>exact Sub.nil _ _
 |some n=>exact Sub.refl _
theorem xK {sz:Nat} {es:List (List OV)} {h g:aE} {o:Option Nat} (x:gB h (OV.bF es) g) (hs:yJ g es o):gB h (gov sz es o).rows (bY g (.row sz (OV.cells es)) o):=by
 cases o with
 |none=>rw[kD]at hs;subst hs;rw[a0B,OV.uE,aQ];simpa[OV.bF]using x
 |some n=>rw[aP7,OV.hJ,aK];exact x.row hs
theorem fF (es:List (List OV)):List.take es.length (OV.cells es)=OV.cells es:=pQ (by simp[OV.cells])
theorem jW (es:List (List OV)) (e:List OV):OV.cells (es++[e])=OV.cells es++[e.map λc=>Cell.v c.val]:=by rw[xJ];rfl
theorem lK (e:List OV):OV.cells [e]=[e.map λc=>Cell.v c.val]:=rfl
theorem kH (sz len:Nat) (o:Option Nat):(gW sz len o).flat=true:=by cases o <;> rfl
theorem s7 (sz len:Nat) (o:Option Nat):(gW sz len o).cells=[gW sz len o]:=by cases o <;> rfl
theorem cW (es:List (List OV)):(OV.cells es).length=es.length:=by simp[OV.cells]
theorem OR.snoc {α:Type} {R:α->List OV->Prop} {l:List α} {es:List (List OV)} {e:List OV} {k:Nat} (h:OR R (l.take k) es) (hk:k<l.length) (he:R l[k] e):OR R (l.take (k+1)) (es++[e]):=by
 rw[jU hk]
 exact OR.append h ⟨he,trivial⟩
theorem gB.snoc {h g g1:aE} {es:List (List OV)} {e:List OV} (x:gB h (OV.bF es) g) (y:gB g (OV.cJ e) g1):gB h (OV.bF (es++[e])) g1:=by
 rw[aSS];exact x.append y
theorem fU {g:aE} {R:bE} {o:Option Nat} {m:Nat} (hg:g m=none) (hon:∀ n,o=some n->¬n=m):bY g R o m=none:=by
 cases o with
 |none=>exact hg
 |some n =>
  have:=hon n rfl
  rw[aK,aI _ _ _ _ λe=>this e.symm];exact hg
theorem mT:OV.cells []=[]:=rfl
theorem cH {n m:Nat} {g:aE} {x y:bE} (h:¬n=m):aR (aR g n x) m y=aR (aR g m y) n x:=by
 funext q;simp only[iS];split <;> split <;> simp_all
def aE.wk (g h:aE):Prop:=∀ E w,Rel E h w->Rel E g w/\∀ b,qK E h w b->qK E g w b
theorem aE.kE {g h:aE} (hl:g.le h):g.wk h:=λE w R=>⟨R.forget hl,λb i=>qK.le hl i⟩
theorem aE.wk.trans {a b c:aE} (x:a.wk b) (y:b.wk c):a.wk c:=λE w R =>
 ⟨(x E w (y E w R).1).1,λd i=>(x E w (y E w R).1).2 d ((y E w R).2 d i)⟩
theorem aE.wk.ev {g h:aE} (x:g.wk h) {E:Env} {w:World} (R:Rel E h w):Ev E h w E g w :=
 ⟨iH _,λb hb=>⟨rfl,(x E w R).2 b hb⟩,λ_ _=>rfl,λ_ hn=>⟨rfl,hn⟩,rfl,rfl⟩
theorem tH.wk {P:Program} {N:Nat} {c:Code} {Q:Exit->bJ->aE->Prop} {τ:bJ} {h g:aE} (hl:g.wk h) (x:tH P N c Q τ g):tH P N c Q τ h :=
 λds E w a R r=>Code.wp_mono (λe a' w' y=>wL.trans (hl.ev R) y) (x ds E w a (hl E w R).1 (r.ev (hl.ev R)))
theorem tH.bE0 {P:Program} {N:Nat} {c:Code} {Q:Exit->bJ->aE->Prop} {τ:bJ} {h:aE} {α:Type} (S:α->bJ) (H:α->aE) (side:α->Prop) (μ:α->Nat) (x₀:α)
  (h₀:c4 (S x₀) τ/\(H x₀).wk h/\side x₀)
  (round:∀ x,side x->tH P N c (aA7 (λτ' h'=>∃ x',c4 (S x') τ'/\(H x').wk h'/\side x'/\μ x'<μ x) Q) (S x) (H x)):tH P N (.loop c) Q τ h :=
 tH.loop (λx τ h=>c4 (S x) τ/\(H x).wk h/\side x) μ x₀ h₀ λx τ h ⟨h1,h2,h3⟩ =>
  tH.wk h2 (tH.weaken h1 (aE.le_refl _) ((round x h3).mono λe τ h q=>by
   cases e <;> simp only[aA7]at q ⊢ <;> first|exact q|(obtain⟨x',a,b,c,d⟩:=q;exact⟨x',⟨a,b,c⟩,d⟩)))
theorem bE0 {P:Program} {N:Nat} {keep ib:List Nat} {mk:Marks} {c:Code} {Q:Exit->bJ->aE->Prop} {τ:bJ} {h:aE} {t:Tag (Code.loop c,Q)} {α:Type} (hmix:P.follows .mixedOrders=true) (hc:iV N mk c=true) (S:α->bJ) (H:α->aE) (side:α->Prop) (μ:α->Nat) (x₀:α)
  (h₀:c4 (S x₀) τ/\(H x₀).wk h/\side x₀)
  (round:∀ x,side x->qH P N keep ib mk c (λτ' h'=>∃ x',c4 (S x') τ'/\(H x').wk h'/\side x'/\μ x'<μ x) Q (S x) (H x) ()):aJP P N (.loop c) Q τ h t :=
 tH.bE0 S H side μ x₀ h₀ λx hx=>aPU hmix c _ _ _ _ hc (round x hx)
theorem aL6 {P:Program} {N:Nat} (keep ib:List Nat) (mk:Marks) {c:Code} {Q:Exit->bJ->aE->Prop} {τ:bJ} {h:aE} {t:Tag (Code.loop c,Q)} {α:Type} (S:α->bJ) (H:α->aE) (side:α->Prop) (μ:α->Nat) (x₀:α)
  (h₀:c4 (S x₀) τ/\(H x₀).wk h/\side x₀)
  (round:∀ x,side x->qH P N keep ib mk c (λτ' h'=>∃ x',c4 (S x') τ'/\(H x').wk h'/\side x'/\μ x'<μ x) Q (S x) (H x) ()) (hmix:P.follows .mixedOrders=true:=by exact mix) (hc:iV N mk c=true:=by kernel_rfl):aJP P N (.loop c) Q τ h t :=
 bE0 (keep:=keep) (ib:=ib) (mk:=mk) hmix hc S H side μ x₀ h₀ round
def aEX (x y:Cell):Prop:=∀ E h w c S,aAK E h w x c S->aAK E h w y c S
theorem aEX.refl (x:Cell):aEX x x:=λ_ _ _ _ _ r=>r
theorem aEX.v {x y:aH} (s:Sub x y):aEX (.v x) (.v y):=λE h w c S r=>by
 cases r with
 |v _ _ _ h1 hx=>exact .v _ _ _ h1 (s _ _ _ _ hx)
def oA:List (List Cell)->List (List Cell)->Prop
 | [],[]=>True
 |a::l,b::m=>(a.length=b.length/\∀ (j:Nat) (x:Cell),b[j]?=some x->∃ y,a[j]?=some y/\aEX y x)/\oA l m
 | _,_=>False
theorem oA.last {a b:List Cell} (hl:a.length=b.length) (hc:∀ (j:Nat) (x:Cell),b[j]?=some x->∃ y,a[j]?=some y/\aEX y x):∀ l,oA (l++[a]) (l++[b])
 | []=>⟨⟨hl,hc⟩,trivial⟩
 |c::l=>⟨⟨rfl,λj x h=>⟨x,h,.refl x⟩⟩,oA.last hl hc l⟩
theorem oA.length:∀ {l m},oA l m->l.length=m.length
 | [],[],_=>rfl
 |a::l,b::m,h=>by rw[al2,al2,oA.length h.2]
 | [],_::_,h=>h.elim
 | _::_,[],h=>h.elim
theorem oA.size {sz:Nat}:∀ {l m},oA l m->(∀ e∈l,e.length=sz)->∀ e∈m,e.length=sz
 | [],[],_,_=>by simp
 |a::l,b::m,h,hs=>λe he=>by
  rcases pY.1 he with rfl|he
  ·rw[←h.1.1];exact hs a x6
  ·exact oA.size h.2 (λe he=>hs e (w6 _ he)) e he
 | [],_::_,h,_=>h.elim
 | _::_,[],h,_=>h.elim
theorem oA.kA:∀ {l m} (i j:Nat) (x:Cell),oA l m->Hl.kA m i j=some x->∃ y,Hl.kA l i j=some y/\aEX y x
 | [],[],i,j,x,_,h=>by simp[Hl.kA]at h
 |a::l,b::m,0,j,x,w,h=>by simp only[Hl.kA,bAX,a2I]at h ⊢;exact w.1.2 j x h
 |a::l,b::m,i+1,j,x,w,h=>by simp only[Hl.kA,bJ5]at h ⊢;exact oA.kA i j x w.2 h
 | [],_::_,_,_,_,w,_=>w.elim
 | _::_,[],_,_,_,w,_=>w.elim
theorem aE.aVZ {g h:aE} {m sz:Nat} {es es':List (List Cell)} (hg:∀ q,q≠m->g q=h q) (hm:h m=some (.row sz es)) (gm:g m=some (.row sz es')) (hw:oA es es'):g.wk h:=λE w R=>by
 have live:∀ q o,g q=some o->∃ o',h q=some o'/\(o.live->o'.live):=λq o ho=>by
  by_cases e:q=m
  ·subst e;exact⟨_,hm,λ_=>trivial⟩
  ·rw[hg q e]at ho;exact⟨o,ho,id⟩
 have live':∀ q o,h q=some o->∃ o',g q=some o'/\(o.live->o'.live):=λq o ho=>by
  by_cases e:q=m
  ·subst e;exact⟨_,gm,λ_=>trivial⟩
  ·rw[←hg q e]at ho;exact⟨o,ho,id⟩
 have sB:∀ b,qK E h w b->qK E g w b:=λb i=>⟨i.1,λq o ho hl=>by
  obtain⟨o',h1,h2⟩:=live q o ho;exact i.2 q o' h1 (h2 hl)⟩
 refine⟨⟨R.fin,λn hn=>R.dom n λe=>?_,λn o b hn hl=>?_,λn o n' o' b hn hl hn' hl'=>?_,λn o hn=>?_,R.laid.sB sB⟩,sB⟩
 ·by_cases e2:n=m
  ·subst e2;rw[hm]at e;cases e
  ·rw[hg n e2]at hn;exact hn e
 ·obtain⟨o2,h1,h2⟩:=live n o hn
  exact R.lt n o2 b h1 (h2 hl)
 ·obtain⟨o2,h1,h2⟩:=live n o hn
  obtain⟨o3,h3,h4⟩:=live n' o' hn'
  exact R.apart n o2 n' o3 b h1 (h2 hl) h3 (h4 hl')
 ·by_cases e:n=m
  ·subst e
   rw[gm]at hn
   obtain rfl:=gV hn
   rcases R.obj n _ hm with⟨b,o2,hl,ra⟩|⟨he,hl⟩
   ·refine .inl ⟨b,o2,hl,ra.hb,hw.size ra.size,?_⟩
    obtain⟨cs,t,cv,T,h1,h2,h3,h4,h5,h6⟩:=ra.mem
    refine⟨cs,t,cv,T,h1,by rw[←hw.length];exact h2,h3,h4,λi j x hx=>?_,λi j x hx=>?_⟩
    ·obtain⟨y,hy,_⟩:=hw.kA i j x hx;exact h5 i j y hy
    ·obtain⟨y,hy,hyx⟩:=hw.kA i j x hx;exact(hyx _ _ _ _ _ (h6 i j y hy)).sB sB
   ·subst he
    have:es'=[]:=by have:=hw.length;simp at this;exact aNI.1 this.symm
    exact .inr ⟨this,hl⟩
  ·rw[hg n e]at hn
   exact(R.obj n o hn).sB sB
theorem oA.sub {xs ys:List aH} (s:qV xs ys) (A:List (List Cell)):oA (A++[xs.map .v]) (A++[ys.map .v]):=by
 refine oA.last (by simpa using s.1) (λj x hx=>?_) A
 rw[nE,u5]at hx
 obtain⟨y,hy,rfl⟩:=hx
 have hlt:j<ys.length:=(mS.1 hy).1
 have hxl:j<xs.length:=by rw[s.1];exact hlt
 have hx2:xs[j]?=some xs[j]:=cM hxl
 exact⟨.v xs[j],by rw[nE,hx2];rfl,aEX.v (s.2 j _ _ hx2 hy)⟩
abbrev Q4:=Option (Nat×Nat×Nat×Nat)
def q1:Q4->Option Nat|none=>none|some x=>some x.1
def q2:Q4->Option Nat|none=>none|some x=>some x.2.1
def q3:Q4->Option Nat|none=>none|some x=>some x.2.2.1
def q4:Q4->Option Nat|none=>none|some x=>some x.2.2.2
theorem yK {α:Type} (c:α->aH) (l:List α) (k:Nat) (x:α):((l.map λx=>[c x]).map (List.map Cell.v)).set k [Cell.v (c x)]=((l.set k x).map λx=>[c x]).map (List.map Cell.v):=by
 rw[aD7,aD7,List.map_set];rfl
theorem OR.aL7 {α:Type} {c:α->aH}:∀ {l:List α} {es:List (List OV)},OR (oP c) l es->es=l.map λx=>[.v (c x)]
 | [],[],_=>rfl
 |x::l,e::es,h=>by rw[nZ,←OR.aL7 h.2,show e=[.v (c x)]from h.1]
 | [],_::_,h=>h.elim
 | _::_,[],h=>h.elim
theorem OS.aL7 {α:Type} {c:α->aH} {sz:Nat} {l:List α} {y:OV} (h:OS (oP c) sz l y):(y=.nil sz/\l=[])∨∃ n,y=.sl n sz (l.map λx=>[.v (c x)]):=by
 rcases h with h|⟨n,es,rfl,h⟩
 ·exact .inl h
 ·exact .inr ⟨n,by rw[h.aL7]⟩
theorem OV.oE {α:Type} (c:α->aH) (n sz:Nat) (l:List α):(OV.sl n sz (l.map λx=>[.v (c x)])).val=.os n sz 0 l.length:=by rw[OV.aCK,nG]
theorem gB.bE1 {h g:aE} (e1:List OV) {e2:List OV} {n sz:Nat} {es:List (List OV)} (x:gB h (OV.cJ (e1++OV.sl n sz es::e2)) g):g n=some (.row sz (OV.cells es)) :=
 x.tO (n,_) (by rw[OV.aEU,OV.fC,OV.hJ];simp)
theorem bE2 {P:Program} {N:Nat} {keep ib:List Nat} {mk:Marks} {c:Code} {Q:Exit->bJ->aE->Prop} {τ:bJ} {h:aE} {t:Tag (Code.loop c,Q)} {α:Type} (hmix:P.follows .mixedOrders=true) (hc:iV N mk c=true) (S:α->bJ) (side:α->Prop) (μ:α->Nat) (x₀:α)
  (h₀:c4 (S x₀) τ/\side x₀)
  (round:∀ x,side x->qH P N keep ib mk c (λτ' h'=>∃ x',c4 (S x') τ'/\h.le h'/\side x'/\μ x'<μ x) Q (S x) h ()):aJP P N (.loop c) Q τ h t :=
 aZ0 hmix hc S (λ_=>h) side μ x₀ ⟨h₀.1,aE.le_refl _,h₀.2⟩ round
theorem vX {h:aE} {n:Nat} {o:bE} (hn:h n=some o):aR h n o=h:=by
 funext q;simp only[iS];split
 ·subst_vars;exact hn.symm
 ·rfl
theorem bK5 {P:Program} {N:Nat} {keep ib:List Nat} {mk:Marks} {c:Code} {Q:Exit->bJ->aE->Prop} {τ:bJ} {h:aE} {t:Tag (Code.loop c,Q)} {α:Type} (hmix:P.follows .mixedOrders=true) (hc:iV N mk c=true) (S:α->bJ) (n:Nat) (R:α->bE) (side:α->Prop) (μ:α->Nat) (x₀:α)
  (h₀:c4 (S x₀) τ/\h n=some (R x₀)/\side x₀)
  (round:∀ x,side x->qH P N keep ib mk c (λτ' h'=>∃ x',c4 (S x') τ'/\(aR h n (R x')).le h'/\side x'/\μ x'<μ x) Q (S x) (aR h n (R x)) ()):aJP P N (.loop c) Q τ h t :=
 aZ0 hmix hc S (λx=>aR h n (R x)) side μ x₀ ⟨h₀.1,by simp only[vX h₀.2.1];exact aE.le_refl _,h₀.2.2⟩ round
theorem aE.rD {g h:aE} {n:Nat} {o:bE} (hl:g.le h):(aR g n o).le (aR h n o):=λq=>by
 simp only[iS];split
 ·exact .inr rfl
 ·exact hl q
theorem View.box {T:List aH} {g:aE} {nb sz:Nat} {e:List OV} (hd:e.map OV.pU=T) (hn:g nb=none) (ho:xH g (OV.cJ e)):View (aR g nb (.row sz (OV.cells [e]))) (.op nb sz 0 0) (.ip sz [T] 0 0):=by
 have:=View.op (h:=aR g nb (.row sz (OV.cells [e]))) (n:=nb) (sz:=sz) (i:=0) (off:=0) [e] (by rw[aM]) cT (by
  have h1:OV.bF [e]=OV.cJ e:=by simp[OV.bF]
  rw[h1];exact ho.up hn)
 have h2:OV.nM [e]=[T]:=by rw[OV.fS];simp[hd]
 rwa [h2]at this
theorem gB.le {h g:aE} {l:List (Nat×bE)} (w:gB h l g):h.le g:=λq=>by
 by_cases hq:q∈bH l
 ·exact .inl (w.fresh q hq)
 ·exact .inr (w.upto q hq).symm
theorem aTU {es:List (List OV)} {k:Nat} {e:List OV} (h:es[k]?=some e):(OV.cells es)[k]?=some (e.map λc=>Cell.v c.val):=by
 rw[OV.cells,nE,h];rfl
theorem OR.bSU {α:Type} {R:α->List OV->Prop}:∀ {l:List α} {es:List (List OV)},OR R l es->∀ (k:Nat) x,l[k]?=some x->∃ e,es[k]?=some e/\R x e
 | [],[],_,k,x,h=>by simp at h
 |a::l,b::es,h,0,x,e=>by simp at e;subst e;exact⟨b,rfl,h.1⟩
 |a::l,b::es,h,k+1,x,e=>OR.bSU h.2 k x (by simpa using e)
 | [],_::_,h,_,_,_=>h.elim
 | _::_,[],h,_,_,_=>h.elim
theorem OR.set {α:Type} {R:α->List OV->Prop}:∀ {l:List α} {es:List (List OV)},OR R l es->∀ (k:Nat) x e,R x e->OR R (l.set k x) (es.set k e)
 | [],[],_,k,x,e,_=>by simp[OR]
 |a::l,b::es,h,0,x,e,he=>⟨he,h.2⟩
 |a::l,b::es,h,k+1,x,e,he=>⟨h.1,OR.set h.2 k x e he⟩
 | [],_::_,h,_,_,_,_=>h.elim
 | _::_,[],h,_,_,_,_=>h.elim
theorem OS.some {α:Type} {R:α->List OV->Prop} {sz:Nat} {l:List α} {y:OV} (h:OS R sz l y) (hl:0<l.length):∃ n es,y=.sl n sz es/\OR R l es:=by
 rcases h with⟨_,h⟩|h
 ·rw[h]at hl;simp at hl
 ·exact h
def leX (S:List Nat) (g h:aE):Prop:=∀ q,q∉S->g q=none∨g q=h q
theorem o6 {g h:aE} (x:leX [] g h):g.le h:=λq=>x q cT
theorem tY (S:List Nat) (g:aE):leX S g g:=λq _=>.inr rfl
theorem xD {S:List Nat} {g h:aE} {n:Nat} {o:bE} (hn:h n=some o) (x:leX (n::S) g h):leX S (aR g n o) h:=λq hq=>by
 simp only[iS];split
 ·subst_vars;exact .inr hn.symm
 ·rename_i e;exact x q (by simp only[pY,not_or];exact⟨e,hq⟩)
theorem qY {S:List Nat} {g h:aE} {n:Nat} {o:bE} (hn:n∈S∨g n=none) (x:leX S g h):leX S g (aR h n o):=λq hq=>by
 simp only[iS];split
 ·subst_vars
  rcases hn with hn|hn
  ·exact absurd hn hq
  ·exact .inl hn
 ·exact x q hq
theorem aE.le_none {g h:aE} (hl:g.le h) {n:Nat} (hn:h n=none):g n=none:=by
 rcases hl n with e|e
 ·exact e
 ·rw[e,hn]
theorem jC.wk {P:Program} {f:FuncId} {args:List aH} {g h:aE} {K:aH->aE->Prop} (hl:g.wk h) (a:jC P f args g K):jC P f args h K :=
 ⟨a.1,λE w vs R r=>by
  obtain⟨R',hi⟩:=hl E w R
  exact(a.2 E w vs R' (fD.sB hi r)).mono λe w' q=>by
   cases e with
   |returned v =>
    obtain⟨r,h',E',k,ev,R2,r2⟩:=q
    exact⟨r,h',E',k,(hl.ev R).trans ev,R2,r2⟩
   | _=>exact q.elim⟩
theorem aJ.wk {P:Program} {f:FuncId} {args:List aH} {g h:aE} {K:aH->aE->Prop} {t:Tag K} (hl:g.wk h) (a:aJ P f args g K t):aJ P f args h K t:=jC.wk hl a
theorem jC.shift {P:Program} {f:FuncId} {args:List aH} {h:aE} {K K':aH->aE->Prop} (a:jC P f args h K') (hk:∀ r h',K' r h'->∃ g:aE,g.wk h'/\K r g):jC P f args h K :=
 ⟨a.1,λE w vs R r=>by
  exact(a.2 E w vs R r).mono λe w' q=>by
   cases e with
   |returned v =>
    obtain⟨r,h',E',k,ev,R2,r2⟩:=q
    obtain⟨g,hg,k'⟩:=hk r h' k
    obtain⟨R3,hi⟩:=hg E' w' R2
    exact⟨r,g,E',k',ev.trans (hg.ev R2),R3,gC.sB hi r2⟩
   | _=>exact q.elim⟩
def upL (c:List Int) (k:Nat):List Int:=c.take k++List.replicate (c.length-k) 0
theorem aEY (c:List Int):upL c 0=List.replicate c.length 0:=by simp[upL]
theorem aJU (c:List Int):upL c c.length=c:=by simp[upL]
theorem aJV (c:List Int) {k:Nat} (hk:k<=c.length):(upL c k).length=c.length:=by simp[upL];omega
theorem aJW {c:List Int} {k:Nat} (hk:k<c.length):(upL c k)[k]?=some 0:=by
 have h1:(c.take k).length=k:=by rw[jT];omega
 rw[upL,wZ aA,h1,wI,aMO,if_pos aA]
theorem aFW {c:List Int} {k:Nat} (hk:k<c.length):(upL c k).set k c[k]=upL c (k+1):=by
 have h1:(c.take k).length=k:=by rw[jT];omega
 rw[upL,upL,bDG _ _ aA,h1,wI,jU hk,show c.length-k=(c.length-(k+1))+1 by omega,aYR,bDH,aD6,List.singleton_append]
theorem zQ (n:Nat):(List.replicate n [aH.int .i64 0]).map (List.map Cell.v)=((List.replicate n (0:Int)).map λn=>[aH.int .i64 n]).map (List.map Cell.v):=by simp
theorem aEZ {P:Program} {N:Nat} (keep ib:List Nat) (mk:Marks) {c:Code} {Q:Exit->bJ->aE->Prop} {τ:bJ} {h:aE} {t:Tag (Code.loop c,Q)} {α:Type} (S:α->bJ) (side:α->Prop) (μ:α->Nat) (x₀:α) (h₀:c4 (S x₀) τ/\side x₀) (round:∀ x,side x->qH P N keep ib mk c (λτ' h'=>∃ x',c4 (S x') τ'/\h.le h'/\side x'/\μ x'<μ x) Q (S x) h ()) (hmix:P.follows .mixedOrders=true:=by exact mix) (hc:iV N mk c=true:=by kernel_rfl):aJP P N (.loop c) Q τ h t :=
 bE2 (keep:=keep) (ib:=ib) (mk:=mk) hmix hc S side μ x₀ h₀ round
theorem aHO {P:Program} {N:Nat} (keep ib:List Nat) (mk:Marks) {c:Code} {Q:Exit->bJ->aE->Prop} {τ:bJ} {h:aE} {t:Tag (Code.loop c,Q)} {α:Type} (S:α->bJ) (n:Nat) (R:α->bE) (side:α->Prop) (μ:α->Nat) (x₀:α) (h₀:c4 (S x₀) τ/\h n=some (R x₀)/\side x₀) (round:∀ x,side x->qH P N keep ib mk c (λτ' h'=>∃ x',c4 (S x') τ'/\(aR h n (R x')).le h'/\side x'/\μ x'<μ x) Q (S x) (aR h n (R x)) ()) (hmix:P.follows .mixedOrders=true:=by exact mix) (hc:iV N mk c=true:=by kernel_rfl):aJP P N (.loop c) Q τ h t :=
 bK5 (keep:=keep) (ib:=ib) (mk:=mk) hmix hc S n R side μ x₀ h₀ round
theorem a7O {E:Env} {h:aE} {w:World} (k:Nat) (os:Array Obj):Ev E h w E h (Go.Sort.grow (w.drewN k) os):=by
 have hb:∀ b,b<w.heap.size->(Go.Sort.grow (w.drewN k) os).heap[b]?=w.heap[b]?:=λb hb=>by
  show(w.heap++os)[b]?=_
  rw[bC9 hb]
 refine⟨?_,λb i=>⟨hb b i.1,?_,i.2⟩,λb i=>?_,λ_ hn=>⟨rfl,hn⟩,rfl,rfl⟩
 ·show w.heap.size<=(w.heap++os).size
  simp
 ·show b<(w.heap++os).size
  have:=i.1
  simp;omega
 ·simp only[World.shape?,hb b i]
theorem bE3 {E:Env} {h:aE} {w:World} (R:Rel E h w) (k:Nat) (os:Array Obj):Rel E h (Go.Sort.grow (w.drewN k) os) :=
 have ev:=a7O (E:=E) (h:=h) (w:=w) k os
 ⟨R.fin,R.dom,λn x b hn hx hb=>bRQ (R.lt n x b hn hx hb) ev.size,R.apart,
  λn x hn=>(R.obj n x hn).ev ev rfl rfl λc hx hc=>by
   have:=R.lt n x c hn hx hc
   show(w.heap++os)[c]?=_
   rw[bC9 this],R.laid.ev ev⟩
theorem bBJ {P:Program} {f:FuncId} {args:List aH} {r:aH} (hc:kC P f=true)
  (H:∀ E h w vs,Rel E h w->fD E h w args vs->Calls P f vs.toArray w λe w'=>∃ v,e=.returned v/\(∀ E' h' w',gC E' h' w' r v)/\∃ k os,w'=Go.Sort.grow (w.drewN k) os):fM P f args r:=λh =>
 ⟨hc,λE w vs R rl=>(H E h w vs R rl).mono λe w' q=>by
  obtain⟨v,rfl,hv,k,os,rfl⟩:=q
  exact⟨r,h,E,⟨rfl,rfl⟩,a7O k os,bE3 R k os,hv _ _ _⟩⟩
theorem LaidIn.var {E:Env} {h:aE} {w:World} (x:LaidIn E h w) {P:Program} {name:String} {g:Nat} {Q:Array Value->Prop} (hg:P.globalNamed name=some g) (hm:(g,Q)∈x9):∃ cs,w.var? P name=some cs/\Q cs:=by
 obtain⟨_,cs,t,f,ht,q⟩:=x _ hm
 exact⟨cs,by simp only[World.var?,hg,a2I,ht],q⟩
theorem b8K {P:Program} {f:FuncId} {fn:Func} {c:Code} (N:Nat) (keep ib:List Nat) (mk:Marks) {args:List aH} {h:aE} {K:aH->aE->Prop} (hmix:P.follows .mixedOrders=true) (hf:P.funcs[f]?=some fn) (hb:fn.body=some c)
  (hck:(kC P f && decide (fn.ntmps=N) && iV N mk c)=true) (hl:args.length<=N)
  (hw:qH P N keep ib mk c (λτ h'=>oD P fn.results (λr h'=>∃ r1 g,Shift r h' r1 g/\K r1 g) () .normal τ h') (oD P fn.results (λr h'=>∃ r1 g,Shift r h' r1 g/\K r1 g) ()) (sC 0 args) h ()):jC P f args h K :=
 yH (fn:=fn) (c:=c) (N:=N) (aPR N keep ib mk hmix hf hb hck hl (K':=λr h'=>∃ r1 g,Shift r h' r1 g/\K r1 g) (K:=λr h'=>∃ r1 g,Shift r h' r1 g/\K r1 g) hw λ_ h' hx=>⟨h',aE.le_refl _,hx⟩) λr h' hx=>hx
theorem fD.vB {E:Env} {h:aE} {w:World} (R:Rel E h w) {n sz:Nat} {es:List (List Cell)} (hn:h n=some (.row sz es)):∀ {xs:List aH} {vs:List Value},fD E h w xs vs->jG n sz es.length xs=true->fD E (aR h n .gone) w (lX n (fO es) xs) vs
 | [],[],_,_=>trivial
 |x::xs,v::vs,r,hb=>by
  simp only[jG,oW]at hb
  exact⟨r.1.vB R hn hb.1,fD.vB R hn r.2 hb.2⟩
 | [],_::_,r,_=>r.elim
 | _::_,[],r,_=>r.elim
theorem aJ.a3C {P:Program} {f:FuncId} {args:List aH} {h:aE} {K:aH->aE->Prop} {t:Tag K} (n:Nat) {sz:Nat} {es:List (List Cell)} (hn:h n=some (.row sz es)) (hb:jG n sz es.length args=true)
  (a:jC P f (lX n (fO es) args) (aR h n .gone) K):aJ P f args h K t :=
 ⟨a.1,λE w vs R r=>(a.2 E w vs (R.gone hn) (r.vB R hn hb)).mono λe w' q=>by
  cases e with
  |returned v =>
   obtain⟨r,h',E',k,ev,R2,r2⟩:=q
   exact⟨r,h',E',k,(Ev.gone n).trans ev,R2,r2⟩
  | _=>exact q.elim⟩
theorem lU {P:Program} {f:FuncId} {fn:Func} {c:Code} (N:Nat) (keep ib:List Nat) (mk:Marks) {args:List aH} {h:aE} {K:aH->aE->Prop} (hf:P.funcs[f]?=some fn) (hw:qH P N keep ib mk c (λτ h'=>oD P fn.results (λr h'=>∃ r1 g,Shift r h' r1 g/\K r1 g) () .normal τ h') (oD P fn.results (λr h'=>∃ r1 g,Shift r h' r1 g/\K r1 g) ()) (sC 0 args) h ()) (hmix:P.follows .mixedOrders=true:=by exact mix) (hb:fn.body=some c:=by rfl) (hck:(kC P f && decide (fn.ntmps=N) && iV N mk c)=true:=by kernel_rfl) (hl:args.length<=N:=by simp):jC P f args h K :=
 b8K N keep ib mk hmix hf hb hck hl hw
def Cell.sH (n:Nat) (es:List (List aH)):Cell->Cell
 | .v x=>.v (x.eM n es)
 | .own sz ys=>.own sz ys
theorem aT2 (m:Nat) (vs:List (List aH)) (es:List (List Cell)) (i j:Nat):kA (es.map (List.map (Cell.sH m vs))) i j=(kA es i j).map (Cell.sH m vs):=qA _ _ _ _
theorem aE.aKD {h:aE} {m b sz sz2:Nat} {es es2:List (List Cell)} (hm:h m=some (.row sz es)) (hb:h b=some (.row sz2 es2)) (hne:¬b=m) (hok:∀ i j x,kA es2 i j=some (.v x)->gA m sz es.length x=true) :
  (aR (aR h m .gone) b (.row sz2 (es2.map (List.map (Cell.sH m (fO es)))))).wk h:=λE w R=>by
 have R1:=R.gone hm
 have xM:(aR h m .gone) b=some (.row sz2 es2):=by rw[aI _ _ _ _ hne];exact hb
 have h0:∀ b,qK E h w b->qK E (aR h m .gone) w b:=λb=>aED m b

 have hrow:=R.obj b _ hb
 have h1b:aO2 E h w ((E.loc b).getD (0,0)).1 ((E.loc b).getD (0,0)).2 sz2 es2 (E.fp b)∨es2=[]:=by
  rcases hrow with⟨k,o2,hlc,ra⟩|⟨he,_⟩
  ·left;rw[hlc];exact ra
  ·exact .inr he
 have R2:Rel E (aR (aR h m .gone) b (.row sz2 (es2.map (List.map (Cell.sH m (fO es)))))) w/\∀ q,qK E (aR h m .gone) w q->qK E (aR (aR h m .gone) b (.row sz2 (es2.map (List.map (Cell.sH m (fO es)))))) w q:=by
  have live:∀ q o,aR (aR h m .gone) b (.row sz2 (es2.map (List.map (Cell.sH m (fO es))))) q=some o->∃ o',(aR h m .gone) q=some o'/\(o.live->o'.live):=λq o ho=>by
   by_cases e:q=b
   ·subst e;exact⟨_,xM,λ_=>trivial⟩
   ·rw[aI _ _ _ _ e]at ho;exact⟨o,ho,id⟩
  have sB:∀ q,qK E (aR h m .gone) w q->qK E (aR (aR h m .gone) b (.row sz2 (es2.map (List.map (Cell.sH m (fO es)))))) w q:=λq i=>⟨i.1,λn o ho hl=>by
   obtain⟨o',h1,h2⟩:=live n o ho;exact i.2 n o' h1 (h2 hl)⟩
  refine⟨⟨R1.fin,λn hn=>R1.dom n λe=>?_,λn o c hn hl=>?_,λn o n' o' c hn hl hn' hl'=>?_,λn o hn=>?_,R1.laid.sB sB⟩,sB⟩
  ·by_cases e2:n=b
   ·subst e2;rw[xM]at e;cases e
   ·rw[aI _ _ _ _ e2]at hn;exact hn e
  ·obtain⟨o2,h1,h2⟩:=live n o hn
   exact R1.lt n o2 c h1 (h2 hl)
  ·obtain⟨o2,h1,h2⟩:=live n o hn
   obtain⟨o3,h3,h4⟩:=live n' o' hn'
   exact R1.apart n o2 n' o3 c h1 (h2 hl) h3 (h4 hl')
  ·by_cases e:n=b
   ·subst e
    rw[aM]at hn
    obtain rfl:=gV hn
    rcases hrow with⟨k,o2,hlc,ra⟩|⟨he,hlc⟩
    ·refine .inl ⟨k,o2,hlc,ra.hb,λe he=>?_,?_⟩
     ·obtain⟨e',he',rfl⟩:=qU.1 he
      rw[nG];exact ra.size e' he'
     obtain⟨cs,t,cv,T,h1,h2,h3,h4,h5,h6⟩:=ra.mem
     refine⟨cs,t,cv,T,h1,by rw[nG];exact h2,h3,h4,λi j x hx=>?_,λi j x hx=>?_⟩
     ·rw[aT2]at hx
      obtain⟨y,hy,rfl⟩:=u5.1 hx
      exact h5 i j y hy
     ·rw[aT2]at hx
      obtain⟨y,hy,rfl⟩:=u5.1 hx
      have hr:=h6 i j y hy
      cases y with
      |v y =>
       cases hr with
       |v _ _ _ k1 k2 =>
        exact .v _ _ _ k1 ((k2.vB R hm (hok i j y hy)).sB sB)
      |own s ys=>exact(hr.sB h0).sB sB
    ·subst he
     exact .inr ⟨rfl,hlc⟩
   ·rw[aI _ _ _ _ e]at hn
    exact(R1.obj n o hn).sB sB
 exact⟨R2.1,λq i=>R2.2 q (h0 q i)⟩
def oL {α:Type} (c:α->aH) (l:List α) (e:List OV):Prop:=∃ y,e=[y]/\OS (oP c) 1 l y
theorem bT7 {α:Type} {c:α->aH} {l:List α} {e:List OV} (h:oL c l e):e.map OV.pU=[.sl 1 (l.map λx=>[c x]) false]:=by
 obtain⟨y,rfl,hy⟩:=h
 rw[nZ,sX,OS.pU (c:=λx=>[c x]) (λ_ _ q=>aP2 q) hy]
theorem gB.b09 {α:Type} {c:α->aH} {h g:aE} {b k n:Nat} {es:List (List OV)} {l:List α} (X:gB h (OV.cJ [OV.sl b 1 es]) g) (hk:es[k]?=some [OV.sl n 1 (l.map λx=>[.v (c x)])]) :
  g n=some (.row 1 ((l.map λx=>[c x]).map (List.map .v)))/\¬n=b:=by
 have hmem:(n,bE.row 1 ((l.map λx=>[c x]).map (List.map .v)))∈OV.bF es:=by
  refine OV.aGX (nO hk) ?_
  rw[OV.fC,OV.gZ,dT,OV.hJ,kG]
  exact x6
 refine⟨X.tO (n,_) ?_,λe=>?_⟩
 ·rw[OV.fC,OV.gZ,dT,OV.hJ]
  exact w6 _ hmem
 ·have nd:=X.nodup
  rw[OV.fC,OV.gZ,dT,OV.hJ]at nd
  simp only[bH,nZ,aMN]at nd
  refine nd.1 ?_
  rw[←e]
  exact qU.2 ⟨_,hmem,rfl⟩
open Go.ChangeShapes Go.WideShapes
theorem aR9 {H:Type} {enc:TypeId×Value->H} {a:Assume} {C:Checked} {os:Os} {f:FuncId} {fn:Func} {s:ChangeSpec} {conds:List PathCond} {apart fresh handsOn again:Bool} {X:World->Array Value->Prop}
  (hX:∀ (w w':World) (args:Array Value),w.heap=w'.heap->X w args->X w' args)
  (own:ownKnob C.prog.godebug=none) (started:os.Started) (noInit:C.prog.inits.idxOf? f=none) (hfn:C.prog.funcs[f]?=some fn)
  (witness:∃ (w:World) (tape:Tape) (i:Input),w.os=os/\(w.forCall tape i).Shaped C.prog/\i.vars=[]/\Input.okWide C.prog (w.forCall tape i) .any w.heap.size f i /\
   ((s.pre enc C.prog fn conds apart (w.forCall tape i).memory i.args/\X (w.forCall tape i).memory i.args)/\sizedMet enc C.prog fn (OpenSpec.ofChange s) apart (w.forCall tape i).memory i.args)/\a.holds C.prog (lone (Frame.enter C.prog f i.args .normal) [] (w.forCall tape i)))
  (contract:∀ (W:World) (base:Nat) (args:Array Value) (ds gs:List (DataW H)) (before:List MemPlace),W.ShapedOpen C.prog ->
   (∀ (j:Nat) t v,fn.params[j]?=some t->args[j]?=some v->Value.okWide C.prog W .any base t v) ->
   DataW.Whole enc C.prog fn.params.toList s.vars apart W args.toList ds gs before ->
   conds.all (PathCond.test C.prog ⟨fn.params.toList,ds,s.plain.varTypes C.prog,gs⟩)=true ->
   (DataW.weightsEach C.prog (fn.params.toList++s.plain.varTypes C.prog) (ds++gs)).all (·<=reachBytes)=true->X W args ->
   a.holds C.prog (lone (Frame.enter C.prog f args .normal) [] W) ->
   Calls C.prog f args W λe W'=>∃ v,e=.returned v/\s.post enc C.prog fn apart fresh handsOn again W args v W') :
  ReturnsInHanded a C os f .any (λw args=>(s.pre enc C.prog fn conds apart w args/\X w args)/\sizedMet enc C.prog fn (OpenSpec.ofChange s) apart w args) (s.post enc C.prog fn apart fresh handsOn again):=by
 refine returnsInHanded_of_calls own started noInit witness ?_
 intro w tape i _ hsh _ hok hpre hholds
 obtain⟨_,_,_,fn',hfn',_,_,_,_,hval⟩:=hok
 have e:fn'=fn:=gV (hfn'.symm.trans hfn)
 subst e
 obtain⟨⟨⟨ds,gs,before,hw,hc⟩,hx⟩,hz⟩:=hpre
 have hw':=DataW.Whole.of_heap (w':=w.forCall tape i) (by rfl) hw
 refine(contract (w.forCall tape i) w.heap.size i.args ds gs before hsh hval hw' hc (hz.weights hw) (hX _ _ _ (by rfl) hx) hholds).mono λe W' ⟨v,he,hp⟩=>?_
 subst he
 exact ChangeSpec.post_blind hp
theorem aYJ {H:Type} {enc:TypeId×Value->H} {C:Checked} {os:Os} {f:FuncId} {fn:Func} {s:ChangeSpec} {laid:List (String×DataW Unit)}
  (own:ownKnob C.prog.godebug=none) (started:os.Started) (noInit:C.prog.inits.idxOf? f=none) (hfn:C.prog.funcs[f]?=some fn)
  (witness:∃ (w:World) (tape:Tape) (i:Input),w.os=os/\(w.forCall tape i).Shaped C.prog/\i.vars=[]/\Input.okWide C.prog (w.forCall tape i) .any w.heap.size f i /\
   ((s.pre enc C.prog fn [] false (w.forCall tape i).memory i.args/\laidMetH C.prog laid (w.forCall tape i).memory)/\sizedMet enc C.prog fn (OpenSpec.ofChange s) false (w.forCall tape i).memory i.args)/\({}:Assume).holds C.prog (lone (Frame.enter C.prog f i.args .normal) [] (w.forCall tape i)))
  (lo:laidOutB C.prog=true) (mr:mapsRowed C.prog=true)
  (hz:((List.range C.prog.types.size).all λt=>match C.prog.underlying t with|some (.slice e)=>decide (0<C.prog.cellsOf e)|_=>true)=true)
  (T:List TypeId) (hT:bBH C.prog T=true) (hp:fn.params.all (λt=>decide (t<C.prog.types.size) && T.contains t)=true)
  (hsv:s.vars=[]) (hs:∀ ds:List (DataW H),ds.length=fn.params.size->s.fn H ds={ results:=[.lit (.bool true)],args:=ds })
  {tb:TypeId} (hr:fn.resultTypes=#[tb]) (htb:C.prog.underlying tb=some .bool)
  (hc:∀ xs,aZ6 C.prog fn.params.toList xs->fM C.prog f xs (.bool true)) (hlaid:∀ W,laidMetH C.prog laid W->W.ShapedOpen C.prog->∀ p∈x9,∃ cs t f,W.heap[p.1]?=some (.cells cs t f)/\p.2 cs) :
  ReturnsInHanded {} C os f .any (λw args=>(s.pre enc C.prog fn [] false w args/\laidMetH C.prog laid w)/\sizedMet enc C.prog fn (OpenSpec.ofChange s) false w args) (s.post enc C.prog fn false true false false):=by
 refine aR9 (X:=λw _=>laidMetH C.prog laid w) (λ_ _ _ hh h=>h.of_heap hh) own started noInit hfn witness ?_
 intro W base args ds gs before hsh hval hW _ _ hL _
 have hW0:=hW
 obtain⟨p,q,hA,hV,_,_,_⟩:=hW
 have hp':=bDB.1 hp
 simp only[oW,decide_eq_true_eq]at hp'
 have hbase:∀ (j:Nat) t v,fn.params.toList[j]?=some t->args.toList[j]?=some v->Value.okWide C.prog W .any base t v:=λj t v h1 h2=>hval j t v (by simpa using h1) (by simpa using h2)
 obtain⟨xs,h1,h2,h3⟩:=aTR hT (E:=aZ7) (h:=yI) (λb hb=>aPZ hb) (λt ht=>by have:=(hp' t (by simpa using ht)).2;simpa using this) hbase hA
 refine Calls.mono (by simpa using(hc xs h1 yI).2 aZ7 W args.toList (bEW W λp hp=>⟨aPZ (by obtain⟨cs,t,f,e,_⟩:=hlaid W hL hsh p hp;exact(aU2.1 e).1),hlaid W hL hsh p hp⟩) h2) λe W' he=>?_
 cases e with
 |returned v =>
  obtain⟨r,h',E',⟨rfl,rfl⟩,ev,_,rep⟩:=he
  cases rep
  exact⟨_,rfl,bEV lo mr hz (by rw[bDB];intro t ht;simpa using(hp' t ht).1) hsv hs hr htb hW0 (by simpa using h3) (λb hb=>(ev.keep b (aPZ hb)).1) ev.os ev.out⟩
 | _=>exact he.elim
theorem aK9 {P:Program} {n:String} {d:DataW Unit} {r:List (String×DataW Unit)} {w:World} (h:laidMet P ((n,d)::r) w):laidMet P r w:=by
 obtain⟨ps,⟨g,t,cs,fuel,p,q,_,_,_,_,hq,rfl⟩,hn,ha⟩:=h
 exact⟨q,hq,(aMM.1 hn).2.1,λb off hm=>ha b off (aD5 _ hm)⟩
end Go.Hl

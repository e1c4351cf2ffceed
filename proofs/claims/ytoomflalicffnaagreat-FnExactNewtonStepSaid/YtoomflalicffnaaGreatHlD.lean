/-
  Contracts of functions and laws of the layer over the walk.
-/
import Derived.Test.YtoomflalicffnaaGreatHlC
namespace Go.Hl
set_option linter.unusedVariables false
set_option linter.unusedSimpArgs false
inductive OV where
 |v (x:aC)
 |nil (sz:Nat)
 |sl (n sz:Nat) (es:List (List OV))
def OV.val:OV→aC
 | .v x=>x
 | .nil sz=>.sl sz [] true
 | .sl n sz es=>.os n sz 0 es.length
mutual
def OV.lQ:OV→aC
 | .v x=>x
 | .nil sz=>.sl sz [] false
 | .sl n sz es=>.sl sz (OV.cQ es) false
def OV.cQ:List (List OV)→List (List aC)
 | []=>[]
 |e :: es=>OV.aH5 e :: OV.cQ es
def OV.aH5:List OV→List aC
 | []=>[]
 |x :: e=>x.lQ :: OV.aH5 e
end
theorem OV.s5:∀ (e:List OV),OV.aH5 e = e.map OV.lQ
 | []=>rfl
 |x :: e=>by rw [OV.aH5,OV.s5 e];rfl
theorem OV.iU:∀ (es:List (List OV)),OV.cQ es = es.map (List.map OV.lQ)
 | []=>rfl
 |e :: es=>by rw [OV.cQ,OV.iU es,OV.s5];rfl
def OV.cells (es:List (List OV)):List (List Cell):=es.map (List.map fun c=>Cell.v c.val)
mutual
def OV.rows:OV→List (Nat × bH)
 | .v _=>[]
 | .nil _=>[]
 | .sl n sz es=>(n,.row sz (OV.cells es)) :: OV.bG es
def OV.bG:List (List OV)→List (Nat × bH)
 | []=>[]
 |e :: es=>OV.bR e ++ OV.bG es
def OV.bR:List OV→List (Nat × bH)
 | []=>[]
 |x :: e=>x.rows ++ OV.bR e
end
theorem OV.wW:∀ {es:List (List OV)} {e:List OV} {p:Nat × bH},e∈es→p∈OV.bR e→p∈OV.bG es
 |y :: es,e,p,he,hp=>by
  rw [OV.bG]
  rcases List.mem_cons.1 he with rfl | he
  ·exact List.mem_append_left _ hp
  ·exact List.mem_append_right _ (OV.wW he hp)
def fR (h:aA) (l:List (Nat × bH)):Prop:=∀ p∈l,h p.1 = some p.2
def kY (h:aA) (S:List Nat):aA:=fun m=>if m∈S then (h m).map fun _=>.gone else h m
theorem pQ {h:aA} {S:List Nat} {m:Nat} {o:bH} (hm:m∈S) (ho:kY h S m = some o):o = .gone:=by
 simp only [kY,if_pos hm,Option.map_eq_some_iff] at ho
 obtain ⟨_,_,rfl⟩:=ho;rfl
theorem mW {h:aA} {S:List Nat} {m:Nat} (hm:m ∉ S):kY h S m = h m:=by simp only [kY,if_neg hm]
theorem pS {E:Env} {h:aA} {w:World} (S:List Nat) (b:Nat) (i:nB E h w b):nB E (kY h S) w b :=
 ⟨i.1,fun m o hm ho=>by
  by_cases e:m∈S
  ·rw [pQ e hm] at ho;exact ho.elim
  ·rw [mW e] at hm;exact i.2 m o hm ho⟩
theorem aH6 {E:Env} {h:aA} {w:World} (R:Rel E h w) {S:List Nat} {n:Nat} (hS:n∈S) {x:bH} (hn:h n = some x) (hx:x.live) (b:Nat) (hb:E.fp n b):nB E (kY h S) w b :=
 ⟨R.lt n x b hn hx hb,fun m o hm ho hf=>by
  by_cases e:m∈S
  ·rw [pQ e hm] at ho;exact ho.elim
  ·rw [mW e] at hm
   have:=R.apart m o n x b hm ho hn hx hf hb
   exact e (this ▸ hS)⟩
theorem Rel.kY {E:Env} {h:aA} {w:World} (R:Rel E h w) (S:List Nat):Rel E (kY h S) w:=by
 refine ⟨R.fin,fun m hm=>?_,?_,?_,?_,R.laid.pX (pS S)⟩
 ·by_cases e:m∈S
  ·refine R.dom m fun q=>hm ?_
   simp only [Hl.kY,if_pos e,q,Option.map_none]
  ·rw [mW e] at hm;exact R.dom m hm
 ·intro m o b hm ho
  by_cases e:m∈S
  ·rw [pQ e hm] at ho;exact ho.elim
  ·rw [mW e] at hm;exact R.lt m o b hm ho
 ·intro m o m' o' b hm ho hm' ho'
  by_cases e:m∈S
  ·rw [pQ e hm] at ho;exact ho.elim
  ·by_cases e':m'∈S
   ·rw [pQ e' hm'] at ho';exact ho'.elim
   ·rw [mW e] at hm;rw [mW e'] at hm';exact R.apart m o m' o' b hm ho hm' ho'
 ·intro m o hm
  by_cases e:m∈S
  ·rw [pQ e hm];trivial
  ·rw [mW e] at hm;exact (R.obj m o hm).pX fun b=>pS S b
theorem Ev.kY {E:Env} {h:aA} {w:World} (S:List Nat):Ev E h w E (kY h S) w :=
 ⟨Nat.le_refl _,fun b hb=>⟨rfl,pS S b hb⟩,fun _ _=>rfl,fun _ hn=>⟨rfl,hn⟩,rfl,rfl⟩
mutual
theorem eC.yQ {E:Env} {h:aA} {w:World} (R:Rel E h w) {S:List Nat}:∀ (x:OV),fR h x.rows→(∀ p∈x.rows,p.1∈S)→∀ v,eC E h w x.val v→eC E (Hl.kY h S) w x.lQ v
 | .v x,_,_,v,r=>eC.pX (fun b=>pS S b) r
 | .nil sz,_,_,v,r=>Sub.loose sz [] true _ _ _ _ (eC.pX (fun b=>pS S b) (show eC E h w (.sl sz [] true) v from r))
 | .sl n sz es,ho,hS,v,r=>by
  have hn:h n = some (.row sz (OV.cells es)):=ho (n,_) (by rw [OV.rows];exact List.mem_cons_self)
  have hnS:n∈S:=hS (n,_) (by rw [OV.rows];exact List.mem_cons_self)
  simp only [OV.val] at r
  simp only [OV.lQ]
  have hcells:∀ i j y,iE (OV.cells es) i j = some y→∃ c,iE es i j = some c∧y = .v c.val:=by
   intro i j y hy
   rw [OV.cells,nF] at hy
   obtain ⟨c,hc,rfl⟩:=Option.map_eq_some_iff.1 hy
   exact ⟨c,hc,rfl⟩
  have hdat:∀ i j y,iE (OV.cQ es) i j = some y→∃ c,iE es i j = some c∧y = c.lQ:=by
   intro i j y hy
   rw [OV.iU,nF] at hy
   obtain ⟨c,hc,rfl⟩:=Option.map_eq_some_iff.1 hy
   exact ⟨c,hc,rfl⟩
  have hlen:(OV.cQ es).length = es.length:=by rw [OV.iU,List.length_map]
  have key:∀ L,L = es.length→eC E h w (.os n sz 0 L) v→eC E (Hl.kY h S) w (.sl sz (OV.cQ es) false) v:=by
   intro L hL r
   cases r with
   |os0 _ _ hd hl =>
    have:es = []:=List.eq_nil_of_length_eq_zero hL.symm
    subst this
    exact .w7 sz false none 0 (fun _=>rfl) (by simp [maxLen]) trivial
   |os _ _ _ _ b o cap t m hd hl hlc hmax hsh hm =>
    obtain ⟨b',o',hl',hbS,hs,cs,ct,cv,T,hh,hm',hT,hD,hc,hrr⟩:=uZ R hn (.inr ⟨_,hl⟩)
    rw [hl] at hl'
    obtain ⟨rfl,rfl⟩:=Prod.mk.inj (Option.some.inj hl')
    have himm:∀ c,E.fp n c→nB E (Hl.kY h S) w c:=fun c hc=>aH6 R hnS hn trivial c hc
    have hcs:∀ i j y,iE (OV.cQ es) i j = some y→∃ c,iE es i j = some c∧y = c.lQ∧cs[o + i * sz + j]? = some (cv i j)∧(cv i j).oneCell' = true∧eC E h w c.val (cv i j):=by
     intro i j y hy
     obtain ⟨c,hc1,rfl⟩:=hdat i j y hy
     have hcell:iE (OV.cells es) i j = some (.v c.val):=by rw [OV.cells,nF,hc1];rfl
     have h2:=hrr i j _ hcell
     cases h2 with
     |v x c' S' h1 hx=>exact ⟨c,hc1,rfl,hc i j _ hcell,h1,hx⟩
    have:=eC.sl (E:=E) (h:=Hl.kY h S) (w:=w) sz (OV.cQ es) false b (o + 0 * sz) cap cv (himm b hbS) (by rw [hlen,← hL];exact hlc) hmax (fun e=>by simp at e)
     (fun e he=>by
      rw [OV.iU,List.mem_map] at he
      obtain ⟨e',he',rfl⟩:=he
      have:=hs (e'.map fun c=>Cell.v c.val) (List.mem_map.2 ⟨e',he',rfl⟩)
      simpa using this)
     (fun i j y hy=>by
      obtain ⟨c,_,_,h1,_,_⟩:=hcs i j y hy
      simp only [World.cell?,hh]
      rw [← h1]
      simp)
     (fun i j y hy=>by obtain ⟨c,_,_,_,h1,_⟩:=hcs i j y hy;exact h1)
     (fun i j y hy=>by
      obtain ⟨c,hc1,rfl,_,_,h1⟩:=hcs i j y hy
      obtain ⟨e,he,hj⟩:=jI hc1
      exact aAL R es (fun p hp=>ho p (by rw [OV.rows];exact List.mem_cons_of_mem _ hp)) (fun p hp=>hS p (by rw [OV.rows];exact List.mem_cons_of_mem _ hp)) e (List.mem_of_getElem? he) c (List.mem_of_getElem? hj) _ h1)
    rw [hlen,← hL] at this
    exact this
  exact key _ rfl r
theorem aAL {E:Env} {h:aA} {w:World} (R:Rel E h w) {S:List Nat}:∀ (es:List (List OV)),fR h (OV.bG es)→(∀ p∈OV.bG es,p.1∈S)→∀ e∈es,∀ c∈e,∀ v,eC E h w c.val v→eC E (Hl.kY h S) w c.lQ v
 | [],_,_,e,he,_,_,_,_=>by simp at he
 |a :: es,ho,hS,e,he,c,hc,v,r=>by
  rcases List.mem_cons.1 he with h1 | h1
  ·rw [h1] at hc
   exact aLA R a (fun p hp=>ho p (by rw [OV.bG];exact List.mem_append_left _ hp)) (fun p hp=>hS p (by rw [OV.bG];exact List.mem_append_left _ hp)) c hc v r
  ·exact aAL R es (fun p hp=>ho p (by rw [OV.bG];exact List.mem_append_right _ hp)) (fun p hp=>hS p (by rw [OV.bG];exact List.mem_append_right _ hp)) e h1 c hc v r
theorem aLA {E:Env} {h:aA} {w:World} (R:Rel E h w) {S:List Nat}:∀ (e:List OV),fR h (OV.bR e)→(∀ p∈OV.bR e,p.1∈S)→∀ c∈e,∀ v,eC E h w c.val v→eC E (Hl.kY h S) w c.lQ v
 | [],_,_,c,hc,_,_=>by simp at hc
 |a :: e,ho,hS,c,hc,v,r=>by
  rcases List.mem_cons.1 hc with h1 | h1
  ·rw [h1] at r ⊢
   exact eC.yQ R a (fun p hp=>ho p (by rw [OV.bR];exact List.mem_append_left _ hp)) (fun p hp=>hS p (by rw [OV.bR];exact List.mem_append_left _ hp)) v r
  ·exact aLA R e (fun p hp=>ho p (by rw [OV.bR];exact List.mem_append_right _ hp)) (fun p hp=>hS p (by rw [OV.bR];exact List.mem_append_right _ hp)) c h1 v r
end
mutual
def aC.fI:aC→Bool
 | .any | .bool _ | .int _ _ | .str _ | .iH | .bO | .pF | .kC | .mB=>true
 | .os _ _ _ _ | .op _ _ _ _ | .mp _=>true
 | .sl _ es _=>es.isEmpty
 | .agg cs=>aC.xG cs
 | .gW cs=>aC.xG cs
 | _=>false
def aC.xG:List aC→Bool
 | []=>true
 |x :: xs=>x.fI && aC.xG xs
end
theorem aC.xH:∀ {l:List aC},aC.xG l = true→∀ (i:Nat) x,l[i]? = some x→x.fI = true
 |y :: l,h,0,x,hx=>by simp only [aC.xG,Bool.and_eq_true] at h;simp at hx;subst hx;exact h.1
 |y :: l,h,i + 1,x,hx=>by simp only [aC.xG,Bool.and_eq_true] at h;exact aC.xH h.2 i x (by simpa using hx)
 | [],_,i,x,hx=>by simp at hx
def Cell.fI:Cell→Bool
 | .v x=>x.fI
 | .own _ _=>false
def bH.fI:bH→Bool
 | .row _ es=>es.all fun e=>e.all Cell.fI
 | .map _ _ _=>false
 | .raw _ _=>true
 | .abs _=>true
 | .gone=>true
theorem eC.fI {E E':Env} {h h':aA} {w w':World} (hl:∀ n,E.used n→E'.loc n = E.loc n∧E'.used n) (hs:∀ b,b < w.heap.size→w'.shape? b = w.shape? b) {x:aC} {v:Value} (r:eC E h w x v) (hx:x.fI = true):eC E' h' w' x v:=by
 induction r with
 |any v=>exact .any v
 |bool b=>exact .bool b
 |int k n=>exact .int k n
 |str s hl=>exact .str s hl
 |iH=>exact .iH
 |bO=>exact .bO
 |pF=>exact .pF
 |kC=>exact .kC
 |mB=>exact .mB
 |w7 sz t a cap ht hmax ha=>exact .w7 sz t a cap ht hmax ha
 |sl sz es t b o cap cv hi hcap hmax ht hs' hc h1 hr ih =>
  simp only [aC.fI,List.isEmpty_iff] at hx
  subst hx
  exact .w7 sz t _ cap (fun e=>by have:=ht e;simpa using this) hmax trivial
 |ip sz es i off b o cv hi hs' hc h1 hr ih=>simp [aC.fI] at hx
 |os n sz i len b o cap t m hd hl' hlc hmax hsh hm=>exact .os n sz i len b o cap t m (hl n hd).2 ((hl n hd).1.trans hl') hlc hmax ((hs b (aC4 hsh)).trans hsh) hm
 |os0 n sz hd hl'=>exact .os0 n sz (hl n hd).2 ((hl n hd).1.trans hl')
 |op n sz i off b o hd hl'=>exact .op n sz i off b o (hl n hd).2 ((hl n hd).1.trans hl')
 |agg cs vs hle hr ih=>exact .agg cs vs hle fun i x v a b=>ih i x v a b (aC.xH (by simpa only [aC.fI] using hx) i x a)
 |gW cs vs hle hr ih=>exact .gW cs vs hle fun i x v a b=>ih i x v a b (aC.xH (by simpa only [aC.fI] using hx) i x a)
 |fn f cs ds vs us hle hr hle' hr' ih ih'=>simp [aC.fI] at hx
 |iface t x v hr ih=>simp [aC.fI] at hx
 |mp n b o hd hl'=>exact .mp n b o (hl n hd).2 ((hl n hd).1.trans hl')
theorem x6.fI {E E':Env} {h h':aA} {w w':World} (hl:∀ n,E.used n→E'.loc n = E.loc n∧E'.used n) (hs:∀ b,b < w.heap.size→w'.shape? b = w.shape? b) {n:Nat} {o:bH} (hn:E'.loc n = E.loc n) (hfp:E'.fp n = E.fp n)
  (hm:∀ b,E.fp n b→w'.heap[b]? = w.heap[b]?) (ho:o.fI = true) (r:x6 E h w n o):x6 E' h' w' n o:=by
 cases o with
 |gone=>trivial
 |raw t cs=>obtain ⟨b,hb,hf,hr⟩:=r;exact ⟨b,hn.trans hb,by rw [hfp];exact hf,(hm b hf).trans hr⟩
 |abs Q=>obtain ⟨b,hb,hf,w0,hq,ha⟩:=r;exact ⟨b,hn.trans hb,by rw [hfp];exact hf,w0,by rw [hfp];exact hq,fun c hc=>by rw [hfp] at hc;exact (hm c hc).trans (ha c hc)⟩
 |map _ _ _=>simp [bH.fI] at ho
 |row sz es =>
  rcases r with ⟨b,o',h1,h2⟩ | ⟨h1,h2⟩
  ·refine .inl ⟨b,o',hn.trans h1,?_⟩
   obtain ⟨hb,hsz,cs,t,cv,T,hh,hle,hT,hD,hc,hr⟩:=h2
   rw [hfp]
   refine ⟨hb,hsz,cs,t,cv,T,(hm b hb).trans hh,hle,hT,hD,hc,fun i j x hx=>?_⟩
   have hsx:x.fI = true:=by
    obtain ⟨e,he,hj⟩:=jI hx
    have h3:=List.all_eq_true.1 ho e (List.mem_of_getElem? he)
    exact List.all_eq_true.1 h3 x (List.mem_of_getElem? hj)
   have hx':=hr i j x hx
   cases x with
   |own _ _=>simp [Cell.fI] at hsx
   |v y =>
    generalize cv i j = cc at hx'
    cases hx' with
    |v _ _ _ h1' hy=>exact .v y _ _ h1' (hy.fI hl hs hsx)
  ·exact .inr ⟨h1,hn.trans h2⟩
def OR {α:Type} (R:α→List OV→Prop):List α→List (List OV)→Prop
 | [],[]=>True
 |x :: l,e :: es=>R x e∧OR R l es
 | _,_=>False
def OS {α:Type} (R:α→List OV→Prop) (sz:Nat) (l:List α) (y:OV):Prop:=(y = .nil sz∧l = [])∨∃ n es,y = .sl n sz es∧OR R l es
def oP {α:Type} (c:α→aC) (x:α) (e:List OV):Prop:=e = [.v (c x)]
theorem OR.length {α:Type} {R:α→List OV→Prop}:∀ {l:List α} {es:List (List OV)},OR R l es→l.length = es.length
 | [],[],_=>rfl
 |x :: l,e :: es,h=>by simpa using OR.length h.2
 | [],_ :: _,h=>h.elim
 | _ :: _,[],h=>h.elim
theorem OR.get {α:Type} {R:α→List OV→Prop}:∀ {l:List α} {es:List (List OV)},OR R l es→∀ (i:Nat) x e,l[i]? = some x→es[i]? = some e→R x e
 |x :: l,e :: es,h,0,y,d,hy,hd=>by simp at hy hd;subst hy;subst hd;exact h.1
 |x :: l,e :: es,h,i + 1,y,d,hy,hd=>OR.get h.2 i y d (by simpa using hy) (by simpa using hd)
 | [],[],_,i,y,d,hy,_=>by simp at hy
 | [],_ :: _,h,_,_,_,_,_=>h.elim
 | _ :: _,[],h,_,_,_,_,_=>h.elim
theorem OR.append {α:Type} {R:α→List OV→Prop}:∀ {l l':List α} {es es':List (List OV)},OR R l es→OR R l' es'→OR R (l ++ l') (es ++ es')
 | [],_,[],_,_,h=>h
 |x :: l,_,e :: es,_,a,h=>⟨a.1,OR.append a.2 h⟩
 | [],_,_ :: _,_,a,_=>a.elim
 | _ :: _,_,[],_,a,_=>a.elim
theorem OR.lQ {α:Type} {R:α→List OV→Prop} {c:α→List aC} (hR:∀ x e,R x e→e.map OV.lQ = c x):∀ {l:List α} {es:List (List OV)},OR R l es→OV.cQ es = l.map c
 | [],[],_=>rfl
 |x :: l,e :: es,h=>by rw [OV.cQ,OR.lQ hR h.2,OV.s5,hR x e h.1];rfl
 | [],_ :: _,h=>h.elim
 | _ :: _,[],h=>h.elim
theorem OS.lQ {α:Type} {R:α→List OV→Prop} {c:α→List aC} {sz:Nat} {l:List α} {y:OV} (hR:∀ x e,R x e→e.map OV.lQ = c x) (h:OS R sz l y):y.lQ = .sl sz (l.map c) false:=by
 rcases h with ⟨rfl,rfl⟩ | ⟨n,es,rfl,h⟩
 ·rfl
 ·simp only [OV.lQ,OR.lQ hR h]
def a4 (l:List (Nat × bH)):List Nat:=l.map (·.1)
def a4I (S:List Nat) (h h':aA):Prop:=∀ m,m ∉ S→h' m = h m
open Go.ChangeShapes Go.WideShapes
theorem aH7 {H:Type} {enc:TypeId × Value→H} {C:Checked} {os:Os} {f:FuncId} {fn:Func} {s:ChangeSpec}
  (own:ownKnob C.prog.godebug = none) (started:os.Started) (noInit:C.prog.inits.idxOf? f = none) (hfn:C.prog.funcs[f]? = some fn)
  (witness:∃ (w:World) (tape:Tape) (i:Input),w.os = os∧(w.forCall tape i).Shaped C.prog∧i.vars = []∧Input.okWide C.prog (w.forCall tape i) .any w.heap.size f i ∧
   s.pre6 enc C.prog fn [] false (w.forCall tape i).memory i.args∧({}:Assume).holds C.prog (lone (Frame.enter C.prog f i.args .normal) [] (w.forCall tape i)))
  (lo:laidOutB C.prog = true) (mr:mapsRowed C.prog = true)
  (hz:((List.range C.prog.types.size).all fun t=>match C.prog.underlying t with | some (.slice e)=>decide (0 < C.prog.cellsOf e) | _=>true) = true)
  (T:List TypeId) (hT:aST C.prog T = true) (hp:fn.params.all (fun t=>decide (t < C.prog.types.size) && T.contains t) = true)
  (hsv:s.vars = []) (hs:∀ ds:List (DataW H),ds.length = fn.params.size→s.fn H ds = { results:=[.lit (.bool true)],args:=ds })
  {tb:TypeId} (hr:fn.resultTypes = #[tb]) (htb:C.prog.underlying tb = some .bool)
  (hc:∀ xs,aK6 C.prog fn.params.toList xs→fE C.prog f xs nZ fun r _=>r = .bool true) (hl0:aC3 = []:=by rfl) :
  ReturnsInHanded {} C os f .any (s.pre6 enc C.prog fn [] false) (s.post enc C.prog fn false true false false):=by
 refine returnsInHanded_of_change own started noInit hfn witness ?_
 intro W base args ds gs before hval hW _ _
 have hW0:=hW
 obtain ⟨p,q,hA,hV,_,_,_⟩:=hW
 have hp':=Array.all_eq_true_iff_forall_mem.1 hp
 simp only [Bool.and_eq_true,decide_eq_true_eq] at hp'
 have hbase:∀ (j:Nat) t v,fn.params.toList[j]? = some t→args.toList[j]? = some v→Value.okWide C.prog W .any base t v:=fun j t v h1 h2=>hval j t v (by simpa using h1) (by simpa using h2)
 obtain ⟨xs,h1,h2,h3⟩:=aGT hT (E:=aK7) (h:=nZ) (fun b hb=>aK8 hb) (fun t ht=>by have:=(hp' t (by simpa using ht)).2;simpa using this) hbase hA
 refine Calls.mono (by simpa using (hc xs h1).2 aK7 W args.toList (aUW W fun p hp=>by rw [hl0] at hp;cases hp) h2) fun e W' he=>?_
 cases e with
 |returned v =>
  obtain ⟨r,h',E',rfl,ev,_,rep⟩:=he
  cases rep
  exact ⟨_,rfl,aUV lo mr hz (by rw [Array.all_eq_true_iff_forall_mem];intro t ht;simpa using (hp' t ht).1) hsv hs hr htb hW0 (by simpa using h3) (fun b hb=>(ev.keep b (aK8 hb)).1) ev.os ev.out⟩
 | _=>exact he.elim
def qR {α:Type} (s:α→Nat) (l:List α):Nat:=l.length + (l.map s).sum
theorem fM {α:Type} (s:α→Nat) (l:List α):qR s l = l.length + (l.map s).sum:=rfl
theorem OV.vG:∀ (a b:List OV),OV.bR (a ++ b) = OV.bR a ++ OV.bR b
 | [],b=>rfl
 |x :: a,b=>by rw [List.cons_append,OV.bR,OV.vG a b,OV.bR,List.append_assoc]
theorem OV.mK:∀ (a b:List (List OV)),OV.bG (a ++ b) = OV.bG a ++ OV.bG b
 | [],b=>rfl
 |x :: a,b=>by rw [List.cons_append,OV.bG,OV.mK a b,OV.bG,List.append_assoc]
theorem cJ (a b:List (Nat × bH)):a4 (a ++ b) = a4 a ++ a4 b:=List.map_append
theorem b5 {l:List (Nat × bH)} {m:Nat}:m∈a4 l ↔ ∃ o,(m,o)∈l:=by
 simp [a4]
structure g8 (h:aA) (l:List (Nat × bH)) (h':aA):Prop where
 nodup:(a4 l).Nodup
 fresh:∀ m∈a4 l,h m = none
 iD:fR h' l
 upto:a4I (a4 l) h h'
theorem g8.nil (h:aA):g8 h [] h:=⟨List.nodup_nil,by simp [a4],by simp [fR],fun m _=>rfl⟩
theorem g8.one {h:aA} {n:Nat} {o:bH} (hn:h n = none):g8 h [(n,o)] (a7 h n o) :=
 ⟨by simp [a4],by simpa [a4] using hn,by simp [fR],fun m hm=>aF _ _ _ _ (by simpa [a4] using hm)⟩
theorem g8.append {h h1 h2:aA} {a b:List (Nat × bH)} (x:g8 h a h1) (y:g8 h1 b h2):g8 h (a ++ b) h2:=by
 have dis:∀ m∈a4 a,m ∉ a4 b:=fun m hm hb=>by
  obtain ⟨o,ho⟩:=b5.1 hm
  have:=y.fresh m hb
  rw [x.iD _ ho] at this;cases this
 refine ⟨?_,?_,?_,?_⟩
 ·rw [cJ]
  exact List.nodup_append.2 ⟨x.nodup,y.nodup,fun p hp q hq e=>dis p hp (e ▸ hq)⟩
 ·intro m hm
  rw [cJ,List.mem_append] at hm
  by_cases hb:m∈a4 a
  ·exact x.fresh m hb
  ·rcases hm with hm | hm
   ·exact absurd hm hb
   ·rw [← x.upto m hb];exact y.fresh m hm
 ·intro p hp
  rcases List.mem_append.1 hp with hp | hp
  ·have:p.1∈a4 a:=b5.2 ⟨p.2,hp⟩
   rw [y.upto p.1 (dis _ this)];exact x.iD p hp
  ·exact y.iD p hp
 ·intro m hm
  rw [cJ,List.mem_append] at hm
  rw [y.upto m fun q=>hm (.inr q),x.upto m fun q=>hm (.inl q)]
theorem g8.perm {h h':aA} {a b:List (Nat × bH)} (x:g8 h a h') (p:a.Perm b):g8 h b h' :=
 ⟨(p.map _).nodup_iff.1 x.nodup,fun m hm=>x.fresh m (((p.map (·.1)).mem_iff).2 hm),fun q hq=>x.iD q (p.mem_iff.2 hq),fun m hm=>x.upto m fun q=>hm (((p.map (·.1)).mem_iff).1 q)⟩
theorem g8.set {h h':aA} {n:Nat} {o o':bH} {l:List (Nat × bH)} (x:g8 h ((n,o) :: l) h'):g8 h ((n,o') :: l) (a7 h' n o'):=by
 have hnd:=x.nodup
 have hn:n ∉ a4 l:=by
  have:(a4 ((n,o) :: l)).Nodup:=hnd
  simp only [a4,List.map_cons,List.nodup_cons] at this
  exact this.1
 refine ⟨hnd,x.fresh,?_,fun m hm=>?_⟩
 ·intro p hp
  rcases List.mem_cons.1 hp with rfl | hp
  ·exact aH _ _ _
  ·have:p.1≠n:=fun e=>hn (e ▸ b5.2 ⟨p.2,hp⟩)
   rw [aF _ _ _ _ this];exact x.iD p (List.mem_cons_of_mem _ hp)
 ·have:m≠n:=fun e=>hm (by subst e;simp [a4])
  rw [aF _ _ _ _ this];exact x.upto m hm
def lK (h:aA) (S:List Nat):aA:=fun m=>if m∈S then none else h m
theorem g8.drop {h h':aA} {a b:List (Nat × bH)} (x:g8 h (a ++ b) h'):g8 h b (lK h' (a4 a)):=by
 have hnd:=x.nodup
 rw [cJ] at hnd
 obtain ⟨_,nb,dis⟩:=List.nodup_append.1 hnd
 refine ⟨nb,fun m hm=>x.fresh m (by rw [cJ];exact List.mem_append_right _ hm),fun p hp=>?_,fun m hm=>?_⟩
 ·have:p.1 ∉ a4 a:=fun q=>dis _ q _ (b5.2 ⟨p.2,hp⟩) rfl
  simp only [lK,if_neg this]
  exact x.iD p (List.mem_append_right _ hp)
 ·by_cases e:m∈a4 a
  ·simp only [lK,if_pos e]
   exact (x.fresh m (by rw [cJ];exact List.mem_append_left _ e)).symm
  ·simp only [lK,if_neg e]
   exact x.upto m (by rw [cJ];simp [e,hm])
theorem aLB {P:Program} {f:FuncId} {args:List aC} {r:aC} {K:aC→aA→Prop} (h:aA) (a:fE P f args h K)
  (hk:∀ r' h',K r' h'→∃ l,g8 h l h'∧∀ E w v,Rel E h' w→eC E h' w r' v→eC E (kY h' (a4 l)) w r v):fE P f args h fun r' h'=>r' = r∧h' = h :=
 ⟨a.1,fun E w vs R hv=>Calls.mono (a.2 E w vs R hv) fun e w' he=>by
  cases e <;> try exact he
  obtain ⟨r',h',E',k,ev,R',rx⟩:=he
  obtain ⟨l,nw,hr⟩:=hk r' h' k
  have hle:h.le (kY h' (a4 l)):=fun m=>by
   by_cases e:m∈a4 l
   ·exact .inl (nw.fresh m e)
   ·rw [mW e,nw.upto m e];exact .inr rfl
  refine ⟨r,h,E',⟨rfl,rfl⟩,ev.trans ((Ev.kY _).forget hle),(R'.kY _).forget hle,?_⟩
  refine eC.pX (fun b hb=>nB.le hle hb) (hr E' w' _ R' rx)⟩
theorem cX.yQ {E:Env} {h:aA} {w:World} (R:Rel E h w) {S:List Nat}:∀ (e:List OV) (vs:List Value),fR h (OV.bR e)→(∀ p∈OV.bR e,p.1∈S)→cX E h w (e.map OV.val) vs→cX E (kY h S) w (e.map OV.lQ) vs
 | [],[],_,_,_=>trivial
 |x :: e,v :: vs,ho,hS,hr=>⟨eC.yQ R x (fun p hp=>ho p (by rw [OV.bR];exact List.mem_append_left _ hp)) (fun p hp=>hS p (by rw [OV.bR];exact List.mem_append_left _ hp)) v hr.1,
   cX.yQ R e vs (fun p hp=>ho p (by rw [OV.bR];exact List.mem_append_right _ hp)) (fun p hp=>hS p (by rw [OV.bR];exact List.mem_append_right _ hp)) hr.2⟩
 | [],_ :: _,_,_,hr=>hr.elim
 | _ :: _,[],_,_,hr=>hr.elim
theorem eC.aUX {E:Env} {h:aA} {w:World} (R:Rel E h w) {S:List Nat} (e:List OV) (v:Value) (ho:fR h (OV.bR e)) (hS:∀ p∈OV.bR e,p.1∈S) (hr:eC E h w (.agg (e.map OV.val)) v):eC E (kY h S) w (.agg (e.map OV.lQ)) v:=by
 cases hr with
 |agg _ vs hl hr =>
  have:=cX.yQ R e vs ho hS (cX.mk hl hr)
  exact .agg _ vs this.length this.get
def oS {α:Type} (R:α→List OV→Prop) (sz:Nat) (l:List α) (e:List OV):Prop:=∃ y,e = [y]∧OS R sz l y
theorem xI {α:Type} {c:α→aC} {x:α} {e:List OV} (h:oP c x e):e.map OV.lQ = [c x]:=by
 unfold oP at h;subst h;rfl
theorem aH8 {α:Type} {R:α→List OV→Prop} {c:α→List aC} {sz:Nat} {l:List α} {e:List OV} (hR:∀ x e,R x e→e.map OV.lQ = c x) (h:oS R sz l e):e.map OV.lQ = [.sl sz (l.map c) false]:=by
 obtain ⟨y,rfl,h⟩:=h
 simp only [List.map_cons,List.map_nil,OS.lQ hR h]
structure aAM (h:aA) (T:List Nat) (l:List (Nat × bH)) (h':aA):Prop where
 nodup:(T ++ a4 l).Nodup
 fresh:∀ m∈T ++ a4 l,h m = none
 there:∀ m∈T,h' m≠none
 iD:fR h' l
 upto:a4I (T ++ a4 l) h h'
theorem aAM.a98 {h h':aA} {l:List (Nat × bH)} (x:aAM h [] l h'):g8 h l h':=⟨x.nodup,x.fresh,x.iD,x.upto⟩
theorem g8.toT {h h':aA} {l:List (Nat × bH)} (x:g8 h l h'):aAM h [] l h':=⟨x.nodup,x.fresh,by simp,x.iD,x.upto⟩
theorem aAM.drop {h h':aA} {T:List Nat} {l:List (Nat × bH)} (x:aAM h T l h'):g8 h l (lK h' T):=by
 obtain ⟨_,nb,dis⟩:=List.nodup_append.1 x.nodup
 refine ⟨nb,fun m hm=>x.fresh m (List.mem_append_right _ hm),fun p hp=>?_,fun m hm=>?_⟩
 ·have:p.1 ∉ T:=fun q=>dis _ q _ (b5.2 ⟨p.2,hp⟩) rfl
  simp only [lK,if_neg this]
  exact x.iD p hp
 ·by_cases e:m∈T
  ·simp only [lK,if_pos e]
   exact (x.fresh m (List.mem_append_left _ e)).symm
  ·simp only [lK,if_neg e]
   exact x.upto m (by simp [e,hm])
theorem aAM.some {h h':aA} {T:List Nat} {l:List (Nat × bH)} (x:aAM h T l h') {m:Nat} (hm:m∈T ++ a4 l):h' m≠none:=by
 rcases List.mem_append.1 hm with hm | hm
 ·exact x.there m hm
 ·obtain ⟨o,ho⟩:=b5.1 hm
  rw [x.iD _ ho];simp
theorem aAM.row {h h':aA} {T:List Nat} {l:List (Nat × bH)} (x:aAM h T l h') {n:Nat} {o:bH} (hn:h' n = none):aAM h T ((n,o) :: l) (a7 h' n o):=by
 have uS:n ∉ T ++ a4 l:=fun q=>x.some q hn
 have nd:=List.nodup_append.1 x.nodup
 refine ⟨List.nodup_append.2 ⟨nd.1,?_,?_⟩,?_,?_,fun p hp=>?_,fun m hm=>?_⟩
 ·show (n :: a4 l).Nodup
  exact List.nodup_cons.2 ⟨fun q=>uS (List.mem_append_right _ q),nd.2.1⟩
 ·intro a ha b hb e
  have hb':b∈n :: a4 l:=hb
  rcases List.mem_cons.1 hb' with rfl | hb'
  ·exact uS (e ▸ List.mem_append_left _ ha)
  ·exact nd.2.2 a ha b hb' e
 ·intro m hm
  rcases List.mem_append.1 hm with hm | hm
  ·exact x.fresh m (List.mem_append_left _ hm)
  ·have hm':m∈n :: a4 l:=hm
   rcases List.mem_cons.1 hm' with rfl | hm'
   ·rw [← x.upto m uS];exact hn
   ·exact x.fresh m (List.mem_append_right _ hm')
 ·intro m hm
  have:m≠n:=fun e=>uS (e ▸ List.mem_append_left _ hm)
  rw [aF _ _ _ _ this];exact x.there m hm
 ·rcases List.mem_cons.1 hp with rfl | hp
  ·exact aH _ _ _
  ·have:p.1≠n:=fun e=>uS (e ▸ List.mem_append_right _ (b5.2 ⟨p.2,hp⟩))
   rw [aF _ _ _ _ this];exact x.iD p hp
 ·have h1:m≠n:=fun e=>hm (e ▸ List.mem_append_right _ (by simp [a4]))
  rw [aF _ _ _ _ h1]
  refine x.upto m fun q=>hm ?_
  rcases List.mem_append.1 q with q | q
  ·exact List.mem_append_left _ q
  ·exact List.mem_append_right _ (List.mem_cons_of_mem _ q)
theorem g8.keep {h h':aA} {l:List (Nat × bH)} (x:g8 h l h') {n:Nat} {o:bH} (hn:h n = some o):h' n = some o:=by
 rw [x.upto n fun q=>by rw [x.fresh n q] at hn;cases hn];exact hn
theorem aAM.set {h h':aA} {T:List Nat} {n:Nat} {o o':bH} {l:List (Nat × bH)} (x:aAM h T ((n,o) :: l) h'):aAM h T ((n,o') :: l) (a7 h' n o'):=by
 have nd:=List.nodup_append.1 x.nodup
 have nd2:(n :: a4 l).Nodup:=nd.2.1
 refine ⟨x.nodup,x.fresh,fun m hm=>?_,fun p hp=>?_,fun m hm=>?_⟩
 ·by_cases e:m = n
  ·subst e;simp
  ·rw [aF _ _ _ _ e];exact x.there m hm
 ·rcases List.mem_cons.1 hp with rfl | hp
  ·exact aH _ _ _
  ·have:p.1≠n:=fun e=>(List.nodup_cons.1 nd2).1 (e ▸ b5.2 ⟨p.2,hp⟩)
   rw [aF _ _ _ _ this];exact x.iD p (List.mem_cons_of_mem _ hp)
 ·have h1:m≠n:=fun e=>hm (e ▸ List.mem_append_right _ (by simp [a4]))
  rw [aF _ _ _ _ h1];exact x.upto m hm
theorem xJ {α:Type} {c:α→aC}:∀ (l:List α),OR (oP c) l (l.map fun x=>[.v (c x)])
 | []=>trivial
 |x :: l=>⟨rfl,xJ l⟩
theorem eS {α:Type} (c:α→aC) (l:List α):OV.cells (l.map fun x=>[OV.v (c x)]) = (l.map fun x=>[c x]).map (List.map .v):=by
 simp [OV.cells,OV.val]
theorem fW {α:Type} (c:α→aC):∀ (l:List α),OV.bG (l.map fun x=>[OV.v (c x)]) = []
 | []=>rfl
 |x :: l=>by rw [List.map_cons,OV.bG,fW c l];rfl
theorem OV.eV (x:aC):(OV.v x).val = x:=rfl
theorem OS.flat {α:Type} {R:α→List OV→Prop} {sz:Nat} {l:List α} {y:OV} (h:OS R sz l y):y.val.flat = true:=by
 rcases h with ⟨rfl,_⟩ | ⟨n,es,rfl,_⟩ <;> rfl
theorem OS.one {α:Type} {R:α→List OV→Prop} {sz:Nat} {l:List α} {y:OV} (h:OS R sz l y):y.val.cells = [y.val]:=by
 rcases h with ⟨rfl,_⟩ | ⟨n,es,rfl,_⟩ <;> rfl
theorem aSV {es:List (List OV)} (e:List OV) {z:List Cell} {k m:Nat} (hk:es.length = k) (hm:0 < m) :
  (OV.cells es ++ List.replicate m z).set k (e.map fun c=>Cell.v c.val) = OV.cells (es ++ [e]) ++ List.replicate (m - 1) z:=by
 obtain ⟨m,rfl⟩:∃ j,m = j + 1:=⟨m - 1,by omega⟩
 have hl:(OV.cells es).length = k:=by simp [OV.cells,hk]
 rw [List.set_append_right _ _ (by omega),hl,Nat.sub_self,List.replicate_succ,List.set_cons_zero]
 simp [OV.cells]
theorem oG (es:List (List OV)) (e:List OV):OV.bG (es ++ [e]) = OV.bG es ++ OV.bR e:=by
 rw [OV.mK];simp only [OV.bG,List.append_nil]
def rN (P:Program) (f:FuncId) (args:List aC) (Q:aC→List (Nat × bH)→Prop):Prop:=∀ h:aA,fE P f args h fun r h'=>∃ l,Q r l∧g8 h l h'
theorem g8.under {g h':aA} {n:Nat} {o:bH} {l:List (Nat × bH)} (hg:g n = none) (x:g8 (a7 g n o) l h'):∃ g',h' = a7 g' n o∧g8 g l g'∧g' n = none:=by
 have hn:n ∉ a4 l:=fun q=>by have:=x.fresh n q;simp at this
 have hk:h' n = some o:=x.keep (aH _ _ _)
 refine ⟨lK h' [n],?_,⟨x.nodup,fun m hm=>?_,fun p hp=>?_,fun m hm=>?_⟩,by simp [lK]⟩
 ·funext m
  by_cases e:m = n
  ·subst e;rw [aH,hk]
  ·rw [aF _ _ _ _ e];simp [lK,e]
 ·have e:m≠n:=fun e=>hn (e ▸ hm)
  have:=x.fresh m hm
  rwa [aF _ _ _ _ e] at this
 ·have e:p.1≠n:=fun e=>hn (e ▸ b5.2 ⟨p.2,hp⟩)
  have:lK h' [n] p.1 = h' p.1:=by simp [lK,e]
  rw [this];exact x.iD p hp
 ·by_cases e:m = n
  ·subst e;rw [hg];simp [lK]
  ·have:lK h' [n] m = h' m:=by simp [lK,e]
   rw [this,x.upto m hm,aF _ _ _ _ e]
theorem g8.a4J {g h':aA} {n m:Nat} {x y:bH} {l:List (Nat × bH)} (hn:g n = none) (hm:a7 g n x m = none) (q:g8 (a7 (a7 g n x) m y) l h'):∃ g',h' = a7 (a7 g' n x) m y∧g8 g l g'∧g' n = none∧a7 g' n x m = none:=by
 obtain ⟨g1,rfl,q1,h1⟩:=q.under hm
 obtain ⟨g2,rfl,q2,h2⟩:=q1.under hn
 exact ⟨g2,rfl,q2,h2,h1⟩
section
variable {P:Program} {f:FuncId} {args:List aC} {Q:aC→List (Nat × bH)→Prop} {K:aC→aA→Prop} {t:Tag K}
theorem aG.nw1 {g:aA} {n:Nat} {x:bH} (a:rN P f args Q) (hn:g n = none) (k:∀ r l g',Q r l→g8 g l g'→g' n = none→K r (a7 g' n x)):aG P f args (a7 g n x) K t :=
 aG.gQ (a _) fun r h' ⟨l,q,hq⟩=>by obtain ⟨g',rfl,q2,h1⟩:=hq.under hn;exact k r l g' q q2 h1
theorem aG.nw2 {g:aA} {n m:Nat} {x y:bH} (a:rN P f args Q) (hn:g n = none) (hm:m≠n∧g m = none) (k:∀ r l g',Q r l→g8 g l g'→g' n = none→g' m = none→K r (a7 (a7 g' n x) m y)):aG P f args (a7 (a7 g n x) m y) K t :=
 aG.gQ (a _) fun r h' ⟨l,q,hq⟩=>by
  obtain ⟨g',rfl,q2,h1,h2⟩:=hq.a4J hn (b8.2 hm)
  exact k r l g' q q2 h1 (b8.1 h2).2
end
theorem pI {P:Program} {f:FuncId} {fn:Func} {c:Code} (N:Nat) (keep ib:List Nat) (mk:Marks) {args:List aC} {Q:aC→List (Nat × bH)→Prop} (hmix:P.follows .mixedOrders = true) (hf:P.funcs[f]? = some fn) (hb:fn.body = some c)
  (hck:(kX P f && decide (fn.ntmps = N) && iS N mk c) = true) (hl:args.length≤N)
  (hw:∀ h,oO P N keep ib mk c (fun τ h'=>p7 P fn.results (fun r h'=>∃ r1 g l,Shift r h' r1 g∧Q r1 l∧g8 h l g) () .normal τ h') (p7 P fn.results (fun r h'=>∃ r1 g l,Shift r h' r1 g∧Q r1 l∧g8 h l g) ()) (p4 0 args) h ()):rN P f args Q:=by
 intro h
 have h1:fE P f args h (fun r h'=>∃ r1 g l,Shift r h' r1 g∧Q r1 l∧g8 h l g) :=
  fE.mono (yP (K:=fun r h'=>∃ r1 g l,Shift r h' r1 g∧Q r1 l∧g8 h l g) N keep ib mk hmix hf hb hck hl (by
   have:=hw h
   refine Eq.mp ?_ this
   have e:(fun r h'=>∃ r1 g l,Shift r h' r1 g∧Q r1 l∧g8 h l g) = (fun r h'=>∃ g':aA,g'.le h'∧∃ r1 g l,Shift r g' r1 g∧Q r1 l∧g8 h l g):=by
    funext r h'
    refine propext ⟨fun ⟨r1,g,l,s,q⟩=>⟨h',aA.le_refl _,r1,g,l,s,q⟩,fun ⟨g',hl,r1,g,l,s,q⟩=>⟨r1,g,l,(Shift.of (Sub.refl _) hl).trans s,q⟩⟩
   rw [e])) fun r h' q=>q
 exact p6 (fn:=fn) (c:=c) (N:=N) h1 fun r h' ⟨r1,g,l,s,q,n⟩=>⟨r1,g,s,l,q,n⟩
theorem rN.cD {P:Program} {f:FuncId} {args:List aC} {Q:aC→List (Nat × bH)→Prop} {r:aC} (a:rN P f args Q)
  (hk:∀ r' l,Q r' l→∀ E w v h',fR h' l→Rel E h' w→eC E h' w r' v→eC E (kY h' (a4 l)) w r v):dI P f args r:=fun h =>
 aLB h (a h) fun r' h' ⟨l,q,hn⟩=>⟨l,hn,fun E w v R rx=>hk r' l q E w v h' hn.iD R rx⟩
def nU (h:aA):aA:=fun m=>(h m).map fun _=>.gone
theorem s6 {h:aA} {m:Nat} {o:bH} (ho:nU h m = some o):o = .gone:=by
 simp only [nU,Option.map_eq_some_iff] at ho
 obtain ⟨_,_,rfl⟩:=ho;rfl
theorem r7 {E:Env} {h:aA} {w:World} {b:Nat} (hb:b < w.heap.size):nB E (nU h) w b:=⟨hb,fun m o hm ho=>by rw [s6 hm] at ho;exact ho.elim⟩
theorem Rel.nU {E:Env} {h:aA} {w:World} (R:Rel E h w):Rel E (nU h) w:=by
 refine ⟨R.fin,fun m hm=>R.dom m fun q=>hm (by simp [Hl.nU,q]),?_,?_,?_,R.laid.pX fun b hb=>r7 hb.1⟩
 ·intro m o b hm ho;rw [s6 hm] at ho;exact ho.elim
 ·intro m o m' o' b hm ho;rw [s6 hm] at ho;exact ho.elim
 ·intro m o hm;rw [s6 hm];trivial
theorem fE.a18 {P:Program} {f:FuncId} {args args':List aC} {h:aA} {K:aC→aA→Prop} {K':aC→List (Nat × bH)→Prop}
  (hview:∀ E w vs,Rel E h w→cX E h w args vs→cX E (nU h) w args' vs) (a:fE P f args' (nU h) K)
  (hK:∀ r h',K r h'→∃ l,K' r l∧g8 (nU h) l h'∧r.fI = true∧∀ p∈l,p.2.fI = true) :
  fE P f args h fun r h'=>∃ l,K' r l∧g8 h l h':=by
 refine ⟨a.1,fun E w vs R hv=>Calls.mono (a.2 E w vs R.nU (hview E w vs R hv)) fun e w' he=>?_⟩
 cases e <;> try exact he
 obtain ⟨r,h',E',k,ev,R',rx⟩:=he
 obtain ⟨l,k',nw,hr,hsol⟩:=hK r h' k
 have hnew:∀ m∈a4 l,h m = none:=fun m hm=>by
  have:=nw.fresh m hm
  simpa [nU] using this
 let h2:aA:=fun m=>if m∈a4 l then h' m else h m
 have e1:∀ m,m∈a4 l→h2 m = h' m:=fun m hm=>if_pos hm
 have e2:∀ m,m ∉ a4 l→h2 m = h m:=fun m hm=>if_neg hm
 let E2:Env:={ loc:=E'.loc,fp:=fun n=>if n∈a4 l then E'.fp n else E.fp n,used:=E'.used }
 have f1:∀ m,m∈a4 l→E2.fp m = E'.fp m:=fun m hm=>if_pos hm
 have f2:∀ m,m ∉ a4 l→E2.fp m = E.fp m:=fun m hm=>if_neg hm
 have aN3:∀ b,b < w.heap.size→nB E (nU h) w b:=fun b hb=>r7 hb
 have solL:∀ m o,m∈a4 l→h' m = some o→o.fI = true:=fun m o hm ho=>by
  obtain ⟨o',ho'⟩:=b5.1 hm
  have:=nw.iD _ ho'
  rw [ho] at this
  obtain rfl:=Option.some.inj this
  exact hsol _ ho'
 have evA:Ev E h w E2 h2 w':=by
  refine ⟨ev.size,fun b hb=>?_,ev.shape,ev.loc,ev.os,ev.out⟩
  have h1:=ev.keep b (aN3 b hb.1)
  refine ⟨h1.1,h1.2.1,fun m o hm ho hf=>?_⟩
  by_cases e:m∈a4 l
  ·rw [e1 m e] at hm;rw [f1 m e] at hf;exact h1.2.2 m o hm ho hf
  ·rw [e2 m e] at hm;rw [f2 m e] at hf;exact hb.2 m o hm ho hf
 have R2:Rel E2 h2 w':=by
  refine ⟨R'.fin,fun m hm=>?_,?_,?_,?_,R.laid.ev evA⟩
  ·by_cases e:m∈a4 l
   ·rw [e1 m e] at hm;exact R'.dom m hm
   ·rw [e2 m e] at hm;exact (ev.loc m (R.dom m hm)).2
  ·intro m o b hm ho hf
   by_cases e:m∈a4 l
   ·rw [e1 m e] at hm;rw [f1 m e] at hf;exact R'.lt m o b hm ho hf
   ·rw [e2 m e] at hm;rw [f2 m e] at hf;exact Nat.lt_of_lt_of_le (R.lt m o b hm ho hf) ev.size
  ·intro m o m' o' b hm ho hm' ho' hf hf'
   by_cases e:m∈a4 l
   ·rw [e1 m e] at hm;rw [f1 m e] at hf
    by_cases e':m'∈a4 l
    ·rw [e1 m' e'] at hm';rw [f1 m' e'] at hf';exact R'.apart m o m' o' b hm ho hm' ho' hf hf'
    ·rw [e2 m' e'] at hm';rw [f2 m' e'] at hf'
     exact absurd hf ((ev.keep b (aN3 b (R.lt m' o' b hm' ho' hf'))).2.2 m o hm ho)
   ·rw [e2 m e] at hm;rw [f2 m e] at hf
    by_cases e':m'∈a4 l
    ·rw [e1 m' e'] at hm';rw [f1 m' e'] at hf'
     exact absurd hf' ((ev.keep b (aN3 b (R.lt m o b hm ho hf))).2.2 m' o' hm' ho')
    ·rw [e2 m' e'] at hm';rw [f2 m' e'] at hf';exact R.apart m o m' o' b hm ho hm' ho' hf hf'
  ·intro m o hm
   by_cases e:m∈a4 l
   ·rw [e1 m e] at hm
    exact x6.fI (E:=E') (E':=E2) (fun n hn=>⟨rfl,hn⟩) (fun _ _=>rfl) rfl (f1 m e) (fun _ _=>rfl) (solL m o e hm) (R'.obj m o hm)
   ·rw [e2 m e] at hm
    cases o with
    |gone=>trivial
    |row sz es=>exact (R.obj m _ hm).ev evA (ev.loc m (R.dom m (by simp [hm]))).1 (f2 m e) fun b _ hb=>(ev.keep b (aN3 b (R.lt m _ b hm trivial hb))).1
    |abs Q=>exact (R.obj m _ hm).ev evA (ev.loc m (R.dom m (by simp [hm]))).1 (f2 m e) fun b _ hb=>(ev.keep b (aN3 b (R.lt m _ b hm trivial hb))).1
    |raw t cs=>exact (R.obj m _ hm).ev evA (ev.loc m (R.dom m (by simp [hm]))).1 (f2 m e) fun b _ hb=>(ev.keep b (aN3 b (R.lt m _ b hm trivial hb))).1
    |map kt et l'=>exact (R.obj m _ hm).ev evA (ev.loc m (R.dom m (by simp [hm]))).1 (f2 m e) fun b _ hb=>(ev.keep b (aN3 b (R.lt m _ b hm trivial hb))).1
 refine ⟨r,h2,E2,⟨l,k',⟨nw.nodup,hnew,fun p hp=>?_,fun m hm=>e2 m hm⟩⟩,evA,R2,eC.fI (E:=E') (E':=E2) (fun n hn=>⟨rfl,hn⟩) (fun _ _=>rfl) rx hr⟩
 rw [e1 p.1 (b5.2 ⟨p.2,hp⟩)];exact nw.iD p hp
def View (h:aA) (x x':aC):Prop:=∀ E w v,Rel E h w→eC E h w x v→eC E (nU h) w x' v
def eD (h:aA):List aC→List aC→Prop
 | [],[]=>True
 |x :: xs,y :: ys=>View h x y∧eD h xs ys
 | _,_=>False
theorem a4K {E:Env} {h:aA} {w:World} {b:Nat} (i:nB E h w b):nB E (nU h) w b:=r7 i.1
theorem View.same (h:aA) (x:aC):View h x x:=fun E w v R r=>r.pX fun b i=>a4K i
theorem xK {E:Env} {h:aA} {w:World} {S:List Nat}:∀ b,nB E (Hl.kY h S) w b→nB E (nU h) w b:=fun b i=>r7 i.1
theorem View.ov {h:aA} (y:OV) (ho:fR h y.rows):View h y.val y.lQ:=fun E w v R r =>
 (eC.yQ R (S:=a4 y.rows) y ho (fun p hp=>b5.2 ⟨p.2,hp⟩) v r).pX xK
theorem View.agg {h:aA} (e:List OV) (ho:fR h (OV.bR e)):View h (.agg (e.map OV.val)) (.agg (e.map OV.lQ)):=fun E w v R r =>
 (eC.aUX R (S:=a4 (OV.bR e)) e v ho (fun p hp=>b5.2 ⟨p.2,hp⟩) r).pX xK
theorem View.op {h:aA} {n sz i off:Nat} (es:List (List OV)) (hn:h n = some (.row sz (OV.cells es))) (hne:es≠[]) (ho:fR h (OV.bG es)):View h (.op n sz i off) (.ip sz (OV.cQ es) i off):=by
 intro E w v R r
 cases v <;> try (cases r;done)
 cases r with
 |op _ _ _ _ b o hd hl =>
  obtain ⟨b',o',hl',hbS,hs,cs,ct,cv,T,hh,hm',hT,hD,hc,hrr⟩:=uZ R hn (.inr ⟨_,hl⟩)
  rw [hl] at hl'
  obtain ⟨rfl,rfl⟩:=Prod.mk.inj (Option.some.inj hl')
  have hcs:∀ i j y,iE (OV.cQ es) i j = some y→∃ c,iE es i j = some c∧y = c.lQ∧cs[o + i * sz + j]? = some (cv i j)∧(cv i j).oneCell' = true∧eC E h w c.val (cv i j):=by
   intro i j y hy
   rw [OV.iU,nF] at hy
   obtain ⟨c,hc1,rfl⟩:=Option.map_eq_some_iff.1 hy
   have hcell:iE (OV.cells es) i j = some (.v c.val):=by rw [OV.cells,nF,hc1];rfl
   have h2:=hrr i j _ hcell
   generalize hcv:cv i j = z at h2
   cases h2 with
   |v x c' S' h1 hx=>exact ⟨c,hc1,rfl,hcv ▸ hc i j _ hcell,h1,hx⟩
  refine .ip sz (OV.cQ es) i off b o cv (r7 (R.lt n _ b hn trivial hbS)) ?_ ?_ ?_ ?_
  ·intro e he
   rw [OV.iU,List.mem_map] at he
   obtain ⟨e',he',rfl⟩:=he
   have:=hs (e'.map fun c=>Cell.v c.val) (List.mem_map.2 ⟨e',he',rfl⟩)
   simpa using this
  ·intro i j y hy
   obtain ⟨c,_,_,h1,_,_⟩:=hcs i j y hy
   simp only [World.cell?,hh]
   rw [← h1]
   simp
  ·intro i j y hy;obtain ⟨c,_,_,_,h1,_⟩:=hcs i j y hy;exact h1
  ·intro i j y hy
   obtain ⟨c,hc1,rfl,_,_,h1⟩:=hcs i j y hy
   obtain ⟨e,he,hj⟩:=jI hc1
   exact (aAL R (S:=a4 (OV.bG es)) es ho (fun p hp=>b5.2 ⟨p.2,hp⟩) e (List.mem_of_getElem? he) c (List.mem_of_getElem? hj) _ h1).pX xK
theorem eD.aK1 {h:aA}:∀ {xs ys:List aC},eD h xs ys→∀ E w vs,Rel E h w→cX E h w xs vs→cX E (nU h) w ys vs
 | [],[],_,E,w,[],R,r=>trivial
 |x :: xs,y :: ys,hv,E,w,v :: vs,R,r=>⟨hv.1 E w v R r.1,eD.aK1 hv.2 E w vs R r.2⟩
 | [],[],_,E,w,_ :: _,R,r=>r.elim
 |x :: xs,y :: ys,hv,E,w,[],R,r=>r.elim
 | [],_ :: _,h,_,_,_,_,_=>h.elim
 | _ :: _,[],h,_,_,_,_,_=>h.elim
theorem eD.nil {h:aA}:eD h [] []:=trivial
theorem eD.cons {h:aA} {x y:aC} {xs ys:List aC} (a:View h x y) (b:eD h xs ys):eD h (x :: xs) (y :: ys):=⟨a,b⟩
def aH9 (Q:aC→List (Nat × bH)→Prop):Prop:=∀ r l,Q r l→r.fI = true∧∀ p∈l,p.2.fI = true
theorem rN.aUY {P:Program} {f:FuncId} {args args':List aC} {Q:aC→List (Nat × bH)→Prop} {h:aA} (a:rN P f args' Q) (hv:eD h args args') (hQ:aH9 Q):fE P f args h fun r h'=>∃ l,Q r l∧g8 h l h' :=
 fE.a18 hv.aK1 (a (nU h)) fun r h' ⟨l,q,n⟩=>⟨l,q,n,(hQ r l q).1,(hQ r l q).2⟩
theorem dI.aUY {P:Program} {f:FuncId} {args args':List aC} {r:aC} {h:aA} (a:dI P f args' r) (hv:eD h args args') (hr:r.fI = true):fE P f args h fun r' h'=>r' = r∧h' = h :=
 (fE.a18 (K':=fun r' l=>r' = r∧l = []) hv.aK1 (a (nU h)) fun r' h' ⟨e,e'⟩=>by
  subst e;subst e';exact ⟨[],⟨rfl,rfl⟩,.nil _,hr,by simp⟩).mono fun r' h' ⟨l,⟨e1,e2⟩,n⟩=>by
  subst e2
  exact ⟨e1,funext fun m=>n.upto m (by simp [a4])⟩
section
variable {P:Program} {f:FuncId} {args args':List aC} {Q:aC→List (Nat × bH)→Prop} {K:aC→aA→Prop} {t:Tag K} {g:aA}
theorem aG.aBI {r:aC} (a:dI P f args' r) (hv:eD g args args') (hr:r.fI = true) (k:K r g):aG P f args g K t :=
 aG.gQ (a.aUY hv hr) fun r' h' ⟨e,e'⟩=>by subst e;subst e';exact k
end
mutual
def OV.sol:OV→Bool
 | .v x=>x.fI
 | .nil _=>true
 | .sl _ _ es=>OV.nI es
def OV.nI:List (List OV)→Bool
 | []=>true
 |e :: es=>OV.lT e && OV.nI es
def OV.lT:List OV→Bool
 | []=>true
 |x :: e=>x.sol && OV.lT e
end
theorem OV.aGU:∀ {x:OV},x.sol = true→x.val.fI = true
 | .v x,h=>by simpa only [OV.sol,OV.val] using h
 | .nil _,_=>by simp [OV.val,aC.fI]
 | .sl _ _ _,_=>by simp [OV.val,aC.fI]
theorem OV.aDY:∀ (e:List OV),OV.lT e = e.all OV.sol
 | []=>rfl
 |x :: e=>by rw [OV.lT,OV.aDY e];rfl
theorem OV.aBJ:∀ (es:List (List OV)),OV.nI es = es.all (fun e=>e.all OV.sol)
 | []=>rfl
 |e :: es=>by rw [OV.nI,OV.aBJ es,OV.aDY];rfl
theorem OV.aLC {sz:Nat} {es:List (List OV)} (h:OV.nI es = true):(bH.row sz (OV.cells es)).fI = true:=by
 rw [OV.aBJ] at h
 simp only [bH.fI,OV.cells,List.all_map,List.all_eq_true,Function.comp_apply] at h ⊢
 intro e he c hc
 exact OV.aGU (h e he c hc)
mutual
theorem OV.aDZ:∀ {x:OV},x.sol = true→∀ p∈x.rows,p.2.fI = true
 | .v _,_=>by simp [OV.rows]
 | .nil _,_=>by simp [OV.rows]
 | .sl n sz es,h=>fun p hp=>by
  rw [OV.rows] at hp
  rcases List.mem_cons.1 hp with rfl | hp
  ·exact OV.aLC (by simpa only [OV.sol] using h)
  ·exact OV.vH (by simpa only [OV.sol] using h) p hp
theorem OV.vH:∀ {es:List (List OV)},OV.nI es = true→∀ p∈OV.bG es,p.2.fI = true
 | [],_=>by simp [OV.bG]
 |e :: es,h=>fun p hp=>by
  simp only [OV.nI,Bool.and_eq_true] at h
  rw [OV.bG] at hp
  rcases List.mem_append.1 hp with hp | hp
  ·exact OV.wX h.1 p hp
  ·exact OV.vH h.2 p hp
theorem OV.wX:∀ {e:List OV},OV.lT e = true→∀ p∈OV.bR e,p.2.fI = true
 | [],_=>by simp [OV.bR]
 |x :: e,h=>fun p hp=>by
  simp only [OV.lT,Bool.and_eq_true] at h
  rw [OV.bR] at hp
  rcases List.mem_append.1 hp with hp | hp
  ·exact OV.aDZ h.1 p hp
  ·exact OV.wX h.2 p hp
end
theorem OR.sol {α:Type} {R:α→List OV→Prop} (hR:∀ x e,R x e→OV.lT e = true):∀ {l:List α} {es:List (List OV)},OR R l es→OV.nI es = true
 | [],[],_=>rfl
 |x :: l,e :: es,h=>by rw [OV.nI,hR x e h.1,OR.sol hR h.2];rfl
 | [],_ :: _,h=>h.elim
 | _ :: _,[],h=>h.elim
theorem OS.sol {α:Type} {R:α→List OV→Prop} {sz:Nat} {l:List α} {y:OV} (hR:∀ x e,R x e→OV.lT e = true) (h:OS R sz l y):y.sol = true:=by
 rcases h with ⟨rfl,_⟩ | ⟨n,es,rfl,h⟩
 ·rfl
 ·simp only [OV.sol];exact h.sol hR
theorem aN4 {α:Type} {c:α→aC} (hc:∀ x,(c x).fI = true) {x:α} {e:List OV} (h:oP c x e):OV.lT e = true:=by
 unfold oP at h;subst h;simp [OV.lT,OV.sol,hc]
def QS (R:OV→Prop) (w:aC→aC:=fun x=>x):aC→List (Nat × bH)→Prop:=fun r l=>∃ y,R y∧r = w y.val∧l = y.rows
def QA (R:List OV→Prop) (w:aC→aC:=fun x=>x):aC→List (Nat × bH)→Prop:=fun r l=>∃ e,R e∧r = w (.agg (e.map OV.val))∧l = OV.bR e
theorem g8.row {h h':aA} {l:List (Nat × bH)} (x:g8 h l h') {n:Nat} {o:bH} (hn:h' n = none):g8 h ((n,o) :: l) (a7 h' n o):=(x.toT.row hn).a98
theorem QS.fI {R:OV→Prop} {w:aC→aC} (hR:∀ y,R y→y.sol = true) (hw:∀ x:aC,x.fI = true→(w x).fI = true):aH9 (QS R w):=fun r l ⟨y,hy,e1,e2⟩=>by
 subst e1 e2
 exact ⟨hw _ (OV.aGU (hR y hy)),OV.aDZ (hR y hy)⟩
theorem QS.cD {P:Program} {f:FuncId} {args:List aC} {R:OV→Prop} {d:aC} (a:rN P f args (QS R)) (hd:∀ y,R y→y.lQ = d):dI P f args d :=
 a.cD fun r' l ⟨y,hy,e1,e2⟩ E w v h' ho R rx=>by
  subst e1 e2
  rw [← hd y hy]
  exact eC.yQ R y ho (fun p hp=>b5.2 ⟨p.2,hp⟩) v rx
theorem OS.nil {α:Type} {R:α→List OV→Prop} {sz:Nat}:OS R sz [] (.nil sz):=.inl ⟨rfl,rfl⟩
theorem OS.mk {α:Type} {R:α→List OV→Prop} {sz n:Nat} {l:List α} {es:List (List OV)} (h:OR R l es):OS R sz l (.sl n sz es):=.inr ⟨n,es,rfl,h⟩
theorem OV.kZ (sz:Nat):(OV.nil sz).rows = []:=by rw [OV.rows]
theorem OV.kE (x:aC):(OV.v x).rows = []:=by rw [OV.rows]
theorem OV.cK (n sz:Nat) (es:List (List OV)):(OV.sl n sz es).rows = (n,.row sz (OV.cells es)) :: OV.bG es:=by rw [OV.rows]
theorem OV.dV:OV.bR [] = []:=by rw [OV.bR]
theorem OV.cO (x:OV) (e:List OV):OV.bR (x :: e) = x.rows ++ OV.bR e:=by rw [OV.bR]
theorem OV.yR (sz:Nat):(OV.nil sz).val = .sl sz [] true:=rfl
theorem OV.nJ (n sz:Nat) (es:List (List OV)):(OV.sl n sz es).val = .os n sz 0 es.length:=rfl
theorem OV.bT:List.map OV.val [] = []:=rfl
theorem OV.eE (x:OV) (e:List OV):List.map OV.val (x :: e) = x.val :: e.map OV.val:=rfl
theorem aD0 {es:List (List OV)} (e:List OV) {z:List aC} {k m:Nat} (hk:es.length = k) (hm:0 < m) (c:List Cell) (hc:c = e.map fun c=>Cell.v c.val) :
  ((OV.cells es ++ (List.replicate m z).map (List.map Cell.v)).set k c) = OV.cells (es ++ [e]) ++ (List.replicate (m - 1) z).map (List.map Cell.v):=by
 subst hc
 rw [List.map_replicate,List.map_replicate]
 exact aSV e hk hm
theorem aD1 {es:List (List OV)} {z:List aC} {k m:Nat} (hk:es.length = k) (hm:0 < m):(OV.cells es ++ (List.replicate m z).map (List.map Cell.v))[k]? = some (z.map .v):=by
 rw [List.getElem?_append_right (by simp [OV.cells,hk])]
 simp only [OV.cells,List.length_map,hk,Nat.sub_self,List.map_replicate]
 obtain ⟨m,rfl⟩:∃ j,m = j + 1:=⟨m - 1,by omega⟩
 rfl
theorem nK {g h:aA} {n:Nat} {o:bH} (hn:g n = none) (hl:g.le h):g.le (a7 h n o):=(bI hn).2 hl
def rO (n:Nat):List UInt8:=if h:n = 0 then [] else rO (n / 10) ++ [UInt8.ofNat (48 + n % 10)]
termination_by n
decreasing_by omega
theorem aBK:rO 0 = []:=by rw [rO];simp
theorem aD2 {n:Nat} (h:n≠0):rO n = rO (n / 10) ++ [UInt8.ofNat (48 + n % 10)]:=by rw [rO];simp [h]
theorem aN5 (n:Nat):(rO n).length≤n:=by
 induction n using Nat.strongRecOn with
 |ind n ih =>
  by_cases h:n = 0
  ·subst h;simp [aBK]
  ·rw [aD2 h]
   have:=ih (n / 10) (by omega)
   simp;omega
def wY (k:Int):List UInt8:=if k≤0 then [109,48] else 109 :: rO k.toNat
mutual
def OV.ct:OV→Nat
 | .v _=>1
 | .nil _=>0
 | .sl _ _ es=>OV.cS es
def OV.cS:List (List OV)→Nat
 | []=>0
 |e :: es=>OV.j4 e + OV.cS es
def OV.j4:List OV→Nat
 | []=>0
 |x :: e=>x.ct + OV.j4 e
end
def aD3 (k:Int):aC→aC
 | .int t _=>.int t k
 | .bool _=>.bool (decide (k.tmod 3 = 0))
 | .str _=>.str (wY k)
 |x=>x
mutual
def OV.mk (k:Int):OV→OV
 | .v x=>.v (aD3 k x)
 | .nil sz=>.nil sz
 | .sl n sz es=>.sl n sz (OV.cN k es)
def OV.cN (k:Int):List (List OV)→List (List OV)
 | []=>[]
 |e :: es=>OV.uG k e :: OV.cN (k + OV.j4 e) es
def OV.uG (k:Int):List OV→List OV
 | []=>[]
 |x :: e=>x.mk k :: OV.uG (k + x.ct) e
end
theorem OV.iV:∀ (a b:List (List OV)),OV.cS (a ++ b) = OV.cS a + OV.cS b
 | [],b=>by simp [OV.cS]
 |x :: a,b=>by rw [List.cons_append,OV.cS,OV.iV a b,OV.cS];omega
theorem OV.oH:∀ (k:Int) (a b:List (List OV)),OV.cN k (a ++ b) = OV.cN k a ++ OV.cN (k + OV.cS a) b
 |k,[],b=>by simp [OV.cS,OV.cN]
 |k,x :: a,b=>by
  rw [List.cons_append,OV.cN,OV.oH (k + OV.j4 x) a b,OV.cN,OV.cS,List.cons_append]
  congr 3;omega
theorem OV.jX:∀ (k:Int) (a:List (List OV)),(OV.cN k a).length = a.length
 |k,[]=>rfl
 |k,x :: a=>by rw [OV.cN,List.length_cons,List.length_cons,OV.jX]
theorem OV.q0 (k:Int) (a:List (List OV)) (e:List OV):OV.cN k (a ++ [e]) = OV.cN k a ++ [OV.uG (k + OV.cS a) e]:=by
 rw [OV.oH];simp [OV.cN]
theorem OV.mX (a:List (List OV)) (e:List OV):OV.cS (a ++ [e]) = OV.cS a + OV.j4 e:=by
 rw [OV.iV];simp [OV.cS]
theorem OV.aD4 (x:aC):(OV.v x).ct = 1:=by rw [OV.ct]
theorem OV.vI (sz:Nat):(OV.nil sz).ct = 0:=by rw [OV.ct]
theorem OV.q8 (n sz:Nat) (es:List (List OV)):(OV.sl n sz es).ct = OV.cS es:=by rw [OV.ct]
theorem OV.pT:OV.j4 [] = 0:=by rw [OV.j4]
theorem OV.n8 (x:OV) (e:List OV):OV.j4 (x :: e) = x.ct + OV.j4 e:=by rw [OV.j4]
theorem OV.aSW (k:Int) (x:aC):(OV.v x).mk k = .v (aD3 k x):=by rw [OV.mk]
theorem OV.xL (k:Int) (sz:Nat):(OV.nil sz).mk k = .nil sz:=by rw [OV.mk]
theorem OV.aD5 (k:Int) (n sz:Nat) (es:List (List OV)):(OV.sl n sz es).mk k = .sl n sz (OV.cN k es):=by rw [OV.mk]
theorem OV.pU (k:Int):OV.uG k [] = []:=by rw [OV.uG]
theorem OV.n9 (k:Int) (x:OV) (e:List OV):OV.uG k (x :: e) = x.mk k :: OV.uG (k + x.ct) e:=by rw [OV.uG]
theorem r8 (k:Int) (t:IntKind) (n:Int):aD3 k (.int t n) = .int t k:=rfl
theorem pV (k:Int) (b:Bool):aD3 k (.bool b) = .bool (decide (k.tmod 3 = 0)):=rfl
theorem r9 (k:Int) (s:List UInt8):aD3 k (.str s) = .str (wY k):=rfl
theorem oQ:((1:Nat):Int) = 1:=rfl
theorem OS.mk_val {α:Type} {R:α→List OV→Prop} {sz:Nat} {l:List α} {y:OV} (h:OS R sz l y) (k:Int):(y.mk k).val = y.val:=by
 rcases h with ⟨rfl,_⟩ | ⟨n,es,rfl,_⟩
 ·rw [OV.xL]
 ·rw [OV.aD5,OV.nJ,OV.nJ,OV.jX]
structure o6 (h h':aA) (l l':List (Nat × bH)):Prop where
 names:a4 l' = a4 l
 iD:fR h' l'
 upto:a4I (a4 l) h h'
theorem o6.refl {h:aA} {l:List (Nat × bH)} (o:fR h l):o6 h h l l:=⟨rfl,o,fun _ _=>rfl⟩
theorem o6.trans {h h1 h2:aA} {a b c:List (Nat × bH)} (x:o6 h h1 a b) (y:o6 h1 h2 b c):o6 h h2 a c :=
 ⟨y.names.trans x.names,y.iD,fun m hm=>(y.upto m (by rw [x.names];exact hm)).trans (x.upto m hm)⟩
theorem fR.left {h:aA} {a b:List (Nat × bH)} (o:fR h (a ++ b)):fR h a:=fun p hp=>o p (List.mem_append_left _ hp)
theorem fR.right {h:aA} {a b:List (Nat × bH)} (o:fR h (a ++ b)):fR h b:=fun p hp=>o p (List.mem_append_right _ hp)
theorem o6.mid {h h':aA} {a l l' b:List (Nat × bH)} (o:fR h (a ++ (l ++ b))) (nd:(a4 (a ++ (l ++ b))).Nodup) (c:o6 h h' l l'):o6 h h' (a ++ (l ++ b)) (a ++ (l' ++ b)):=by
 have nd':=nd
 rw [cJ,cJ] at nd'
 obtain ⟨_,n2,d1⟩:=List.nodup_append.1 nd'
 obtain ⟨_,_,d2⟩:=List.nodup_append.1 n2
 refine ⟨by rw [cJ,cJ,cJ,cJ,c.names],fun p hp=>?_,fun m hm=>c.upto m fun q=>hm ?_⟩
 ·rcases List.mem_append.1 hp with hp | hp
  ·have hm:p.1∈a4 a:=b5.2 ⟨p.2,hp⟩
   rw [c.upto p.1 fun q=>d1 _ hm _ (List.mem_append_left _ q) rfl]
   exact o p (List.mem_append_left _ hp)
  ·rcases List.mem_append.1 hp with hp | hp
   ·exact c.iD p hp
   ·have hm:p.1∈a4 b:=b5.2 ⟨p.2,hp⟩
    rw [c.upto p.1 fun q=>d2 _ q _ hm rfl]
    exact o p (List.mem_append_right _ (List.mem_append_right _ hp))
 ·rw [cJ,cJ]
  exact List.mem_append_right _ (List.mem_append_left _ q)
theorem o6.set {h:aA} {n:Nat} {o o':bH} {l:List (Nat × bH)} (ow:fR h ((n,o) :: l)) (nd:(a4 ((n,o) :: l)).Nodup):o6 h (a7 h n o') ((n,o) :: l) ((n,o') :: l):=by
 have hn:n ∉ a4 l:=(List.nodup_cons.1 (show (n :: a4 l).Nodup from nd)).1
 refine ⟨rfl,fun p hp=>?_,fun m hm=>?_⟩
 ·rcases List.mem_cons.1 hp with rfl | hp
  ·exact aH _ _ _
  ·have:p.1≠n:=fun e=>hn (e ▸ b5.2 ⟨p.2,hp⟩)
   rw [aF _ _ _ _ this];exact ow p (List.mem_cons_of_mem _ hp)
 ·have:m≠n:=fun e=>hm (by rw [e];exact List.mem_cons_self)
  exact aF _ _ _ _ this
theorem o6.nodup {h h':aA} {a b:List (Nat × bH)} (c:o6 h h' a b) (nd:(a4 a).Nodup):(a4 b).Nodup:=by rw [c.names];exact nd
theorem v8 {a l b:List (Nat × bH)} (nd:(a4 (a ++ (l ++ b))).Nodup):(a4 l).Nodup:=by
 rw [cJ,cJ] at nd
 exact (List.nodup_append.1 (List.nodup_append.1 nd).2.1).1
theorem v9 {α:Type} {X Y:List α} {c:α} {i:Nat} (h:X.length = i):(X ++ c :: Y)[i]? = some c:=by
 rw [List.getElem?_append_right (by omega),h,Nat.sub_self];rfl
theorem aCA {α:Type} {X Y:List α} {c c':α} {i:Nat} (h:X.length = i):(X ++ c :: Y).set i c' = X ++ c' :: Y:=by
 rw [List.set_append_right _ _ (by omega),h,Nat.sub_self,List.set_cons_zero]
theorem OR.split {α:Type} {R:α→List OV→Prop}:∀ {l:List α} {es:List (List OV)},OR R l es→∀ k (hk:k < l.length),∃ A e B,es = A ++ e :: B∧A.length = k∧R l[k] e
 |x :: l,e :: es,h,0,_=>⟨[],e,es,rfl,rfl,h.1⟩
 |x :: l,e :: es,h,k + 1,hk=>by
  obtain ⟨A,e',B,h1,h2,h3⟩:=OR.split h.2 k (by simpa using hk)
  exact ⟨e :: A,e',B,by rw [h1];rfl,by simp [h2],by simpa using h3⟩
 | [],[],_,k,hk=>by simp at hk
 | [],_ :: _,h,_,_=>h.elim
 | _ :: _,[],h,_,_=>h.elim
theorem cP (a b:List (List OV)):OV.cells (a ++ b) = OV.cells a ++ OV.cells b:=by simp [OV.cells]
theorem eT (e:List OV) (b:List (List OV)):OV.cells (e :: b) = (e.map fun c=>Cell.v c.val) :: OV.cells b:=rfl
theorem vJ (a b:List (List OV)):OV.cQ (a ++ b) = OV.cQ a ++ OV.cQ b:=by simp [OV.iU]
theorem yS (e:List OV) (b:List (List OV)):OV.cQ (e :: b) = e.map OV.lQ :: OV.cQ b:=by simp [OV.iU]
theorem q9 (a:List (List OV)):(OV.cQ a).length = a.length:=by simp [OV.iU]
theorem a19 (x:aC):(OV.v x).lQ = x:=by rw [OV.lQ]
theorem aQC (sz:Nat):(OV.nil sz).lQ = .sl sz [] false:=by rw [OV.lQ]
theorem aUZ (n sz:Nat) (es:List (List OV)):(OV.sl n sz es).lQ = .sl sz (OV.cQ es) false:=by rw [OV.lQ]
theorem yT (x:OV) (e:List OV):(x :: e).map OV.lQ = x.lQ :: e.map OV.lQ:=rfl
theorem aBL:([]:List OV).map OV.lQ = []:=rfl
theorem fF (x:OV) (e:List OV):((x :: e).map fun c=>Cell.v c.val) = .v x.val :: e.map fun c=>Cell.v c.val:=rfl
theorem gA:(([]:List OV).map fun c=>Cell.v c.val) = []:=rfl
theorem dH (a b:List (List OV)):OV.bG (a ++ b) = OV.bG a ++ OV.bG b:=OV.mK a b
theorem cI (e:List OV) (b:List (List OV)):OV.bG (e :: b) = OV.bR e ++ OV.bG b:=by rw [OV.bG]
def OV.ctT:OV→Nat
 | .v _=>0
 |x=>x.ct
def OV.mkT (k:Int):OV→OV
 | .v x=>.v x
 |x=>x.mk k
def OV.vK:List OV→Nat
 | []=>0
 |x :: e=>x.ctT + OV.vK e
def OV.aLD (k:Int):List OV→List OV
 | []=>[]
 |x :: e=>x.mkT k :: OV.aLD (k + x.ctT) e
theorem OV.aSX:OV.vK [] = 0:=rfl
theorem OV.aN6 (x:OV) (e:List OV):OV.vK (x :: e) = x.ctT + OV.vK e:=rfl
theorem OV.aSY (k:Int):OV.aLD k [] = []:=rfl
theorem OV.aN7 (k:Int) (x:OV) (e:List OV):OV.aLD k (x :: e) = x.mkT k :: OV.aLD (k + x.ctT) e:=rfl
theorem OV.a99 (x:aC):(OV.v x).ctT = 0:=rfl
theorem OV.bAA (k:Int) (x:aC):(OV.v x).mkT k = .v x:=rfl
theorem oA:((0:Nat):Int) = 0:=rfl
theorem OS.ctT {α:Type} {R:α→List OV→Prop} {sz:Nat} {l:List α} {y:OV} (h:OS R sz l y):y.ctT = y.ct:=by
 rcases h with ⟨rfl,_⟩ | ⟨n,es,rfl,_⟩ <;> rfl
theorem OS.mkT {α:Type} {R:α→List OV→Prop} {sz:Nat} {l:List α} {y:OV} (h:OS R sz l y) (k:Int):y.mkT k = y.mk k:=by
 rcases h with ⟨rfl,_⟩ | ⟨n,es,rfl,_⟩ <;> rfl
def aGV (P:Program) (f:FuncId) (R:OV→Prop):Prop:=∀ (y:OV) (k:Int) (h:aA),R y→0≤k→k + y.ct≤4611686018427387904→fR h y.rows→(a4 y.rows).Nodup →
 fE P f [y.val,.int .i64 k] h fun r h'=>r = .int .i64 (k + y.ct)∧o6 h h' y.rows (y.mk k).rows
def a2A (P:Program) (f:FuncId) (R:OV→Prop):Prop:=∀ (y:OV) (k:Int),R y→0≤k→k + y.ct≤4611686018427387904→dI P f [(y.mk k).lQ,.int .i64 k] (.int .i64 (k + y.ct))
def bAB (P:Program) (f:FuncId) (R:List OV→Prop):Prop:=∀ (e:List OV) (k:Int) (h:aA),R e→0≤k→k + OV.vK e≤4611686018427387904→fR h (OV.bR e)→(a4 (OV.bR e)).Nodup →
 fE P f [.agg (e.map OV.val),.int .i64 k] h fun r h'=>r = .int .i64 (k + OV.vK e)∧o6 h h' (OV.bR e) (OV.bR (OV.aLD k e))
theorem fR.up {g:aA} {l:List (Nat × bH)} {n:Nat} {o:bH} (ow:fR g l) (hn:g n = none):fR (a7 g n o) l:=fun p hp=>by
 have:p.1≠n:=fun e=>by have:=ow p hp;rw [e,hn] at this;cases this
 rw [aF _ _ _ _ this];exact ow p hp
theorem o6.under {g h':aA} {n:Nat} {o:bH} {l l':List (Nat × bH)} (hg:g n = none) (ho:fR g l) (c:o6 (a7 g n o) h' l l'):∃ g',h' = a7 g' n o∧o6 g g' l l'∧g' n = none:=by
 have hn:n ∉ a4 l:=fun q=>by
  obtain ⟨x,hx⟩:=b5.1 q
  have:=ho _ hx
  rw [hg] at this;cases this
 have hk:h' n = some o:=by rw [c.upto n hn,aH]
 refine ⟨lK h' [n],?_,⟨c.names,fun p hp=>?_,fun m hm=>?_⟩,by simp [lK]⟩
 ·funext m
  by_cases e:m = n
  ·subst e;rw [aH,hk]
  ·rw [aF _ _ _ _ e];simp [lK,e]
 ·have e:p.1≠n:=fun e=>hn (by rw [← c.names];exact e ▸ b5.2 ⟨p.2,hp⟩)
  have:lK h' [n] p.1 = h' p.1:=by simp [lK,e]
  rw [this];exact c.iD p hp
 ·by_cases e:m = n
  ·subst e;rw [hg];simp [lK]
  ·have:lK h' [n] m = h' m:=by simp [lK,e]
   rw [this,c.upto m hm,aF _ _ _ _ e]
theorem g8.un0 {g h':aA} {l:List (Nat × bH)}  (x:g8 g l h'):∃ g',h' = g'∧g8 g l g':=by
 exact ⟨h',rfl,x⟩
theorem aG.wn0 {P:Program} {f:FuncId} {args:List aC} {Q:aC→List (Nat × bH)→Prop} {K:aC→aA→Prop} {t:Tag K} {g:aA} (a:rN P f args Q)  (k:∀ r l g',Q r l→g8 g l g'→K r g'):aG P f args g K t :=
 aG.gQ (a _) fun r h' ⟨l,q,hq⟩=>by
  obtain ⟨g',e0,q2⟩:=hq.un0;subst e0
  exact k r l _ q q2
theorem aG.wl0 {P:Program} {f:FuncId} {args args':List aC} {Q:aC→List (Nat × bH)→Prop} {K:aC→aA→Prop} {t:Tag K} {g:aA} (a:rN P f args' Q) (hv:eD g args args') (hQ:aH9 Q)  (k:∀ r l g',Q r l→g8 g l g'→K r g'):aG P f args g K t :=
 aG.gQ (a.aUY hv hQ) fun r h' ⟨l,q,hq⟩=>by
  obtain ⟨g',e0,q2⟩:=hq.un0;subst e0
  exact k r l _ q q2
theorem g8.un1 {g h':aA} {n0:Nat} {o0:bH} {l:List (Nat × bH)} (h0:g n0 = none) (x:g8 (a7 g n0 o0) l h'):∃ g',h' = (a7 g' n0 o0)∧g8 g l g'∧g' n0 = none:=by
 exact x.under h0
theorem o6.un1 {g h':aA} {n0:Nat} {o0:bH} {l l':List (Nat × bH)} (h0:g n0 = none) (ho:fR g l) (x:o6 (a7 g n0 o0) h' l l'):∃ g',h' = (a7 g' n0 o0)∧o6 g g' l l'∧g' n0 = none:=by
 exact x.under h0 ho
theorem fR.up1 {g:aA} {n0:Nat} {o0:bH} {l:List (Nat × bH)} (h0:g n0 = none) (ho:fR g l):fR (a7 g n0 o0) l:=(ho.up h0)
theorem aG.wn1 {P:Program} {f:FuncId} {args:List aC} {Q:aC→List (Nat × bH)→Prop} {K:aC→aA→Prop} {t:Tag K} {g:aA} {n0:Nat} {o0:bH} (a:rN P f args Q) (h0:g n0 = none) (k:∀ r l g',Q r l→g8 g l g'→g' n0 = none→K r (a7 g' n0 o0)):aG P f args (a7 g n0 o0) K t :=
 aG.gQ (a _) fun r h' ⟨l,q,hq⟩=>by
  obtain ⟨g',rfl,q2,z0⟩:=hq.un1 h0
  exact k r l _ q q2 z0
theorem aG.wl1 {P:Program} {f:FuncId} {args args':List aC} {Q:aC→List (Nat × bH)→Prop} {K:aC→aA→Prop} {t:Tag K} {g:aA} {n0:Nat} {o0:bH} (a:rN P f args' Q) (hv:eD (a7 g n0 o0) args args') (hQ:aH9 Q) (h0:g n0 = none) (k:∀ r l g',Q r l→g8 g l g'→g' n0 = none→K r (a7 g' n0 o0)):aG P f args (a7 g n0 o0) K t :=
 aG.gQ (a.aUY hv hQ) fun r h' ⟨l,q,hq⟩=>by
  obtain ⟨g',rfl,q2,z0⟩:=hq.un1 h0
  exact k r l _ q q2 z0
theorem aG.wc1 {P:Program} {f:FuncId} {args:List aC} {K:aC→aA→Prop} {t:Tag K} {g:aA} {n0:Nat} {o0:bH} {l l':List (Nat × bH)} {r0:aC} (a:fE P f args (a7 g n0 o0) fun r h'=>r = r0∧o6 (a7 g n0 o0) h' l l') (ho:fR g l) (h0:g n0 = none) (k:∀ g',o6 g g' l l'→g' n0 = none→K r0 (a7 g' n0 o0)):aG P f args (a7 g n0 o0) K t :=
 aG.gQ a fun r h' ⟨e,hq⟩=>by
  subst e
  obtain ⟨g',e0,q2,z0⟩:=hq.un1 h0 ho
  subst e0
  exact k _ q2 z0
theorem OR.aU2 {α:Type} {R:α→List OV→Prop}:∀ {l:List α} {es:List (List OV)},(∀ x∈l,∀ e,R x e→OV.lT e = true)→OR R l es→OV.nI es = true
 | [],[],_,_=>rfl
 |x :: l,e :: es,hR,h=>by rw [OV.nI,hR x List.mem_cons_self e h.1,OR.aU2 (fun y hy=>hR y (List.mem_cons_of_mem _ hy)) h.2];rfl
 | [],_ :: _,_,h=>h.elim
 | _ :: _,[],_,h=>h.elim
theorem OS.aU2 {α:Type} {R:α→List OV→Prop} {sz:Nat} {l:List α} {y:OV} (hR:∀ x∈l,∀ e,R x e→OV.lT e = true) (h:OS R sz l y):y.sol = true:=by
 rcases h with ⟨rfl,_⟩ | ⟨n,es,rfl,h⟩
 ·rfl
 ·simp only [OV.sol];exact h.aU2 hR
theorem aY8 {α:Type} {R:α→List OV→Prop} {sz:Nat} {l:List α} {e:List OV} (hR:∀ x∈l,∀ e,R x e→OV.lT e = true) (h:oS R sz l e):OV.lT e = true:=by
 obtain ⟨y,rfl,h⟩:=h
 simp [OV.lT,h.aU2 hR]
theorem OR.ct {α:Type} {R:α→List OV→Prop} {s:α→Nat}:∀ {l:List α} {es:List (List OV)},OR R l es→(∀ x∈l,∀ e,R x e→OV.j4 e≤16 * (1 + s x))→OV.cS es≤16 * qR s l
 | [],[],_,_=>by simp [OV.cS]
 |x :: l,e :: es,h,hc=>by
  have h1:=hc x List.mem_cons_self e h.1
  have h2:=OR.ct (s:=s) h.2 fun y hy=>hc y (List.mem_cons_of_mem _ hy)
  rw [OV.cS]
  simp only [qR,List.length_cons,List.map_cons,List.sum_cons] at h2 ⊢
  omega
 | [],_ :: _,h,_=>h.elim
 | _ :: _,[],h,_=>h.elim
theorem OR.ct0 {α:Type} {R:α→List OV→Prop}:∀ {l:List α} {es:List (List OV)},OR R l es→(∀ x∈l,∀ e,R x e→OV.j4 e≤16)→OV.cS es≤16 * l.length
 | [],[],_,_=>by simp [OV.cS]
 |x :: l,e :: es,h,hc=>by
  have h1:=hc x List.mem_cons_self e h.1
  have h2:=OR.ct0 h.2 fun y hy=>hc y (List.mem_cons_of_mem _ hy)
  rw [OV.cS]
  simp only [List.length_cons] at h2 ⊢
  omega
 | [],_ :: _,h,_=>h.elim
 | _ :: _,[],h,_=>h.elim
theorem OS.cts {α:Type} {R:α→List OV→Prop} {s:α→Nat} {sz:Nat} {l:List α} {y:OV} (h:OS R sz l y) (hc:∀ x∈l,∀ e,R x e→OV.j4 e≤16 * (1 + s x)):y.ct≤16 * qR s l:=by
 rcases h with ⟨rfl,_⟩ | ⟨n,es,rfl,h⟩
 ·rw [OV.vI];omega
 ·rw [OV.q8];exact h.ct hc
theorem OS.bE7 {α:Type} {R:α→List OV→Prop} {sz:Nat} {l:List α} {y:OV} (h:OS R sz l y) (hc:∀ x∈l,∀ e,R x e→OV.j4 e≤16):y.ct≤16 * l.length:=by
 rcases h with ⟨rfl,_⟩ | ⟨n,es,rfl,h⟩
 ·rw [OV.vI];omega
 ·rw [OV.q8];exact h.ct0 hc
theorem bAE {α:Type} {c:α→aC} {x:α} {e:List OV} (h:oP c x e):OV.j4 e≤16:=by
 unfold oP at h;subst h;simp [OV.j4,OV.ct]
theorem aU3 {α:Type} {c:α→aC} {sz:Nat} {l:List α} {e:List OV} (h:oS (oP c) sz l e):OV.j4 e≤16 * (1 + l.length):=by
 obtain ⟨y,rfl,h⟩:=h
 have:=h.bE7 fun _ _ _ q=>bAE q
 simp only [OV.j4];omega
def aU4 (w:aC→aC):Prop:=∀ (E:Env) (h g:aA) (W:World) (x y:aC) (v:Value),(∀ b,nB E h W b→nB E g W b)→(∀ u,eC E h W x u→eC E g W y u)→eC E h W (w x) v→eC E g W (w y) v
theorem cX.hole {E:Env} {h g:aA} {W:World} {x y:aC} (hi:∀ b,nB E h W b→nB E g W b) (hr:∀ u,eC E h W x u→eC E g W y u):∀ (a b:List aC) (vs:List Value),cX E h W (a ++ x :: b) vs→cX E g W (a ++ y :: b) vs
 | [],b,v :: vs,r=>⟨hr v r.1,cX.pX hi r.2⟩
 |z :: a,b,v :: vs,r=>⟨r.1.pX hi,cX.hole hi hr a b vs r.2⟩
 | [],b,[],r=>r.elim
 |z :: a,b,[],r=>r.elim
theorem aU5 (a b:List aC):aU4 fun x=>.gW (a ++ x :: b):=fun E h g W x y v hi hr r=>by
 generalize hc:a ++ x :: b = cs at r
 cases r with
 |gW _ vs hl hrr =>
  subst hc
  have:=cX.hole hi hr a b vs (cX.mk hl hrr)
  exact .gW _ vs this.length this.get
theorem QS.bE8 {P:Program} {f:FuncId} {args:List aC} {R:OV→Prop} {w:aC→aC} {d:aC} (a:rN P f args (QS R w)) (hd:∀ y,R y→y.lQ = d) (hw:aU4 w):dI P f args (w d) :=
 a.cD fun r' l ⟨y,hy,e1,e2⟩ E W v h' ho R' rx=>by
  subst e1 e2
  rw [← hd y hy]
  exact hw E h' _ W y.val y.lQ v (fun b=>pS _ b) (fun u ru=>eC.yQ R' y ho (fun p hp=>b5.2 ⟨p.2,hp⟩) u ru) rx
def eU (sz len:Nat):Option Nat→aC
 |none=>.sl sz [] true
 |some n=>.os n sz 0 len
def gB (h:aA) (o:bH):Option Nat→aA
 |none=>h
 |some n=>a7 h n o
theorem a8 (sz len:Nat):eU sz len none = .sl sz [] true:=rfl
theorem aT (sz len n:Nat):eU sz len (some n) = .os n sz 0 len:=rfl
theorem aP (h:aA) (o:bH):gB h o none = h:=rfl
theorem aK (h:aA) (o:bH) (n:Nat):gB h o (some n) = a7 h n o:=rfl
theorem iX {h:aA} {n b:Nat} {o r:bH} (hn:h n = none):(a7 h b r).le (a7 (a7 (a7 h n o) n .gone) b r):=fun m=>by
 by_cases e:m = b
 ·subst e;right;simp
 ·rw [aF _ _ _ _ e,aF _ _ _ _ e]
  by_cases e2:m = n
  ·subst e2;exact .inl hn
  ·right;rw [aF _ _ _ _ e2,aF _ _ _ _ e2]
def eF {α:Type} (h:aA) (l:List α):Option Nat→Prop
 |none=>l = []
 |some n=>h n = none
theorem a6 {α:Type} (h:aA) (l:List α):eF h l none = (l = []):=rfl
theorem aU {α:Type} (h:aA) (l:List α) (n:Nat):eF h l (some n) = (h n = none):=rfl
theorem grown {α:Type} {c:α→aC} {h:aA} {sz:Nat} {l:List α} {o:Option Nat} (hs:eF h l o) :
  ∃ y:OV,OS (oP c) sz l y∧y.val = eU sz l.length o∧g8 h y.rows (gB h (.row sz ((l.map fun x=>[c x]).map (List.map .v))) o):=by
 cases o with
 |none=>exact ⟨.nil sz,.inl ⟨rfl,hs⟩,rfl,by rw [OV.kZ];exact g8.nil h⟩
 |some n =>
  refine ⟨.sl n sz (l.map fun x=>[.v (c x)]),OS.mk (xJ l),by simp [OV.val,eU],?_⟩
  rw [OV.cK,fW,eS]
  exact g8.one hs
theorem dQ {α:Type} (c:α→aC) (l:List α) (x:α):List.take l.length ((l.map fun x=>[c x]).map (List.map Cell.v)) ++ [[Cell.v (c x)]] = ((l ++ [x]).map fun x=>[c x]).map (List.map .v):=by
 rw [List.take_of_length_le (by simp)]
 simp
theorem View.bAF {h:aA} {c:List aC} (e:List OV) (hd:e.map OV.lQ = c) (ho:fR h (OV.bR e)):View h (.agg (e.map OV.val)) (.agg c):=hd ▸ View.agg e ho
theorem View.ovD {h:aA} {d:aC} (y:OV) (hd:y.lQ = d) (ho:fR h y.rows):View h y.val d:=hd ▸ View.ov y ho
theorem View.ovM {α:Type} {R:α→List OV→Prop} {sz:Nat} {l:List α} {h:aA} {y:OV} (k:Int) (hy:OS R sz l y) (ho:fR h (y.mk k).rows):View h y.val (y.mk k).lQ:=by
 have:=View.ov (y.mk k) ho
 rwa [hy.mk_val] at this
theorem aQD {α:Type} {c:α→aC} {l:List α} {sz:Nat} {h:aA} (e:(l.map fun x=>[c x]) = []):∃ r1 g l1,Shift .bO h r1 g∧QS (OS (oP c) sz l) (fun x=>x) r1 l1∧g8 h l1 g:=by
 obtain rfl:l = []:=by simpa using e
 exact ⟨_,_,_,Shift.of (Sub.nil sz true) (aA.le_refl _),⟨.nil sz,OS.nil,rfl,rfl⟩,by rw [OV.kZ];exact g8.nil h⟩
theorem aQE {α:Type} {c:α→aC} {l:List α} {sz:Nat} {h:aA} (e:(l.map fun x=>[c x]) = []):∃ r1 g l1,Shift (.sl sz [] true) h r1 g∧QS (OS (oP c) sz l) (fun x=>x) r1 l1∧g8 h l1 g:=by
 obtain rfl:l = []:=by simpa using e
 exact ⟨_,_,_,aZ _ _,⟨.nil sz,OS.nil,rfl,rfl⟩,by rw [OV.kZ];exact g8.nil h⟩
theorem s7 {α:Type} {c:α→aC} {l:List α} {sz n:Nat} {h:aA} (hn:h n = none) :
  ∃ r1 g l1,Shift (.os n sz 0 l.length) (a7 h n (.row sz ((l.map fun x=>[c x]).map (List.map .v)))) r1 g∧QS (OS (oP c) sz l) (fun x=>x) r1 l1∧g8 h l1 g:=by
 refine ⟨_,_,_,aZ _ _,⟨.sl n sz (l.map fun x=>[.v (c x)]),OS.mk (xJ l),by simp [OV.val],rfl⟩,?_⟩
 rw [OV.cK,fW,eS]
 exact g8.one hn
def mQ (sz len:Nat):Option Nat→aC
 |none=>.bO
 |some n=>.os n sz 0 len
theorem sA (sz len:Nat):mQ sz len none = .bO:=rfl
theorem cW (sz len n:Nat):mQ sz len (some n) = .os n sz 0 len:=rfl
def aQF (g:aA) (es:List (List OV)):Option Nat→Prop
 |none=>es = []
 |some n=>g n = none
theorem aD6 (g:aA) (es:List (List OV)):aQF g es none = (es = []):=rfl
def gov (sz:Nat) (es:List (List OV)):Option Nat→OV
 |none=>.nil sz
 |some n=>.sl n sz es
theorem aLE (sz:Nat) (es:List (List OV)):gov sz es none = .nil sz:=rfl
theorem aLF (sz:Nat) (es:List (List OV)) (n:Nat):gov sz es (some n) = .sl n sz es:=rfl
theorem a4M {α:Type} {R:α→List OV→Prop} {sz:Nat} {l:List α} {es:List (List OV)} {g:aA} {o:Option Nat} (h:OR R l es) (hs:aQF g es o):OS R sz l (gov sz es o):=by
 cases o with
 |none=>rw [aD6] at hs;subst hs;exact .inl ⟨rfl,by have:=h.length;simpa using this⟩
 |some n=>exact OS.mk h
theorem aY9 {sz:Nat} {es:List (List OV)} {h g:aA} {o:Option Nat} (x:g8 h (OV.bG es) g) (hs:aQF g es o):g8 h (gov sz es o).rows (gB g (.row sz (OV.cells es)) o):=by
 cases o with
 |none=>rw [aD6] at hs;subst hs;rw [aLE,OV.kZ,aP];simpa [OV.bG] using x
 |some n=>rw [aLF,OV.cK,aK];exact x.row hs
theorem s8 (es:List (List OV)):List.take es.length (OV.cells es) = OV.cells es:=List.take_of_length_le (by simp [OV.cells])
theorem aN8 (es:List (List OV)) (e:List OV):OV.cells (es ++ [e]) = OV.cells es ++ [e.map fun c=>Cell.v c.val]:=by rw [cP];rfl
theorem aSZ (e:List OV):OV.cells [e] = [e.map fun c=>Cell.v c.val]:=rfl
theorem mY (sz len:Nat) (o:Option Nat):(mQ sz len o).flat = true:=by cases o <;> rfl
theorem lA (es:List (List OV)):(OV.cells es).length = es.length:=by simp [OV.cells]
theorem g8.snoc {h g g1:aA} {es:List (List OV)} {e:List OV} (x:g8 h (OV.bG es) g) (y:g8 g (OV.bR e) g1):g8 h (OV.bG (es ++ [e])) g1:=by
 rw [oG];exact x.append y
def aA.wk (g h:aA):Prop:=∀ E w,Rel E h w→Rel E g w∧∀ b,nB E h w b→nB E g w b
theorem aA.kF {g h:aA} (hl:g.le h):g.wk h:=fun E w R=>⟨R.forget hl,fun b i=>nB.le hl i⟩
theorem aA.wk.trans {a b c:aA} (x:a.wk b) (y:b.wk c):a.wk c:=fun E w R =>
 ⟨(x E w (y E w R).1).1,fun d i=>(x E w (y E w R).1).2 d ((y E w R).2 d i)⟩
theorem aA.wk.ev {g h:aA} (x:g.wk h) {E:Env} {w:World} (R:Rel E h w):Ev E h w E g w :=
 ⟨Nat.le_refl _,fun b hb=>⟨rfl,(x E w R).2 b hb⟩,fun _ _=>rfl,fun _ hn=>⟨rfl,hn⟩,rfl,rfl⟩
theorem mM.wk {P:Program} {N:Nat} {c:Code} {Q:Exit→bE→aA→Prop} {τ:bE} {h g:aA} (hl:g.wk h) (x:mM P N c Q τ g):mM P N c Q τ h :=
 fun ds E w a R r=>Code.wp_mono (fun e a' w' y=>o8.trans (hl.ev R) y) (x ds E w a (hl E w R).1 (r.ev (hl.ev R)))
theorem mM.aQG {P:Program} {N:Nat} {c:Code} {Q:Exit→bE→aA→Prop} {τ:bE} {h:aA} {α:Type} (S:α→bE) (H:α→aA) (side:α→Prop) (μ:α→Nat) (x₀:α)
  (h₀:bU (S x₀) τ∧(H x₀).wk h∧side x₀)
  (round:∀ x,side x→mM P N c (rX (fun τ' h'=>∃ x',bU (S x') τ'∧(H x').wk h'∧side x'∧μ x' < μ x) Q) (S x) (H x)):mM P N (.loop c) Q τ h :=
 mM.loop (fun x τ h=>bU (S x) τ∧(H x).wk h∧side x) μ x₀ h₀ fun x τ h ⟨h1,h2,h3⟩ =>
  mM.wk h2 (mM.weaken h1 (aA.le_refl _) ((round x h3).mono fun e τ h q=>by
   cases e <;> simp only [rX] at q ⊢ <;> first | exact q | (obtain ⟨x',a,b,c,d⟩:=q;exact ⟨x',⟨a,b,c⟩,d⟩)))
theorem aQG {P:Program} {N:Nat} {keep ib:List Nat} {mk:Marks} {c:Code} {Q:Exit→bE→aA→Prop} {τ:bE} {h:aA} {t:Tag (Code.loop c,Q)} {α:Type} (hmix:P.follows .mixedOrders = true) (hc:iS N mk c = true) (S:α→bE) (H:α→aA) (side:α→Prop) (μ:α→Nat) (x₀:α)
  (h₀:bU (S x₀) τ∧(H x₀).wk h∧side x₀)
  (round:∀ x,side x→oO P N keep ib mk c (fun τ' h'=>∃ x',bU (S x') τ'∧(H x').wk h'∧side x'∧μ x' < μ x) Q (S x) (H x) ()):aAJ P N (.loop c) Q τ h t :=
 mM.aQG S H side μ x₀ h₀ fun x hx=>aDT hmix c _ _ _ _ hc (round x hx)
def a4N (x y:Cell):Prop:=∀ E h w c S,rJ E h w x c S→rJ E h w y c S
def xM:List (List Cell)→List (List Cell)→Prop
 | [],[]=>True
 |a :: l,b :: m=>(a.length = b.length∧∀ (j:Nat) (x:Cell),b[j]? = some x→∃ y,a[j]? = some y∧a4N y x)∧xM l m
 | _,_=>False
theorem xM.length:∀ {l m},xM l m→l.length = m.length
 | [],[],_=>rfl
 |a :: l,b :: m,h=>by rw [List.length_cons,List.length_cons,xM.length h.2]
 | [],_ :: _,h=>h.elim
 | _ :: _,[],h=>h.elim
theorem xM.size {sz:Nat}:∀ {l m},xM l m→(∀ e∈l,e.length = sz)→∀ e∈m,e.length = sz
 | [],[],_,_=>by simp
 |a :: l,b :: m,h,hs=>fun e he=>by
  rcases List.mem_cons.1 he with rfl | he
  ·rw [← h.1.1];exact hs a List.mem_cons_self
  ·exact xM.size h.2 (fun e he=>hs e (List.mem_cons_of_mem _ he)) e he
 | [],_ :: _,h,_=>h.elim
 | _ :: _,[],h,_=>h.elim
abbrev Q4:=Option (Nat × Nat × Nat × Nat)
def q1:Q4→Option Nat | none=>none | some x=>some x.1
def q2:Q4→Option Nat | none=>none | some x=>some x.2.1
def q3:Q4→Option Nat | none=>none | some x=>some x.2.2.1
def q4:Q4→Option Nat | none=>none | some x=>some x.2.2.2
theorem nL {α:Type} (c:α→aC) (l:List α) (k:Nat) (x:α):((l.map fun x=>[c x]).map (List.map Cell.v)).set k [Cell.v (c x)] = ((l.set k x).map fun x=>[c x]).map (List.map Cell.v):=by
 rw [List.map_map,List.map_map,List.map_set];rfl
theorem OR.vL {α:Type} {c:α→aC}:∀ {l:List α} {es:List (List OV)},OR (oP c) l es→es = l.map fun x=>[.v (c x)]
 | [],[],_=>rfl
 |x :: l,e :: es,h=>by rw [List.map_cons,← OR.vL h.2,show e = [.v (c x)] from h.1]
 | [],_ :: _,h=>h.elim
 | _ :: _,[],h=>h.elim
theorem OS.vL {α:Type} {c:α→aC} {sz:Nat} {l:List α} {y:OV} (h:OS (oP c) sz l y):(y = .nil sz∧l = [])∨∃ n,y = .sl n sz (l.map fun x=>[.v (c x)]):=by
 rcases h with h | ⟨n,es,rfl,h⟩
 ·exact .inl h
 ·exact .inr ⟨n,by rw [h.vL]⟩
theorem OV.iQ {α:Type} (c:α→aC) (n sz:Nat) (l:List α):(OV.sl n sz (l.map fun x=>[.v (c x)])).val = .os n sz 0 l.length:=by rw [OV.nJ,List.length_map]
theorem g8.aU6 {h g:aA} (e1:List OV) {e2:List OV} {n sz:Nat} {es:List (List OV)} (x:g8 h (OV.bR (e1 ++ OV.sl n sz es :: e2)) g):g n = some (.row sz (OV.cells es)) :=
 x.iD (n,_) (by rw [OV.vG,OV.cO,OV.cK];simp)
theorem jM {P:Program} {N:Nat} {keep ib:List Nat} {mk:Marks} {c:Code} {Q:Exit→bE→aA→Prop} {τ:bE} {h:aA} {t:Tag (Code.loop c,Q)} {α:Type} (hmix:P.follows .mixedOrders = true) (hc:iS N mk c = true) (S:α→bE) (side:α→Prop) (μ:α→Nat) (x₀:α)
  (h₀:bU (S x₀) τ∧side x₀)
  (round:∀ x,side x→oO P N keep ib mk c (fun τ' h'=>∃ x',bU (S x') τ'∧h.le h'∧side x'∧μ x' < μ x) Q (S x) h ()):aAJ P N (.loop c) Q τ h t :=
 bQ hmix hc S (fun _=>h) side μ x₀ ⟨h₀.1,aA.le_refl _,h₀.2⟩ round
theorem sB {h:aA} {n:Nat} {o:bH} (hn:h n = some o):a7 h n o = h:=by
 funext q;simp only [dX];split
 ·subst_vars;exact hn.symm
 ·rfl
theorem wA {P:Program} {N:Nat} {keep ib:List Nat} {mk:Marks} {c:Code} {Q:Exit→bE→aA→Prop} {τ:bE} {h:aA} {t:Tag (Code.loop c,Q)} {α:Type} (hmix:P.follows .mixedOrders = true) (hc:iS N mk c = true) (S:α→bE) (n:Nat) (R:α→bH) (side:α→Prop) (μ:α→Nat) (x₀:α)
  (h₀:bU (S x₀) τ∧h n = some (R x₀)∧side x₀)
  (round:∀ x,side x→oO P N keep ib mk c (fun τ' h'=>∃ x',bU (S x') τ'∧(a7 h n (R x')).le h'∧side x'∧μ x' < μ x) Q (S x) (a7 h n (R x)) ()):aAJ P N (.loop c) Q τ h t :=
 bQ hmix hc S (fun x=>a7 h n (R x)) side μ x₀ ⟨h₀.1,by simp only [sB h₀.2.1];exact aA.le_refl _,h₀.2.2⟩ round
theorem aA.fN {g h:aA} {n:Nat} {o:bH} (hl:g.le h):(a7 g n o).le (a7 h n o):=fun q=>by
 simp only [dX];split
 ·exact .inr rfl
 ·exact hl q
theorem View.box {T:List aC} {g:aA} {nb sz:Nat} {e:List OV} (hd:e.map OV.lQ = T) (hn:g nb = none) (ho:fR g (OV.bR e)):View (a7 g nb (.row sz (OV.cells [e]))) (.op nb sz 0 0) (.ip sz [T] 0 0):=by
 have:=View.op (h:=a7 g nb (.row sz (OV.cells [e]))) (n:=nb) (sz:=sz) (i:=0) (off:=0) [e] (by rw [aH]) (by simp) (by
  have h1:OV.bG [e] = OV.bR e:=by simp [OV.bG]
  rw [h1];exact ho.up hn)
 have h2:OV.cQ [e] = [T]:=by rw [OV.iU];simp [hd]
 rwa [h2] at this
theorem g8.le {h g:aA} {l:List (Nat × bH)} (w:g8 h l g):h.le g:=fun q=>by
 by_cases hq:q∈a4 l
 ·exact .inl (w.fresh q hq)
 ·exact .inr (w.upto q hq).symm
theorem aS0 {es:List (List OV)} {k:Nat} {e:List OV} (h:es[k]? = some e):(OV.cells es)[k]? = some (e.map fun c=>Cell.v c.val):=by
 rw [OV.cells,List.getElem?_map,h];rfl
theorem OR.bAH {α:Type} {R:α→List OV→Prop}:∀ {l:List α} {es:List (List OV)},OR R l es→∀ (k:Nat) x,l[k]? = some x→∃ e,es[k]? = some e∧R x e
 | [],[],_,k,x,h=>by simp at h
 |a :: l,b :: es,h,0,x,e=>by simp at e;subst e;exact ⟨b,rfl,h.1⟩
 |a :: l,b :: es,h,k + 1,x,e=>OR.bAH h.2 k x (by simpa using e)
 | [],_ :: _,h,_,_,_=>h.elim
 | _ :: _,[],h,_,_,_=>h.elim
theorem OR.set {α:Type} {R:α→List OV→Prop}:∀ {l:List α} {es:List (List OV)},OR R l es→∀ (k:Nat) x e,R x e→OR R (l.set k x) (es.set k e)
 | [],[],_,k,x,e,_=>by simp [OR]
 |a :: l,b :: es,h,0,x,e,he=>⟨he,h.2⟩
 |a :: l,b :: es,h,k + 1,x,e,he=>⟨h.1,OR.set h.2 k x e he⟩
 | [],_ :: _,h,_,_,_,_=>h.elim
 | _ :: _,[],h,_,_,_,_=>h.elim
def leX (S:List Nat) (g h:aA):Prop:=∀ q,q ∉ S→g q = none∨g q = h q
theorem lL {g h:aA} (x:leX [] g h):g.le h:=fun q=>x q (by simp)
theorem jN (S:List Nat) (g:aA):leX S g g:=fun q _=>.inr rfl
theorem lM {S:List Nat} {g h:aA} {n:Nat} {o:bH} (hn:h n = some o) (x:leX (n :: S) g h):leX S (a7 g n o) h:=fun q hq=>by
 simp only [dX];split
 ·subst_vars;exact .inr hn.symm
 ·rename_i e;exact x q (by simp only [List.mem_cons,not_or];exact ⟨e,hq⟩)
theorem iG {S:List Nat} {g h:aA} {n:Nat} {o:bH} (hn:n∈S∨g n = none) (x:leX S g h):leX S g (a7 h n o):=fun q hq=>by
 simp only [dX];split
 ·subst_vars
  rcases hn with hn | hn
  ·exact absurd hn hq
  ·exact .inl hn
 ·exact x q hq
theorem fE.wk {P:Program} {f:FuncId} {args:List aC} {g h:aA} {K:aC→aA→Prop} (hl:g.wk h) (a:fE P f args g K):fE P f args h K :=
 ⟨a.1,fun E w vs R r=>by
  obtain ⟨R',hi⟩:=hl E w R
  exact (a.2 E w vs R' (cX.pX hi r)).mono fun e w' q=>by
   cases e with
   |returned v =>
    obtain ⟨r,h',E',k,ev,R2,r2⟩:=q
    exact ⟨r,h',E',k,(hl.ev R).trans ev,R2,r2⟩
   | _=>exact q.elim⟩
theorem aG.wk {P:Program} {f:FuncId} {args:List aC} {g h:aA} {K:aC→aA→Prop} {t:Tag K} (hl:g.wk h) (a:aG P f args g K t):aG P f args h K t:=fE.wk hl a
theorem fE.shift {P:Program} {f:FuncId} {args:List aC} {h:aA} {K K':aC→aA→Prop} (a:fE P f args h K') (hk:∀ r h',K' r h'→∃ g:aA,g.wk h'∧K r g):fE P f args h K :=
 ⟨a.1,fun E w vs R r=>by
  exact (a.2 E w vs R r).mono fun e w' q=>by
   cases e with
   |returned v =>
    obtain ⟨r,h',E',k,ev,R2,r2⟩:=q
    obtain ⟨g,hg,k'⟩:=hk r h' k
    obtain ⟨R3,hi⟩:=hg E' w' R2
    exact ⟨r,g,E',k',ev.trans (hg.ev R2),R3,eC.pX hi r2⟩
   | _=>exact q.elim⟩
def xN (c:List Int) (k:Nat):List Int:=c.take k ++ List.replicate (c.length - k) 0
theorem yU (c:List Int):xN c 0 = List.replicate c.length 0:=by simp [xN]
theorem aCB (c:List Int):xN c c.length = c:=by simp [xN]
theorem aCC (c:List Int) {k:Nat} (hk:k≤c.length):(xN c k).length = c.length:=by simp [xN];omega
theorem aCD {c:List Int} {k:Nat} (hk:k < c.length):(xN c k)[k]? = some 0:=by
 have h1:(c.take k).length = k:=by rw [List.length_take];omega
 rw [xN,List.getElem?_append_right (by omega),h1,Nat.sub_self,List.getElem?_replicate,if_pos (by omega)]
theorem aCE {c:List Int} {k:Nat} (hk:k < c.length):(xN c k).set k c[k] = xN c (k + 1):=by
 have h1:(c.take k).length = k:=by rw [List.length_take];omega
 rw [xN,xN,List.set_append_right _ _ (by omega),h1,Nat.sub_self,List.take_succ_eq_append_getElem hk,show c.length - k = (c.length - (k + 1)) + 1 by omega,List.replicate_succ,List.set_cons_zero,List.append_assoc,List.singleton_append]
theorem s9 (n:Nat):(List.replicate n [aC.int .i64 0]).map (List.map Cell.v) = ((List.replicate n (0:Int)).map fun n=>[aC.int .i64 n]).map (List.map Cell.v):=by simp
theorem iY {P:Program} {f:FuncId} {fn:Func} {c:Code} (N:Nat) (keep ib:List Nat) (mk:Marks) {args:List aC} {h:aA} {K:aC→aA→Prop} (hmix:P.follows .mixedOrders = true) (hf:P.funcs[f]? = some fn) (hb:fn.body = some c)
  (hck:(kX P f && decide (fn.ntmps = N) && iS N mk c) = true) (hl:args.length≤N)
  (hw:oO P N keep ib mk c (fun τ h'=>p7 P fn.results (fun r h'=>∃ r1 g,Shift r h' r1 g∧K r1 g) () .normal τ h') (p7 P fn.results (fun r h'=>∃ r1 g,Shift r h' r1 g∧K r1 g) ()) (p4 0 args) h ()):fE P f args h K :=
 p6 (fn:=fn) (c:=c) (N:=N) (aDQ N keep ib mk hmix hf hb hck hl (K':=fun r h'=>∃ r1 g,Shift r h' r1 g∧K r1 g) (K:=fun r h'=>∃ r1 g,Shift r h' r1 g∧K r1 g) hw fun _ h' hx=>⟨h',aA.le_refl _,hx⟩) fun r h' hx=>hx
theorem cX.nV {E:Env} {h:aA} {w:World} (R:Rel E h w) {n sz:Nat} {es:List (List Cell)} (hn:h n = some (.row sz es)):∀ {xs:List aC} {vs:List Value},cX E h w xs vs→dG n sz es.length xs = true→cX E (a7 h n .gone) w (iF n (dP es) xs) vs
 | [],[],_,_=>trivial
 |x :: xs,v :: vs,r,hb=>by
  simp only [dG,Bool.and_eq_true] at hb
  exact ⟨r.1.nV R hn hb.1,cX.nV R hn r.2 hb.2⟩
 | [],_ :: _,r,_=>r.elim
 | _ :: _,[],r,_=>r.elim
theorem aG.aU7 {P:Program} {f:FuncId} {args:List aC} {h:aA} {K:aC→aA→Prop} {t:Tag K} (n:Nat) {sz:Nat} {es:List (List Cell)} (hn:h n = some (.row sz es)) (hb:dG n sz es.length args = true)
  (a:fE P f (iF n (dP es) args) (a7 h n .gone) K):aG P f args h K t :=
 ⟨a.1,fun E w vs R r=>(a.2 E w vs (R.gone hn) (r.nV R hn hb)).mono fun e w' q=>by
  cases e with
  |returned v =>
   obtain ⟨r,h',E',k,ev,R2,r2⟩:=q
   exact ⟨r,h',E',k,(Ev.gone n).trans ev,R2,r2⟩
  | _=>exact q.elim⟩
def Cell.uI (n:Nat) (es:List (List aC)):Cell→Cell
 | .v x=>.v (x.cR n es)
 | .own sz ys=>.own sz ys
theorem aG4 (m:Nat) (vs:List (List aC)) (es:List (List Cell)) (i j:Nat):iE (es.map (List.map (Cell.uI m vs))) i j = (iE es i j).map (Cell.uI m vs):=nF _ _ _ _
theorem aA.aRE {h:aA} {m b sz sz2:Nat} {es es2:List (List Cell)} (hm:h m = some (.row sz es)) (hb:h b = some (.row sz2 es2)) (hne:¬ b = m) (hok:∀ i j x,iE es2 i j = some (.v x)→dF m sz es.length x = true) :
  (a7 (a7 h m .gone) b (.row sz2 (es2.map (List.map (Cell.uI m (dP es)))))).wk h:=fun E w R=>by
 have R1:=R.gone hm
 have jP:(a7 h m .gone) b = some (.row sz2 es2):=by rw [aF _ _ _ _ hne];exact hb
 have h0:∀ b,nB E h w b→nB E (a7 h m .gone) w b:=fun b=>uW m b

 have hrow:=R.obj b _ hb
 have h1b:aC2 E h w ((E.loc b).getD (0,0)).1 ((E.loc b).getD (0,0)).2 sz2 es2 (E.fp b)∨es2 = []:=by
  rcases hrow with ⟨k,o2,hlc,ra⟩ | ⟨he,_⟩
  ·left;rw [hlc];exact ra
  ·exact .inr he
 have R2:Rel E (a7 (a7 h m .gone) b (.row sz2 (es2.map (List.map (Cell.uI m (dP es)))))) w∧∀ q,nB E (a7 h m .gone) w q→nB E (a7 (a7 h m .gone) b (.row sz2 (es2.map (List.map (Cell.uI m (dP es)))))) w q:=by
  have live:∀ q o,a7 (a7 h m .gone) b (.row sz2 (es2.map (List.map (Cell.uI m (dP es))))) q = some o→∃ o',(a7 h m .gone) q = some o'∧(o.live→o'.live):=fun q o ho=>by
   by_cases e:q = b
   ·subst e;exact ⟨_,jP,fun _=>trivial⟩
   ·rw [aF _ _ _ _ e] at ho;exact ⟨o,ho,id⟩
  have pX:∀ q,nB E (a7 h m .gone) w q→nB E (a7 (a7 h m .gone) b (.row sz2 (es2.map (List.map (Cell.uI m (dP es)))))) w q:=fun q i=>⟨i.1,fun n o ho hl=>by
   obtain ⟨o',h1,h2⟩:=live n o ho;exact i.2 n o' h1 (h2 hl)⟩
  refine ⟨⟨R1.fin,fun n hn=>R1.dom n fun e=>?_,fun n o c hn hl=>?_,fun n o n' o' c hn hl hn' hl'=>?_,fun n o hn=>?_,R1.laid.pX pX⟩,pX⟩
  ·by_cases e2:n = b
   ·subst e2;rw [jP] at e;cases e
   ·rw [aF _ _ _ _ e2] at hn;exact hn e
  ·obtain ⟨o2,h1,h2⟩:=live n o hn
   exact R1.lt n o2 c h1 (h2 hl)
  ·obtain ⟨o2,h1,h2⟩:=live n o hn
   obtain ⟨o3,h3,h4⟩:=live n' o' hn'
   exact R1.apart n o2 n' o3 c h1 (h2 hl) h3 (h4 hl')
  ·by_cases e:n = b
   ·subst e
    rw [aH] at hn
    obtain rfl:=Option.some.inj hn
    rcases hrow with ⟨k,o2,hlc,ra⟩ | ⟨he,hlc⟩
    ·refine .inl ⟨k,o2,hlc,ra.hb,fun e he=>?_,?_⟩
     ·obtain ⟨e',he',rfl⟩:=List.mem_map.1 he
      rw [List.length_map];exact ra.size e' he'
     obtain ⟨cs,t,cv,T,h1,h2,h3,h4,h5,h6⟩:=ra.mem
     refine ⟨cs,t,cv,T,h1,by rw [List.length_map];exact h2,h3,h4,fun i j x hx=>?_,fun i j x hx=>?_⟩
     ·rw [aG4] at hx
      obtain ⟨y,hy,rfl⟩:=Option.map_eq_some_iff.1 hx
      exact h5 i j y hy
     ·rw [aG4] at hx
      obtain ⟨y,hy,rfl⟩:=Option.map_eq_some_iff.1 hx
      have hr:=h6 i j y hy
      cases y with
      |v y =>
       cases hr with
       |v _ _ _ k1 k2 =>
        exact .v _ _ _ k1 ((k2.nV R hm (hok i j y hy)).pX pX)
      |own s ys=>exact (hr.pX h0).pX pX
    ·subst he
     exact .inr ⟨rfl,hlc⟩
   ·rw [aF _ _ _ _ e] at hn
    exact (R1.obj n o hn).pX pX
 exact ⟨R2.1,fun q i=>R2.2 q (h0 q i)⟩
def oL {α:Type} (c:α→aC) (l:List α) (e:List OV):Prop:=∃ y,e = [y]∧OS (oP c) 1 l y
theorem aV2 {α:Type} {c:α→aC} {l:List α} {e:List OV} (h:oL c l e):e.map OV.lQ = [.sl 1 (l.map fun x=>[c x]) false]:=by
 obtain ⟨y,rfl,hy⟩:=h
 rw [List.map_cons,List.map_nil,OS.lQ (c:=fun x=>[c x]) (fun _ _ q=>xI q) hy]
theorem g8.bAU {α:Type} {c:α→aC} {h g:aA} {b k n:Nat} {es:List (List OV)} {l:List α} (X:g8 h (OV.bR [OV.sl b 1 es]) g) (hk:es[k]? = some [OV.sl n 1 (l.map fun x=>[.v (c x)])]) :
  g n = some (.row 1 ((l.map fun x=>[c x]).map (List.map .v)))∧¬ n = b:=by
 have hmem:(n,bH.row 1 ((l.map fun x=>[c x]).map (List.map .v)))∈OV.bG es:=by
  refine OV.wW (List.mem_of_getElem? hk) ?_
  rw [OV.cO,OV.dV,List.append_nil,OV.cK,eS]
  exact List.mem_cons_self
 refine ⟨X.iD (n,_) ?_,fun e=>?_⟩
 ·rw [OV.cO,OV.dV,List.append_nil,OV.cK]
  exact List.mem_cons_of_mem _ hmem
 ·have nd:=X.nodup
  rw [OV.cO,OV.dV,List.append_nil,OV.cK] at nd
  simp only [a4,List.map_cons,List.nodup_cons] at nd
  refine nd.1 ?_
  rw [← e]
  exact List.mem_map.2 ⟨_,hmem,rfl⟩
end Go.Hl

/-
  Contracts of functions and laws of the layer over the walk.
-/
import Derived.WalkKit
import Derived.IntWalk
namespace Go.Hl
set_option linter.unusedVariables false
set_option linter.unusedSimpArgs false
inductive aC where
 |any
 |bool (b:Bool)
 |int (k:IntKind) (n:Int)
 |str (s:List UInt8)
 |iH
 |bO
 |pF
 |kC
 |mB
 |sl (sz:Nat) (es:List (List aC)) (tight:Bool)
 |ip (sz:Nat) (es:List (List aC)) (i off:Nat)
 |os (n sz i len:Nat)
 |op (n sz i off:Nat)
 |agg (cs:List aC)
 |gW (cs:List aC)
 |fn (f:Fn) (first cap:List aC)
 |iface (t:TypeId) (v:aC)
 |mp (n:Nat)
 deriving Inhabited
inductive Cell where
 |v (x:aC)
 |own (sz:Nat) (es:List (List Cell))
 deriving Inhabited
inductive bH where
 |row (sz:Nat) (es:List (List Cell))
 |map (kt et:TypeId) (l:List (aC × aC))
 |raw (t:TypeId) (cs:Array Value)
 |abs (Q:Nat→(Nat→Prop)→World→Prop)
 |gone
 deriving Inhabited
abbrev aA:=Nat→Option bH
def bH.live:bH→Prop
 | .gone=>False
 | _=>True
def a7 (h:aA) (n:Nat) (o:bH):aA:=fun m=>if m = n then some o else h m
structure Env where
 loc:Nat→Option (Nat × Nat)
 fp:Nat→Nat→Prop
 used:Nat→Prop
def nB (E:Env) (h:aA) (w:World) (b:Nat):Prop :=
 b < w.heap.size∧∀ n o,h n = some o→o.live→¬ E.fp n b
def iE {α:Type} (es:List (List α)) (i j:Nat):Option α:=(es[i]?).bind (·[j]?)
theorem jI {α:Type} {es:List (List α)} {i j:Nat} {x:α} (h:iE es i j = some x):∃ e,es[i]? = some e∧e[j]? = some x:=by
 unfold iE at h
 cases he:es[i]? with
 |none=>simp [he] at h
 |some e=>exact ⟨e,rfl,by simpa [he] using h⟩
theorem aT3 {α:Type} {es:List (List α)} {i j:Nat} {x:α} (h:iE es i j = some x):i < es.length:=by
 obtain ⟨e,he,_⟩:=jI h
 exact (List.getElem?_eq_some_iff.1 he).1
theorem aB5 {α:Type} {es:List (List α)} {sz i j:Nat} {x:α} (hs:∀ e∈es,e.length = sz) (h:iE es i j = some x):j < sz:=by
 obtain ⟨e,he,hj⟩:=jI h
 have:=hs e (List.mem_of_getElem? he)
 have:=(List.getElem?_eq_some_iff.1 hj).1
 omega
inductive eC (E:Env) (h:aA) (w:World):aC→Value→Prop where
 |any (v:Value):eC E h w .any v
 |bool (b:Bool):eC E h w (.bool b) (.bool b)
 |int (k:IntKind) (n:Int):eC E h w (.int k n) (.int k n)
 |str (s:List UInt8) (hl:s.length≤maxLen):eC E h w (.str s) (.string ⟨s.toArray⟩)
 |iH:eC E h w .iH (.pointer none)
 |bO:eC E h w .bO (.slice none 0 0)
 |pF:eC E h w .pF .nilFunc
 |kC:eC E h w .kC .nilIface
 |mB:eC E h w .mB (.map none)
 |w7 (sz:Nat) (t:Bool) (a:Option Addr) (cap:Nat) (ht:t = true→cap = 0) (hmax:cap≤maxLen) (ha:True):eC E h w (.sl sz [] t) (.slice a 0 cap)
 |sl (sz:Nat) (es:List (List aC)) (t:Bool) (b o cap:Nat) (cv:Nat→Nat→Value) (hi:nB E h w b) (hcap:es.length≤cap) (hmax:cap≤maxLen)
   (ht:t = true→cap = es.length) (hs:∀ e∈es,e.length = sz)
   (hc:∀ i j x,iE es i j = some x→w.cell? ⟨b,o + i * sz + j,none⟩ = some (cv i j)) (h1:∀ i j x,iE es i j = some x→(cv i j).oneCell' = true)
   (hr:∀ i j x,iE es i j = some x→eC E h w x (cv i j)):eC E h w (.sl sz es t) (.slice (some ⟨b,o,none⟩) es.length cap)
 |ip (sz:Nat) (es:List (List aC)) (i off b o:Nat) (cv:Nat→Nat→Value) (hi:nB E h w b) (hs:∀ e∈es,e.length = sz)
   (hc:∀ i j x,iE es i j = some x→w.cell? ⟨b,o + i * sz + j,none⟩ = some (cv i j)) (h1:∀ i j x,iE es i j = some x→(cv i j).oneCell' = true)
   (hr:∀ i j x,iE es i j = some x→eC E h w x (cv i j)):eC E h w (.ip sz es i off) (.pointer (some ⟨b,o + i * sz + off,none⟩))
 |os (n sz i len b o cap:Nat) (t:TypeId) (m:Nat) (hd:E.used n) (hl:E.loc n = some (b,o)) (hlc:len≤cap) (hmax:cap≤maxLen)
   (hsh:w.shape? b = some (t,m)) (hm:o + (i + cap) * sz≤m):eC E h w (.os n sz i len) (.slice (some ⟨b,o + i * sz,none⟩) len cap)
 |os0 (n sz:Nat) (hd:E.used n) (hl:E.loc n = none):eC E h w (.os n sz 0 0) (.slice none 0 0)
 |op (n sz i off b o:Nat) (hd:E.used n) (hl:E.loc n = some (b,o)):eC E h w (.op n sz i off) (.pointer (some ⟨b,o + i * sz + off,none⟩))
 |agg (cs:List aC) (vs:List Value) (hl:cs.length = vs.length) (hr:∀ (i:Nat) (x:aC) (v:Value),cs[i]? = some x→vs[i]? = some v→eC E h w x v):eC E h w (.agg cs) (.agg vs.toArray)
 |gW (cs:List aC) (vs:List Value) (hl:cs.length = vs.length) (hr:∀ (i:Nat) (x:aC) (v:Value),cs[i]? = some x→vs[i]? = some v→eC E h w x v):eC E h w (.gW cs) (.tuple vs.toArray)
 |fn (f:Fn) (cs ds:List aC) (vs us:List Value) (hl:cs.length = vs.length) (hr:∀ (i:Nat) (x:aC) (v:Value),cs[i]? = some x→vs[i]? = some v→eC E h w x v)
   (hl':ds.length = us.length) (hr':∀ (i:Nat) (x:aC) (v:Value),ds[i]? = some x→us[i]? = some v→eC E h w x v):eC E h w (.fn f cs ds) (.func f vs.toArray us.toArray)
 |iface (t:TypeId) (x:aC) (v:Value) (hr:eC E h w x v):eC E h w (.iface t x) (.iface t v)
 |mp (n b o:Nat) (hd:E.used n) (hl:E.loc n = some (b,o)):eC E h w (.mp n) (.map (some b))
def cX (E:Env) (h:aA) (w:World):List aC→List Value→Prop
 | [],[]=>True
 |x :: xs,v :: vs=>eC E h w x v∧cX E h w xs vs
 | _,_=>False
theorem cX.length {E:Env} {h:aA} {w:World}:∀ {xs:List aC} {vs:List Value},cX E h w xs vs→xs.length = vs.length
 | [],[],_=>rfl
 |x :: xs,v :: vs,hh=>by simpa using cX.length hh.2
 | [],_ :: _,hh=>hh.elim
 | _ :: _,[],hh=>hh.elim
theorem cX.get {E:Env} {h:aA} {w:World}:∀ {xs:List aC} {vs:List Value},cX E h w xs vs →
  ∀ (i:Nat) (x:aC) (v:Value),xs[i]? = some x→vs[i]? = some v→eC E h w x v
 | [],[],_,i,x,v,hx,_=>by simp at hx
 |x :: xs,v :: vs,hh,0,y,u,hx,hv=>by simp at hx hv;subst hx;subst hv;exact hh.1
 |x :: xs,v :: vs,hh,i + 1,y,u,hx,hv=>cX.get hh.2 i y u (by simpa using hx) (by simpa using hv)
 | [],_ :: _,hh,_,_,_,_,_=>hh.elim
 | _ :: _,[],hh,_,_,_,_,_=>hh.elim
theorem cX.mk {E:Env} {h:aA} {w:World}:∀ {xs:List aC} {vs:List Value},xs.length = vs.length →
  (∀ (i:Nat) (x:aC) (v:Value),xs[i]? = some x→vs[i]? = some v→eC E h w x v)→cX E h w xs vs
 | [],[],_,_=>trivial
 |x :: xs,v :: vs,hl,hr=>⟨hr 0 x v rfl rfl,cX.mk (by simpa using hl) (fun i y u hy hu=>hr (i + 1) y u (by simpa using hy) (by simpa using hu))⟩
 | [],_ :: _,hl,_=>by simp at hl
 | _ :: _,[],hl,_=>by simp at hl
theorem cX.append {E:Env} {h:aA} {w:World}:∀ {xs:List aC} {vs:List Value} {ys:List aC} {us:List Value},
  cX E h w xs vs→cX E h w ys us→cX E h w (xs ++ ys) (vs ++ us)
 | [],[],_,_,_,hy=>hy
 |x :: xs,v :: vs,_,_,hx,hy=>⟨hx.1,cX.append hx.2 hy⟩
 | [],_ :: _,_,_,hx,_=>hx.elim
 | _ :: _,[],_,_,hx,_=>hx.elim
inductive rJ (E:Env) (h:aA) (w:World):Cell→Value→(Nat→Prop)→Prop where
 |v (x:aC) (c:Value) (S:Nat→Prop) (h1:c.oneCell' = true) (hx:eC E h w x c):rJ E h w (.v x) c S
 |aNQ (sz:Nat) (a:Option Addr) (cap:Nat) (S:Nat→Prop) (hmax:cap≤maxLen) (ha:True):rJ E h w (.own sz []) (.slice a 0 cap) S
 |own (sz:Nat) (es:List (List Cell)) (b o cap:Nat) (S:Nat→Prop) (cs:Array Value) (t:TypeId) (cv:Nat→Nat→Value) (T:Nat→Nat→Nat→Prop)
   (hb:S b) (hh:w.heap[b]? = some (.cells cs t (0,0))) (hlc:es.length≤cap) (hmax:cap≤maxLen) (hm:o + cap * sz≤cs.size) (hs:∀ e∈es,e.length = sz)
   (hT:∀ i j c,T i j c→S c∧c≠b) (hD:∀ i j i' j' c,T i j c→T i' j' c→i = i'∧j = j')
   (hc:∀ i j x,iE es i j = some x→cs[o + i * sz + j]? = some (cv i j))
   (hr:∀ i j x,iE es i j = some x→rJ E h w x (cv i j) (T i j)):rJ E h w (.own sz es) (.slice (some ⟨b,o,none⟩) es.length cap) S
structure aC2 (E:Env) (h:aA) (w:World) (b o sz:Nat) (es:List (List Cell)) (S:Nat→Prop):Prop where
 hb:S b
 size:∀ e∈es,e.length = sz
 mem:∃ (cs:Array Value) (t:TypeId) (cv:Nat→Nat→Value) (T:Nat→Nat→Nat→Prop),
  w.heap[b]? = some (.cells cs t (0,0))∧o + es.length * sz≤cs.size ∧
  (∀ i j c,T i j c→S c∧c≠b)∧(∀ i j i' j' c,T i j c→T i' j' c→i = i'∧j = j') ∧
  (∀ i j x,iE es i j = some x→cs[o + i * sz + j]? = some (cv i j))∧(∀ i j x,iE es i j = some x→rJ E h w x (cv i j) (T i j))
def aPV (E:Env) (h:aA) (w:World) (b:Nat) (l:List (aC × aC)) (S:Nat→Prop):Prop :=
 S b∧∃ (es:Array MapEntry) (clock:Nat),w.heap[b]? = some (.map es clock)∧(∀ e∈es,e.born < clock) ∧
  cX E h w (l.map (·.1)) (es.toList.map (·.key))∧cX E h w (l.map (·.2)) (es.toList.map (·.val))
def x6 (E:Env) (h:aA) (w:World) (n:Nat):bH→Prop
 | .row sz es=>(∃ b o,E.loc n = some (b,o)∧aC2 E h w b o sz es (E.fp n))∨(es = []∧E.loc n = none)
 | .map _ _ l=>∃ b o,E.loc n = some (b,o)∧aPV E h w b l (E.fp n)
 | .raw t cs=>∃ b,E.loc n = some (b,0)∧E.fp n b∧w.heap[b]? = some (.cells cs t (0,0))
 | .abs Q=>∃ b,E.loc n = some (b,0)∧E.fp n b∧∃ w0:World,Q b (E.fp n) w0∧∀ c,E.fp n c→w.heap[c]? = w0.heap[c]?
 | .gone=>True
def aT4:Option TypeId:=none
def aC3:List (Nat × (Array Value→Prop)):=[]
def uV (E:Env) (h:aA) (w:World):Prop:=∀ p∈aC3,nB E h w p.1∧∃ cs t f,w.heap[p.1]? = some (.cells cs t f)∧p.2 cs
structure Rel (E:Env) (h:aA) (w:World):Prop where
 fin:∃ N,∀ n,N≤n→¬ E.used n
 dom:∀ n,h n≠none→E.used n
 lt:∀ n o b,h n = some o→o.live→E.fp n b→b < w.heap.size
 apart:∀ n o m o' b,h n = some o→o.live→h m = some o'→o'.live→E.fp n b→E.fp m b→n = m
 obj:∀ n o,h n = some o→x6 E h w n o
 laid:uV E h w
structure Ev (E:Env) (h:aA) (w:World) (E':Env) (h':aA) (w':World):Prop where
 size:w.heap.size≤w'.heap.size
 keep:∀ b,nB E h w b→w'.heap[b]? = w.heap[b]?∧nB E' h' w' b
 shape:∀ b,b < w.heap.size→w'.shape? b = w.shape? b
 loc:∀ n,E.used n→E'.loc n = E.loc n∧E'.used n
 os:w'.os = w.os
 out:w'.output = w.output
theorem uV.ev {E E':Env} {h h':aA} {w w':World} (ev:Ev E h w E' h' w') (x:uV E h w):uV E' h' w':=fun p hp =>
 ⟨(ev.keep p.1 (x p hp).1).2,(x p hp).2.imp fun cs ⟨t,f,ht,q⟩=>⟨t,f,by rw [(ev.keep p.1 (x p hp).1).1];exact ht,q⟩⟩
theorem uV.pX {E:Env} {g h:aA} {w:World} (hi:∀ b,nB E h w b→nB E g w b) (x:uV E h w):uV E g w:=fun p hp=>⟨hi _ (x p hp).1,(x p hp).2⟩
theorem Ev.refl (E:Env) (h:aA) (w:World):Ev E h w E h w :=
 ⟨Nat.le_refl _,fun _ hb=>⟨rfl,hb⟩,fun _ _=>rfl,fun _ hn=>⟨rfl,hn⟩,rfl,rfl⟩
theorem Ev.trans {E E' E'':Env} {h h' h'':aA} {w w' w'':World} (a:Ev E h w E' h' w') (b:Ev E' h' w' E'' h'' w''):Ev E h w E'' h'' w'' where
 size:=Nat.le_trans a.size b.size
 keep:=fun x hx=>⟨(b.keep x (a.keep x hx).2).1.trans (a.keep x hx).1,(b.keep x (a.keep x hx).2).2⟩
 shape:=fun x hx=>(b.shape x (Nat.lt_of_lt_of_le hx a.size)).trans (a.shape x hx)
 loc:=fun n hn=>⟨(b.loc n (a.loc n hn).2).1.trans (a.loc n hn).1,(b.loc n (a.loc n hn).2).2⟩
 os:=b.os.trans a.os
 out:=b.out.trans a.out
theorem rK {w w':World} {b:Nat} (h:w'.heap[b]? = w.heap[b]?) (o:Nat) (s:Option Nat):w'.cell? ⟨b,o,s⟩ = w.cell? ⟨b,o,s⟩:=by
 simp only [World.cell?,h]
theorem aC4 {w:World} {b:Nat} {x:TypeId × Nat} (h:w.shape? b = some x):b < w.heap.size:=by
 unfold World.shape? at h
 cases hb:w.heap[b]? with
 |none=>simp [hb] at h
 |some y=>exact (Array.getElem?_eq_some_iff.1 hb).1
theorem eC.ev {E E':Env} {h h':aA} {w w':World} (ev:Ev E h w E' h' w') {x:aC} {v:Value} (r:eC E h w x v):eC E' h' w' x v:=by
 induction r with
 |any v=>exact .any v
 |bool b=>exact .bool b
 |int k n=>exact .int k n
 |str s hl=>exact .str s hl
 |iH=>exact .iH
 |bO=>exact .bO
 |pF=>exact .pF
 |kC=>exact .kC
 |mB=>exact .mB
 |w7 sz t a cap ht hmax ha=>exact .w7 sz t a cap ht hmax ha
 |sl sz es t b o cap cv hi hcap hmax ht hs hc h1 hr ih =>
  exact .sl sz es t b o cap cv (ev.keep b hi).2 hcap hmax ht hs (fun i j x hx=>by rw [rK (ev.keep b hi).1];exact hc i j x hx) h1 ih
 |ip sz es i off b o cv hi hs hc h1 hr ih =>
  exact .ip sz es i off b o cv (ev.keep b hi).2 hs (fun i j x hx=>by rw [rK (ev.keep b hi).1];exact hc i j x hx) h1 ih
 |os n sz i len b o cap t m hd hl hlc hmax hsh hm =>
  exact .os n sz i len b o cap t m (ev.loc n hd).2 ((ev.loc n hd).1.trans hl) hlc hmax ((ev.shape b (aC4 hsh)).trans hsh) hm
 |os0 n sz hd hl=>exact .os0 n sz (ev.loc n hd).2 ((ev.loc n hd).1.trans hl)
 |op n sz i off b o hd hl=>exact .op n sz i off b o (ev.loc n hd).2 ((ev.loc n hd).1.trans hl)
 |agg cs vs hl hr ih=>exact .agg cs vs hl ih
 |gW cs vs hl hr ih=>exact .gW cs vs hl ih
 |fn f cs ds vs us hl hr hl' hr' ih ih'=>exact .fn f cs ds vs us hl ih hl' ih'
 |iface t x v hr ih=>exact .iface t x v ih
 |mp n b o hd hl=>exact .mp n b o (ev.loc n hd).2 ((ev.loc n hd).1.trans hl)
theorem cX.ev {E E':Env} {h h':aA} {w w':World} (ev:Ev E h w E' h' w'):∀ {xs:List aC} {vs:List Value},cX E h w xs vs→cX E' h' w' xs vs
 | [],[],_=>trivial
 | _ :: _,_ :: _,hh=>⟨hh.1.ev ev,cX.ev ev hh.2⟩
 | [],_ :: _,hh=>hh.elim
 | _ :: _,[],hh=>hh.elim
@[simp] theorem aH (h:aA) (n:Nat) (o:bH):a7 h n o n = some o:=by simp [a7]
theorem aF (h:aA) (n m:Nat) (o:bH) (hn:m≠n):a7 h n o m = h m:=by simp [a7,hn]
theorem dX (h:aA) (n m:Nat) (o:bH):a7 h n o m = if m = n then some o else h m:=rfl
@[simp] theorem aO (h:aA) (n:Nat) (o o':bH):a7 (a7 h n o) n o' = a7 h n o':=by
 funext m;simp only [a7];split <;> rfl
def aA.le (g h:aA):Prop:=∀ n,g n = none∨g n = h n
theorem aA.le_refl (h:aA):h.le h:=fun _=>.inr rfl
theorem aA.le_trans {a b c:aA} (x:a.le b) (y:b.le c):a.le c:=fun n=>by
 rcases x n with h | h
 ·exact .inl h
 ·rcases y n with k | k
  ·exact .inl (h.trans k)
  ·exact .inr (h.trans k)
theorem aA.bI {g h:aA} {n:Nat} {o:bH} (hg:g n = none) (hl:g.le h):g.le (a7 h n o):=fun m=>by
 by_cases e:m = n
 ·subst e;exact .inl hg
 ·rw [aF _ _ _ _ e];exact hl m
def aC.nE:Value→aC
 | .bool b=>.bool b
 | .int k n=>.int k n
 | .string s=>if s.size≤maxLen then .str s.data.toList else .any
 | .pointer none=>.iH
 | .slice none 0 0=>.bO
 | .nilFunc=>.pF
 | .nilIface=>.kC
 | .map none=>.mB
 | _=>.any
def aC.ofValue:Value→aC
 | .bool b=>.bool b
 | .int k n=>.int k n
 | .string s=>if s.size≤maxLen then .str s.data.toList else .any
 | .pointer none=>.iH
 | .slice none 0 0=>.bO
 | .nilFunc=>.pF
 | .nilIface=>.kC
 | .map none=>.mB
 | .agg vs=>.agg (vs.toList.map aC.nE)
 | _=>.any
theorem eC.nE (E:Env) (h:aA) (w:World) (v:Value):eC E h w (aC.nE v) v:=by
 unfold aC.nE
 split <;> try constructor
 split
 ·rename_i s hs
  have:s = ⟨s.data.toList.toArray⟩:=by cases s;simp
  rw [this]
  exact .str _ (by simpa using hs)
 ·exact .any _
theorem eC.ofValue (E:Env) (h:aA) (w:World) (v:Value):eC E h w (aC.ofValue v) v:=by
 have h1:=eC.nE E h w v
 unfold aC.nE at h1
 unfold aC.ofValue
 split <;> try exact h1
 ·rename_i vs
  have:=eC.agg (E:=E) (h:=h) (w:=w) (vs.toList.map aC.nE) vs.toList (by simp) (fun i x v hx hv=>by
   rw [List.getElem?_map,hv] at hx
   obtain rfl:=Option.some.inj hx
   exact eC.nE E h w v)
  simpa using this
 ·exact .any _
inductive TyD where
 |int (k:IntKind)
 |bool
 |str
 |ptr (e:TypeId)
 |slice (e:TypeId)
 |arr (n:Nat) (e:TypeId)
 |st (fs:List (Nat × TypeId × Nat))
 |map (k e:TypeId)
 |other
structure jU where
 sz:Nat
 agg:Bool
 bytes:Nat
 zero:List aC
 d:TyD
def tyD (P:Program):TypeDesc→TyD
 | .int k=>.int k
 | .bool=>.bool
 | .string=>.str
 | .pointer e=>.ptr e
 | .slice e=>.slice e
 | .array n e=>.arr n e
 | .struct fs=>if fs.toList.all (fun f=>(P.info? f.type).isSome) then .st (fs.toList.map fun f=>(f.offset,f.type,P.cellsOf f.type)) else .other
 | .map k e=>.map k e
 | _=>.other
def gL (P:Program) (t:TypeId):Option jU :=
 match P.info? t,P.underlying t with
 |some i,some u=>some {
   sz:=i.size
   agg:=match u with | .struct _ | .array _ _=>true | _=>false
   bytes:=i.bytes
   zero:=match i.zero with | some v=>v.cells.toList.map aC.ofValue | none=>[]
   d:=tyD P u }
 | _,_=>none
theorem oM {P:Program} {t:TypeId} {r:jU} (h:gL P t = some r):∃ i u,P.info? t = some i∧P.underlying t = some u ∧
  r.sz = i.size∧r.bytes = i.bytes∧r.d = tyD P u∧r.agg = (match u with | .struct _ | .array _ _=>true | _=>false) ∧
  r.zero = (match i.zero with | some v=>v.cells.toList.map aC.ofValue | none=>[]):=by
 unfold gL at h
 split at h
 ·rename_i i u hi hu
  obtain rfl:=Option.some.inj h
  exact ⟨i,u,hi,hu,rfl,rfl,rfl,rfl,rfl⟩
 ·simp at h
def rT (P:Program) (o:Oper) (ρ:Operand→Value) (w:World) (R:Value→World→Prop):Prop :=
 match (execOp ρ o).run P w with
 | .ok (.value v) w'=>R v w'
 | .ok .skip w'=>R undef w'
 | .ok (.enter f args) w'=>Calls P f args w' fun e w''=>match e with | .returned v=>R v w'' | _=>False
 | _=>False
theorem rT.wp {P:Program} {o:Oper} {a:Act} {w:World} {next:Act→World→Prop} {Q:Exit→Act→World→Prop}
  (h:rT P o a.eval w fun v w'=>next (a.put o.dst v) w'):o.wp P a w next Q:=by
 unfold rT at h
 unfold Oper.wp
 generalize (execOp a.eval o).run P w = r at *
 cases r with
 |halt x w'=>exact h.elim
 |ok n w' =>
  cases n <;> first
   |exact h.elim
   |exact h
   |exact Calls.mono h fun e w' he=>by cases e <;> first | exact he | exact he.elim
theorem rT.hU {P:Program} {o:Oper} {ρ:Operand→Value} {w w':World} {v:Value} {R:Value→World→Prop}
  (hr:(execOp ρ o).run P w = .ok (.value v) w') (h:R v w'):rT P o ρ w R:=by
 unfold rT;rw [hr];exact h
theorem rT.aYD {P:Program} {o:Oper} {ρ:Operand→Value} {w w':World} {R:Value→World→Prop}
  (hr:(execOp ρ o).run P w = .ok .skip w') (h:R undef w'):rT P o ρ w R:=by
 unfold rT;rw [hr];exact h
def x7 (K:aC→aA→Prop) (E:Env) (h:aA) (w:World) (v:Value) (w':World):Prop :=
 ∃ r h' E',K r h'∧Ev E h w E' h' w'∧Rel E' h' w'∧eC E' h' w' r v
theorem x7.mono {K K':aC→aA→Prop} {E:Env} {h:aA} {w:World} {v:Value} {w':World} (hk:∀ r h',K r h'→K' r h')
  (a:x7 K E h w v w'):x7 K' E h w v w':=let ⟨r,h',E',k,rest⟩:=a;⟨r,h',E',hk _ _ k,rest⟩
theorem x7.same {K:aC→aA→Prop} {E:Env} {h:aA} {w:World} {v:Value} {r:aC} (hk:K r h) (hrel:Rel E h w) (hr:eC E h w r v):x7 K E h w v w :=
 ⟨r,h,E,hk,.refl _ _ _,hrel,hr⟩
def mA (P:Program) (o:Oper) (ρ:Operand→aC) (h:aA) (K:aC→aA→Prop):Prop :=
 ∀ E w (ρc:Operand→Value),Rel E h w→(∀ x,eC E h w (ρ x) (ρc x))→rT P o ρc w (x7 K E h w)
theorem rT.mono {P:Program} {o:Oper} {ρ:Operand→Value} {w:World} {R R':Value→World→Prop} (h:rT P o ρ w R) (hr:∀ v w',R v w'→R' v w'):rT P o ρ w R':=by
 unfold rT at *
 split at h
 ·exact hr _ _ h
 ·exact hr _ _ h
 ·exact Calls.mono h fun e w' he=>by cases e <;> first | exact hr _ _ he | exact he
 ·exact h
theorem mA.mono {P:Program} {o:Oper} {ρ:Operand→aC} {h:aA} {K K':aC→aA→Prop} (hk:∀ r h',K r h'→K' r h') (a:mA P o ρ h K):mA P o ρ h K' :=
 fun E w ρc hR hρ=>(a E w ρc hR hρ).mono fun v w'=>x7.mono hk
def aHU (P:Program) (f:FuncId) (args:List aC) (h:aA) (K:aC→aA→Prop):Prop :=
 ∀ E w vs,Rel E h w→cX E h w args vs→Calls P f vs.toArray w fun e w'=>match e with | .returned v=>x7 K E h w v w' | _=>False
theorem aHU.mono {P:Program} {f:FuncId} {args:List aC} {h:aA} {K K':aC→aA→Prop} (hk:∀ r h',K r h'→K' r h') (a:aHU P f args h K):aHU P f args h K' :=
 fun E w vs hR hv=>Calls.mono (a E w vs hR hv) fun e w' he=>by cases e <;> first | exact x7.mono hk he | exact he
section pure
variable {P:Program} {o:Oper} {ρ:Operand→aC} {h:aA} {K:aC→aA→Prop}
theorem bS {r:aC} (hk:K r h) (hx:∀ E w (ρc:Operand→Value),Rel E h w→(∀ x,eC E h w (ρ x) (ρc x))→∃ v,(execOp ρc o).run P w = .ok (.value v) w∧eC E h w r v):mA P o ρ h K:=by
 intro E w ρc hR hρ
 obtain ⟨v,hv,hr⟩:=hx E w ρc hR hρ
 exact .hU hv (.same hk hR hr)
theorem aT5 (x:Operand) (ho:o.op = .move x) (hk:K (ρ x) h):mA P o ρ h K :=
 bS hk fun E w ρc _ hρ=>⟨ρc x,by simp [execOp,ho],hρ x⟩
theorem aNR (x:Operand) (ho:o.op = .assign x) (hk:K (ρ x) h):mA P o ρ h K :=
 bS hk fun E w ρc _ hρ=>⟨ρc x,by simp [execOp,ho],hρ x⟩
theorem rU {E:Env} {w:World} {b:Bool} {v:Value} (hr:eC E h w (.bool b) v):v = .bool b:=by cases hr;rfl
theorem jJ {E:Env} {w:World} {k:IntKind} {n:Int} {v:Value} (hr:eC E h w (.int k n) v):v = .int k n:=by cases hr;rfl
theorem qU {E:Env} {w:World} {s:List UInt8} {v:Value} (hr:eC E h w (.str s) v):v = .string ⟨s.toArray⟩∧s.length≤maxLen:=by cases hr;exact ⟨rfl,by assumption⟩
theorem aT6 (c a b:Operand) (t:Bool) (ho:o.op = .pick c a b) (hc:ρ c = .bool t) (hk:K (if t then ρ a else ρ b) h):mA P o ρ h K :=
 bS hk fun E w ρc _ hρ=>by
  have:=rU (hc ▸ hρ c)
  refine ⟨if t then ρc a else ρc b,by simp [execOp,ho,this,asBool],?_⟩
  cases t
  ·exact hρ b
  ·exact hρ a
def lF (op:BinOp):aC→aC→Option aC
 | .int k a,.int k' b =>
  if k = k' then
   match op with
   | .add=>some (.int k (k.wrap (a + b)))
   | .sub=>some (.int k (k.wrap (a - b)))
   | .mul=>some (.int k (k.wrap (a * b)))
   | .eql=>some (.bool (decide (a = b)))
   | .neq=>some (.bool (!decide (a = b)))
   | .lss=>some (.bool (decide (a < b)))
   | .leq=>some (.bool (decide (a≤b)))
   | .gtr=>some (.bool (decide (a > b)))
   | .geq=>some (.bool (decide (a ≥ b)))
   | .and=>some (.int k (k.wrap (BitVec.ofInt k.bits a &&& BitVec.ofInt k.bits b).toNat))
   | .or=>some (.int k (k.wrap (BitVec.ofInt k.bits a ||| BitVec.ofInt k.bits b).toNat))
   | .andNot=>some (.int k (k.wrap (BitVec.ofInt k.bits a &&& ~~~ BitVec.ofInt k.bits b).toNat))
   | _=>none
  else none
 | .str a,.str b =>
  match op with
  | .eql=>some (.bool (decide (a = b)))
  | .neq=>some (.bool (!decide (a = b)))
  | _=>none
 | _,_=>none
theorem aYE (op:BinOp) (t ty:TypeId) (x y:Operand) (r:aC) (ho:o.op = .binOp op t x y ty) (hb:lF op (ρ x) (ρ y) = some r) (hk:K r h):mA P o ρ h K :=
 bS hk fun E w ρc _ hρ=>by
  have hx:=hρ x
  have hy:=hρ y
  unfold lF at hb
  split at hb
  ·rename_i k a k' b ex ey
   rw [ex] at hx;rw [ey] at hy
   have hx:=jJ hx
   have hy:=jJ hy
   split at hb
   ·rename_i hkk
    subst hkk
    have hg:(eqGuard op t x y (ρc x) (ρc y)).run P w = .ok () w:=by
     rw [hx,hy];cases op <;> simp [eqGuard]
    split at hb <;> first | (simp at hb;done) | (
     obtain rfl:=Option.some.inj hb
     refine ⟨_,by simp only [execOp,ho,Sem.run_bind,hg,Result.andThen_ok,hx,hy,binOp,Op.intArith,Op.intCmp,Op.intBits,ne_eq,not_true_eq_false,if_false,Sem.run_pure];rfl,?_⟩
     constructor)
   ·simp at hb
  ·rename_i a b ex ey
   rw [ex] at hx;rw [ey] at hy
   obtain ⟨hx,_⟩:=qU hx
   obtain ⟨hy,_⟩:=qU hy
   have hg:(eqGuard op t x y (ρc x) (ρc y)).run P w = .ok () w:=by
    rw [hx,hy];cases op <;> simp [eqGuard]
   have e1:(⟨a.toArray⟩:ByteArray).toList = a:=by rw [ByteArray.toList_eq]
   have e2:(⟨b.toArray⟩:ByteArray).toList = b:=by rw [ByteArray.toList_eq]
   split at hb <;> first | (simp at hb;done) | (
    obtain rfl:=Option.some.inj hb
    refine ⟨_,by simp only [execOp,ho,Sem.run_bind,hg,Result.andThen_ok,hx,hy,binOp,Op.stringOp,Sem.run_pure,e1,e2];rfl,?_⟩
    first | exact .bool _ | skip)
   all_goals (rw [show (a == b) = decide (a = b) from Bool.eq_iff_iff.2 (by rw [beq_iff_eq,decide_eq_true_eq])];constructor)
  ·simp at hb
end pure
set_option linter.unusedVariables false
set_option linter.unusedSimpArgs false
theorem rJ.ev {E E':Env} {h h':aA} {w w':World} (ev:Ev E h w E' h' w') {x:Cell} {v:Value} {S:Nat→Prop} (r:rJ E h w x v S)
  (hS:∀ c,S c→w'.heap[c]? = w.heap[c]?):rJ E' h' w' x v S:=by
 induction r with
 |v x c S h1 hx=>exact .v x c S h1 (hx.ev ev)
 |aNQ sz a cap S hmax ha=>exact .aNQ sz a cap S hmax ha
 |own sz es b o cap S cs t cv T hb hh hlc hmax hm hs hT hD hc hr ih =>
  exact .own sz es b o cap S cs t cv T hb ((hS b hb).trans hh) hlc hmax hm hs hT hD hc fun i j x hx=>ih i j x hx fun c hc=>hS c (hT i j c hc).1
theorem rJ.mono {E:Env} {h:aA} {w:World} {x:Cell} {v:Value} {S S':Nat→Prop} (r:rJ E h w x v S) (hs:∀ c,S c→S' c):rJ E h w x v S':=by
 cases r with
 |v _ _ _ h1 hx=>exact .v _ _ _ h1 hx
 |aNQ sz a cap _ hmax ha=>exact .aNQ sz a cap _ hmax ha
 |own sz es b o cap _ cs t cv T hb hh hlc hmax hm hs' hT hD hc hr =>
  exact .own sz es b o cap _ cs t cv T (hs _ hb) hh hlc hmax hm hs' (fun i j c hc=>⟨hs _ (hT i j c hc).1,(hT i j c hc).2⟩) hD hc hr
theorem rJ.one {E:Env} {h:aA} {w:World} {x:Cell} {v:Value} {S:Nat→Prop} (r:rJ E h w x v S):v.oneCell' = true:=by
 cases r <;> first | assumption | rfl
theorem aC2.ev {E E':Env} {h h':aA} {w w':World} (ev:Ev E h w E' h' w') {b o sz:Nat} {es:List (List Cell)} {S:Nat→Prop} (r:aC2 E h w b o sz es S)
  (hS:∀ c,S c→w'.heap[c]? = w.heap[c]?):aC2 E' h' w' b o sz es S:=by
 obtain ⟨hb,hs,cs,t,cv,T,hh,hm,hT,hD,hc,hr⟩:=r
 exact ⟨hb,hs,cs,t,cv,T,(hS b hb).trans hh,hm,hT,hD,hc,fun i j x hx=>(hr i j x hx).ev ev fun c hc=>hS c (hT i j c hc).1⟩
theorem aPV.ev {E E':Env} {h h':aA} {w w':World} (ev:Ev E h w E' h' w') {b:Nat} {l:List (aC × aC)} {S:Nat→Prop} (r:aPV E h w b l S)
  (hS:∀ c,S c→w'.heap[c]? = w.heap[c]?):aPV E' h' w' b l S:=by
 obtain ⟨hb,es,clock,hh,hk,h1,h2⟩:=r
 exact ⟨hb,es,clock,(hS b hb).trans hh,hk,h1.ev ev,h2.ev ev⟩
theorem x6.ev {E E':Env} {h h':aA} {w w':World} (ev:Ev E h w E' h' w') {n:Nat} {o:bH} (hl:E'.loc n = E.loc n) (hfp:E'.fp n = E.fp n)
  (hS:∀ c,o.live→E.fp n c→w'.heap[c]? = w.heap[c]?) (r:x6 E h w n o):x6 E' h' w' n o:=by
 cases o with
 |row sz es =>
  rcases r with ⟨b,o,hb,hr⟩ | ⟨he,hn⟩
  ·exact .inl ⟨b,o,hl.trans hb,by rw [hfp];exact hr.ev ev (fun c hc=>hS c trivial hc)⟩
  ·exact .inr ⟨he,hl.trans hn⟩
 |map kt et l =>
  obtain ⟨b,o,hb,hr⟩:=r
  exact ⟨b,o,hl.trans hb,by rw [hfp];exact hr.ev ev (fun c hc=>hS c trivial hc)⟩
 |raw t cs =>
  obtain ⟨b,hb,hf,hr⟩:=r
  exact ⟨b,hl.trans hb,by rw [hfp];exact hf,(hS b trivial hf).trans hr⟩
 |abs Q =>
  obtain ⟨b,hb,hf,w0,hq,ha⟩:=r
  exact ⟨b,hl.trans hb,by rw [hfp];exact hf,w0,by rw [hfp];exact hq,fun c hc=>by rw [hfp] at hc;exact (hS c trivial hc).trans (ha c hc)⟩
 |gone=>trivial
def pY (w:World) (o:Obj) (d:Nat):World:={ heap:=w.heap.push o,tape:=w.tape,drawn:=d,os:=w.os,output:=w.output }
theorem jK (w:World) (o:Obj) (d:Nat):(pY w o d).heap.size = w.heap.size + 1:=by simp [pY]
theorem lJ (w:World) (o:Obj) (d b:Nat) (hb:b < w.heap.size):(pY w o d).heap[b]? = w.heap[b]?:=by
 simp only [pY,Array.getElem?_push];rw [if_neg (by omega)]
theorem qV (w:World) (o:Obj) (d:Nat):(pY w o d).heap[w.heap.size]? = some o:=by simp [pY]
def Env.add (E:Env) (n b:Nat):Env where
 loc:=fun m=>if m = n then some (b,0) else E.loc m
 fp:=fun m c=>if m = n then c = b else E.fp m c
 used:=fun m=>m = n∨E.used m
theorem Rel.none {E:Env} {h:aA} {w:World} (R:Rel E h w) {n:Nat} (hn:¬ E.used n):h n = none:=by
 cases e:h n with
 |none=>rfl
 |some o=>exact absurd (R.dom n (by simp [e])) hn
theorem Rel.fresh {E:Env} {h:aA} {w:World} (R:Rel E h w):∃ n,¬ E.used n:=let ⟨N,hN⟩:=R.fin;⟨N,hN N (Nat.le_refl _)⟩
theorem Ev.alloc {E:Env} {h:aA} {w:World} (R:Rel E h w) {n:Nat} (hn:¬ E.used n) (o:Obj) (x:bH) (d:Nat) :
  Ev E h w (E.add n w.heap.size) (a7 h n x) (pY w o d):=by
 have hne:∀ m,E.used m→m≠n:=fun m hm e=>hn (e ▸ hm)
 have hheap:∀ b,b < w.heap.size→(pY w o d).heap[b]? = w.heap[b]?:=lJ w o d
 refine ⟨by rw [jK];omega,fun b hb=>⟨hheap b hb.1,⟨by have:=hb.1;rw [jK];omega,?_⟩⟩,fun b hb=>by simp only [World.shape?,hheap b hb],fun m hm=>?_,rfl,rfl⟩
 ·intro m y hm hy hf
  by_cases e:m = n
  ·subst e;have hf:b = w.heap.size:=by simpa [Env.add] using hf
   have:=hb.1;omega
  ·rw [aF _ _ _ _ e] at hm;exact hb.2 m y hm hy (by simpa [Env.add,e] using hf)
 ·have e:=hne m hm
  exact ⟨by simp [Env.add,e],.inr hm⟩
theorem Rel.aGI {E:Env} {h:aA} {w:World} (R:Rel E h w) {n:Nat} (hn:¬ E.used n) (o:Obj) (x:bH) (d:Nat)
  (hx:x6 (E.add n w.heap.size) (a7 h n x) (pY w o d) n x):Rel (E.add n w.heap.size) (a7 h n x) (pY w o d):=by
 have ev:=Ev.alloc R hn o x d
 have hheap:∀ b,b < w.heap.size→(pY w o d).heap[b]? = w.heap[b]?:=lJ w o d
 refine ⟨?_,?_,?_,?_,?_,R.laid.ev ev⟩
 ·obtain ⟨N,hN⟩:=R.fin
  exact ⟨max N (n + 1), fun m hm => by rintro (e | e); · omega
                                       · exact hN m (by omega) e⟩
 ·intro m hm
  by_cases e:m = n
  ·exact .inl e
  ·rw [aF _ _ _ _ e] at hm;exact .inr (R.dom m hm)
 ·intro m y b hm hy hb
  by_cases e:m = n
  ·subst e;have hb:b = w.heap.size:=by simpa [Env.add] using hb
   rw [jK];omega
  ·rw [aF _ _ _ _ e] at hm
   have:=R.lt m y b hm hy (by simpa [Env.add,e] using hb)
   rw [jK];omega
 ·intro m y m' y' b hm hy hm' hy' hb hb'
  by_cases e:m = n <;> by_cases e':m' = n
  ·rw [e,e']
  ·subst e;rw [aF _ _ _ _ e'] at hm'
   have hb:b = w.heap.size:=by simpa [Env.add] using hb
   have:=R.lt m' y' b hm' hy' (by simpa [Env.add,e'] using hb');omega
  ·subst e';rw [aF _ _ _ _ e] at hm
   have hb':b = w.heap.size:=by simpa [Env.add] using hb'
   have:=R.lt m y b hm hy (by simpa [Env.add,e] using hb);omega
  ·rw [aF _ _ _ _ e] at hm;rw [aF _ _ _ _ e'] at hm'
   exact R.apart m y m' y' b hm hy hm' hy' (by simpa [Env.add,e] using hb) (by simpa [Env.add,e'] using hb')
 ·intro m y hm
  by_cases e:m = n
  ·subst e;rw [aH] at hm;obtain rfl:=Option.some.inj hm;exact hx
  ·rw [aF _ _ _ _ e] at hm
   exact (R.obj m y hm).ev ev (by simp [Env.add,e]) (by funext c;simp [Env.add,e]) fun c hy hc=>hheap c (R.lt m y c hm hy hc)
theorem qW {α:Type} {sz:Nat}:∀ (es:List (List α)),(∀ e∈es,e.length = sz)→∀ i j x,iE es i j = some x→es.flatten[i * sz + j]? = some x
 | [],_,i,j,x,hx=>by simp [iE] at hx
 |e :: es,hs,0,j,x,hx=>by
  simp only [iE,List.getElem?_cons_zero,Option.bind_some] at hx
  have hl:=(List.getElem?_eq_some_iff.1 hx).1
  simp only [List.flatten_cons,Nat.zero_mul,Nat.zero_add]
  rw [List.getElem?_append_left hl];exact hx
 |e :: es,hs,i + 1,j,x,hx=>by
  have he:=hs e (by simp)
  have ih:=qW es (fun e he=>hs e (by simp [he])) i j x (by simpa [iE] using hx)
  simp only [List.flatten_cons]
  rw [List.getElem?_append_right (by rw [he,Nat.add_mul];omega)]
  rw [← ih];congr 1;rw [he,Nat.add_mul];omega
theorem length_flatten {α:Type} {sz:Nat}:∀ (es:List (List α)),(∀ e∈es,e.length = sz)→es.flatten.length = es.length * sz
 | [],_=>by simp
 |e :: es,hs=>by
  have he:=hs e (by simp)
  have ih:=length_flatten es (fun e he=>hs e (by simp [he]))
  simp [he,ih,Nat.add_mul];omega
theorem nF {α β:Type} (f:α→β) (es:List (List α)) (i j:Nat):iE (es.map (List.map f)) i j = (iE es i j).map f:=by
 unfold iE
 rw [List.getElem?_map]
 cases es[i]? <;> simp
theorem Rel.aSH {E:Env} {h:aA} {w:World} (R:Rel E h w) {n:Nat} (hn:¬ E.used n) (sz:Nat) (es:List (List aC)) (hs:∀ e∈es,e.length = sz)
  (cs:Array Value) (t:TypeId) (d:Nat) (cv:Nat→Nat→Value) (hm:es.length * sz≤cs.size)
  (hc:∀ i j x,iE es i j = some x→cs[i * sz + j]? = some (cv i j)∧(cv i j).oneCell' = true∧eC E h w x (cv i j)) :
  Rel (E.add n w.heap.size) (a7 h n (.row sz (es.map (List.map .v)))) (pY w (.cells cs t) d):=by
 refine R.aGI hn _ _ d (.inl ⟨w.heap.size,0,by simp [Env.add],?_⟩)
 have ev:=Ev.alloc R hn (.cells cs t) (.row sz (es.map (List.map .v))) d
 refine ⟨by simp [Env.add],?_,cs,t,cv,fun _ _ _=>False,?_,by simpa using hm,fun _ _ _ hf=>hf.elim,fun _ _ _ _ _ hf=>hf.elim,?_,?_⟩
 ·intro e he
  obtain ⟨e',he',rfl⟩:=List.mem_map.1 he
  simpa using hs e' he'
 ·exact qV _ _ _
 ·intro i j x hx
  rw [nF] at hx
  obtain ⟨y,hy,rfl⟩:=Option.map_eq_some_iff.1 hx
  simpa using (hc i j y hy).1
 ·intro i j x hx
  rw [nF] at hx
  obtain ⟨y,hy,rfl⟩:=Option.map_eq_some_iff.1 hx
  exact .v _ _ _ (hc i j y hy).2.1 ((hc i j y hy).2.2.ev ev)
theorem Ev.write {E:Env} {h:aA} {w w':World} (R:Rel E h w) {n b:Nat} {x:bH} (hn:h n = some x) (hx:x.live) (hb:E.fp n b) (x':bH) (hx':x'.live)
  (hsize:w'.heap.size = w.heap.size) (hoth:∀ c,c≠b→w'.heap[c]? = w.heap[c]?) (hsh:w'.shape? b = w.shape? b) (hos:w'.os = w.os) (hout:w'.output = w.output) :
  Ev E h w E (a7 h n x') w':=by
 refine ⟨by omega,fun c hc=>⟨hoth c fun e=>hc.2 n x hn hx (e ▸ hb),⟨by have:=hc.1;omega,?_⟩⟩,fun c hc=>?_,fun m hm=>⟨rfl,?_⟩,hos,hout⟩
 ·intro m y hm hy
  by_cases e:m = n
  ·subst e;exact hc.2 m x hn hx
  ·rw [aF _ _ _ _ e] at hm;exact hc.2 m y hm hy
 ·by_cases e:c = b
  ·rw [e];exact hsh
  ·simp only [World.shape?,hoth c e]
 ·exact hm
theorem Rel.write {E:Env} {h:aA} {w w':World} (R:Rel E h w) {n b:Nat} {x:bH} (hn:h n = some x) (hx:x.live) (hb:E.fp n b) (x':bH) (hx':x'.live)
  (hsize:w'.heap.size = w.heap.size) (hoth:∀ c,c≠b→w'.heap[c]? = w.heap[c]?) (hsh:w'.shape? b = w.shape? b) (hos:w'.os = w.os) (hout:w'.output = w.output)
  (hO:x6 E (a7 h n x') w' n x'):Rel E (a7 h n x') w':=by
 have ev:=Ev.write R hn hx hb x' hx' hsize hoth hsh hos hout
 refine ⟨R.fin,?_,?_,?_,?_,R.laid.ev ev⟩
 ·intro m hm
  by_cases e:m = n
  ·subst e;exact R.dom m (by simp [hn])
  ·rw [aF _ _ _ _ e] at hm;exact R.dom m hm
 ·intro m y c hm hy hc
  rw [hsize]
  by_cases e:m = n
  ·subst e;exact R.lt m x c hn hx hc
  ·rw [aF _ _ _ _ e] at hm;exact R.lt m y c hm hy hc
 ·intro m y m' y' c hm hy hm' hy' hc hc'
  by_cases e:m = n <;> by_cases e':m' = n
  ·rw [e,e']
  ·subst e;rw [aF _ _ _ _ e'] at hm';exact R.apart m x m' y' c hn hx hm' hy' hc hc'
  ·subst e';rw [aF _ _ _ _ e] at hm;exact R.apart m y m' x c hm hy hn hx hc hc'
  ·rw [aF _ _ _ _ e] at hm;rw [aF _ _ _ _ e'] at hm';exact R.apart m y m' y' c hm hy hm' hy' hc hc'
 ·intro m y hm
  by_cases e:m = n
  ·subst e;rw [aH] at hm;obtain rfl:=Option.some.inj hm;exact hO
  ·rw [aF _ _ _ _ e] at hm
   exact (R.obj m y hm).ev ev rfl rfl fun c hy hc=>hoth c fun eb=>e (R.apart m y n x b hm hy hn hx (eb ▸ hc) hb)
theorem nB.le {E:Env} {g h:aA} {w:World} {b:Nat} (hl:g.le h) (i:nB E h w b):nB E g w b :=
 ⟨i.1, fun n o hn ho => i.2 n o (by rcases hl n with e | e
                                    · rw [e] at hn;simp at hn
                                    · rw [← e];exact hn) ho⟩
theorem eC.pX {E:Env} {g h:aA} {w:World} (hi:∀ b,nB E h w b→nB E g w b) {x:aC} {v:Value} (r:eC E h w x v):eC E g w x v:=by
 induction r with
 |any v=>exact .any v
 |bool b=>exact .bool b
 |int k n=>exact .int k n
 |str s hl=>exact .str s hl
 |iH=>exact .iH
 |bO=>exact .bO
 |pF=>exact .pF
 |kC=>exact .kC
 |mB=>exact .mB
 |w7 sz t a cap ht hmax ha=>exact .w7 sz t a cap ht hmax ha
 |sl sz es t b o cap cv hb hcap hmax ht hs hc h1 hr ih=>exact .sl sz es t b o cap cv (hi b hb) hcap hmax ht hs hc h1 ih
 |ip sz es i off b o cv hb hs hc h1 hr ih=>exact .ip sz es i off b o cv (hi b hb) hs hc h1 ih
 |os n sz i len b o cap t m hd hl hlc hmax hsh hm=>exact .os n sz i len b o cap t m hd hl hlc hmax hsh hm
 |os0 n sz hd hl=>exact .os0 n sz hd hl
 |op n sz i off b o hd hl=>exact .op n sz i off b o hd hl
 |agg cs vs hl hr ih=>exact .agg cs vs hl ih
 |gW cs vs hl hr ih=>exact .gW cs vs hl ih
 |fn f cs ds vs us hl hr hl' hr' ih ih'=>exact .fn f cs ds vs us hl ih hl' ih'
 |iface t x v hr ih=>exact .iface t x v ih
 |mp n b o hd hl=>exact .mp n b o hd hl
theorem cX.pX {E:Env} {g h:aA} {w:World} (hi:∀ b,nB E h w b→nB E g w b):∀ {xs:List aC} {vs:List Value},cX E h w xs vs→cX E g w xs vs
 | [],[],_=>trivial
 | _ :: _,_ :: _,hh=>⟨hh.1.pX hi,cX.pX hi hh.2⟩
 | [],_ :: _,hh=>hh.elim
 | _ :: _,[],hh=>hh.elim
theorem rJ.pX {E:Env} {g h:aA} {w:World} (hi:∀ b,nB E h w b→nB E g w b) {x:Cell} {v:Value} {S:Nat→Prop} (r:rJ E h w x v S):rJ E g w x v S:=by
 induction r with
 |v x c S h1 hx=>exact .v x c S h1 (hx.pX hi)
 |aNQ sz a cap S hmax ha=>exact .aNQ sz a cap S hmax ha
 |own sz es b o cap S cs t cv T hb hh hlc hmax hm hs hT hD hc hr ih=>exact .own sz es b o cap S cs t cv T hb hh hlc hmax hm hs hT hD hc ih
theorem x6.pX {E:Env} {g h:aA} {w:World} (hi:∀ b,nB E h w b→nB E g w b) {n:Nat} {o:bH} (r:x6 E h w n o):x6 E g w n o:=by
 cases o with
 |row sz es =>
  rcases r with ⟨b,o,hb,hbS,hs,cs,t,cv,T,hh,hm,hT,hD,hcc,hrr⟩ | r
  ·exact .inl ⟨b,o,hb,hbS,hs,cs,t,cv,T,hh,hm,hT,hD,hcc,fun i j x hx=>(hrr i j x hx).pX hi⟩
  ·exact .inr r
 |map kt et l =>
  obtain ⟨b,o,hb,hbS,es,clock,hh,hk,h1,h2⟩:=r
  exact ⟨b,o,hb,hbS,es,clock,hh,hk,h1.pX hi,h2.pX hi⟩
 |raw t cs=>exact r
 |abs Q=>exact r
 |gone=>trivial
theorem Rel.forget {E:Env} {g h:aA} {w:World} (R:Rel E h w) (hl:g.le h):Rel E g w:=by
 have hgl:∀ n o,g n = some o→h n = some o:=fun n o hg=>by
  rcases hl n with e | e
  ·rw [e] at hg;simp at hg
  ·rw [← e];exact hg
 refine ⟨R.fin,fun n hn=>R.dom n ?_,fun n o b hn=>R.lt n o b (hgl n o hn),fun n o m o' b hn ho hm=>R.apart n o m o' b (hgl n o hn) ho (hgl m o' hm),
  fun n o hn=>(R.obj n o (hgl n o hn)).pX fun b=>nB.le hl,R.laid.pX fun b=>nB.le hl⟩
 rcases hl n with e | e
 ·exact absurd e hn
 ·rw [← e];exact hn
theorem Ev.forget {E E':Env} {h h' g:aA} {w w':World} (ev:Ev E h w E' h' w') (hl:g.le h'):Ev E h w E' g w' :=
 ⟨ev.size,fun b hb=>⟨(ev.keep b hb).1,(ev.keep b hb).2.le hl⟩,ev.shape,ev.loc,ev.os,ev.out⟩
theorem uW {E:Env} {h:aA} {w:World} (n:Nat) (b:Nat) (i:nB E h w b):nB E (a7 h n .gone) w b :=
 ⟨i.1,fun m o hm ho=>by
  by_cases e:m = n
  ·subst e;rw [aH] at hm;obtain rfl:=Option.some.inj hm;exact ho.elim
  ·rw [aF _ _ _ _ e] at hm;exact i.2 m o hm ho⟩
theorem aA7 {E:Env} {h:aA} {w:World} (R:Rel E h w) {n:Nat} {x:bH} (hn:h n = some x) (hx:x.live) (b:Nat) (hb:E.fp n b):nB E (a7 h n .gone) w b :=
 ⟨R.lt n x b hn hx hb,fun m o hm ho hf=>by
  by_cases e:m = n
  ·subst e;rw [aH] at hm;obtain rfl:=Option.some.inj hm;exact ho.elim
  ·rw [aF _ _ _ _ e] at hm;exact e (R.apart m o n x b hm ho hn hx hf hb)⟩
theorem Rel.gone {E:Env} {h:aA} {w:World} (R:Rel E h w) {n:Nat} {x:bH} (hn:h n = some x):Rel E (a7 h n .gone) w:=by
 refine ⟨R.fin,fun m hm=>?_,?_,?_,?_,R.laid.pX fun b=>uW n b⟩
 ·by_cases e:m = n
  ·subst e;exact R.dom m (by simp [hn])
  ·rw [aF _ _ _ _ e] at hm;exact R.dom m hm
 ·intro m o b hm ho
  by_cases e:m = n
  ·subst e;rw [aH] at hm;obtain rfl:=Option.some.inj hm;exact ho.elim
  ·rw [aF _ _ _ _ e] at hm;exact R.lt m o b hm ho
 ·intro m o m' o' b hm ho hm' ho'
  by_cases e:m = n
  ·subst e;rw [aH] at hm;obtain rfl:=Option.some.inj hm;exact ho.elim
  ·by_cases e':m' = n
   ·subst e';rw [aH] at hm';obtain rfl:=Option.some.inj hm';exact ho'.elim
   ·rw [aF _ _ _ _ e] at hm;rw [aF _ _ _ _ e'] at hm';exact R.apart m o m' o' b hm ho hm' ho'
 ·intro m o hm
  by_cases e:m = n
  ·subst e;rw [aH] at hm;obtain rfl:=Option.some.inj hm;trivial
  ·rw [aF _ _ _ _ e] at hm;exact (R.obj m o hm).pX fun b=>uW n b
theorem Ev.gone {E:Env} {h:aA} {w:World} (n:Nat):Ev E h w E (a7 h n .gone) w :=
 ⟨Nat.le_refl _,fun b hb=>⟨rfl,uW n b hb⟩,fun _ _=>rfl,fun _ hn=>⟨rfl,hn⟩,rfl,rfl⟩
mutual
def Cell.val:Cell→aC
 | .v x=>x
 | .own sz es=>.sl sz (dP es) false
def dP:List (List Cell)→List (List aC)
 | []=>[]
 |e :: es=>z5 e :: dP es
def z5:List Cell→List aC
 | []=>[]
 |c :: cs=>c.val :: z5 cs
end
theorem aGJ:∀ (e:List Cell),z5 e = e.map Cell.val
 | []=>rfl
 |c :: cs=>by simp [z5,aGJ cs]
theorem sR:∀ (es:List (List Cell)),dP es = es.map (List.map Cell.val)
 | []=>rfl
 |e :: es=>by simp [dP,sR es,aGJ]
theorem oN (es:List (List Cell)) (i j:Nat):iE (dP es) i j = (iE es i j).map Cell.val:=by
 rw [sR,nF]
theorem pZ (es:List (List Cell)):(dP es).length = es.length:=by rw [sR,List.length_map]
theorem sS {sz:Nat} {es:List (List Cell)} (hs:∀ e∈es,e.length = sz):∀ e∈dP es,e.length = sz:=by
 intro e he
 rw [sR] at he
 obtain ⟨e',he',rfl⟩:=List.mem_map.1 he
 simpa using hs e' he'
theorem rJ.nV {E:Env} {h g:aA} {w:World} {x:Cell} {v:Value} {S:Nat→Prop} (hi:∀ b,nB E h w b→nB E g w b)
  (r:rJ E h w x v S) (hS:∀ c,S c→nB E g w c):eC E g w x.val v:=by
 induction r with
 |v x c S h1 hx=>exact hx.pX hi
 |aNQ sz a cap S hmax ha =>
  simp only [Cell.val,dP]
  exact .w7 sz false a cap (fun e=>by simp at e) hmax ha
 |own sz es b o cap S cs t cv T hb hh hlc hmax hm hs hT hD hc hr ih =>
  simp only [Cell.val]
  have:=eC.sl (E:=E) (h:=g) (w:=w) sz (dP es) false b o cap cv (hS b hb) (by rw [pZ];exact hlc) hmax (fun e=>by simp at e) (sS hs)
   (fun i j x hx=>by
    rw [oN] at hx
    obtain ⟨y,hy,rfl⟩:=Option.map_eq_some_iff.1 hx
    simp only [World.cell?,hh];exact hc i j y hy)
   (fun i j x hx=>by
    rw [oN] at hx
    obtain ⟨y,hy,rfl⟩:=Option.map_eq_some_iff.1 hx
    exact (hr i j y hy).one)
   (fun i j x hx=>by
    rw [oN] at hx
    obtain ⟨y,hy,rfl⟩:=Option.map_eq_some_iff.1 hx
    exact ih i j y hy fun c hc=>hS c (hT i j c hc).1)
  rw [pZ] at this
  exact this
section types
variable {P:Program} {w:World} {t:TypeId} {r:jU}
theorem fT (h:gL P t = some r):(sizeOf t).run P w = .ok r.sz w:=by
 obtain ⟨i,u,hi,hu,h1,_⟩:=oM h
 simp [sizeOf,typeInfo,hi,h1]
theorem aNS (h:gL P t = some r):(isAgg t).run P w = .ok r.agg w:=by
 obtain ⟨i,u,hi,hu,h1,h2,h3,h4,h5⟩:=oM h
 rw [h4]
 cases u <;> simp [isAgg,underlying,hu]
theorem bP (h:gL P t = some r):∃ u,P.underlying t = some u∧tyD P u = r.d∧(underlying t).run P w = .ok u w:=by
 obtain ⟨i,u,hi,hu,h1,h2,h3,h4,h5⟩:=oM h
 exact ⟨u,hu,h3.symm,by simp [underlying,hu]⟩
theorem mS (h:gL P t = some r) (hz:r.zero≠[]):∃ z,(zeroValue t).run P w = .ok z w∧z.cells.toList.map aC.ofValue = r.zero:=by
 obtain ⟨i,u,hi,hu,h1,h2,h3,h4,h5⟩:=oM h
 cases e:i.zero with
 |none=>rw [h5,e] at hz;exact absurd rfl hz
 |some z=>exact ⟨z,by simp [zeroValue,typeInfo,hi,e],by rw [h5,e]⟩
theorem fZ {u:TypeDesc} {e:TypeId} (h:tyD P u = .slice e):u = .slice e:=by
 cases u <;> simp [tyD] at h ⊢ <;> first | exact h | (split at h <;> simp at h)
theorem aYF {u:TypeDesc} {n:Nat} {e:TypeId} (h:tyD P u = .arr n e):u = .array n e:=by
 cases u <;> simp [tyD] at h ⊢ <;> first | exact h | (split at h <;> simp at h)
theorem x8 {u:TypeDesc} (h:tyD P u = .str):u = .string:=by
 cases u <;> simp [tyD] at h ⊢ <;> (split at h <;> simp at h)
theorem aT7 {u:TypeDesc} (h:tyD P u = .bool):u = .bool:=by
 cases u <;> simp [tyD] at h ⊢ <;> (split at h <;> simp at h)
theorem aPW {u:TypeDesc} {k:IntKind} (h:tyD P u = .int k):u = .int k:=by
 cases u <;> simp [tyD] at h ⊢ <;> first | exact h | (split at h <;> simp at h)
theorem aT8 {u:TypeDesc} {fs:List (Nat × TypeId × Nat)} (h:tyD P u = .st fs):∃ gs:Array Field,u = .struct gs∧gs.toList.all (fun f=>(P.info? f.type).isSome) = true∧gs.toList.map (fun f=>(f.offset,f.type,P.cellsOf f.type)) = fs:=by
 cases u with
 |struct gs =>
  simp only [tyD] at h
  split at h
  ·rename_i hg;exact ⟨gs,rfl,hg,by simpa using h⟩
  ·simp at h
 | _=>simp [tyD] at h
theorem uX {f:Field} (h:(P.info? f.type).isSome = true):(sizeOf f.type).run P w = .ok (P.cellsOf f.type) w:=by
 cases e:P.info? f.type with
 |none=>simp [e] at h
 |some i=>simp [sizeOf,typeInfo,e,Program.cellsOf]
end types
def aC.flat:aC→Bool
 | .any | .agg _ | .gW _=>false
 | _=>true
def aC.cells:aC→List aC
 | .agg cs=>cs
 |x=>[x]
theorem eC.nG {E:Env} {h:aA} {w:World} {x:aC} {v:Value} (r:eC E h w x v) (hf:x.flat = true):v.oneCell' = true∧v.cells = #[v]:=by
 cases r <;> simp [aC.flat] at hf <;> exact ⟨rfl,rfl⟩
theorem eC.z7 {E:Env} {h:aA} {w:World} {x:aC} {v:Value} (r:eC E h w x v) (hf:x.cells.all aC.flat = true) :
  cX E h w x.cells v.cells.toList∧∀ c∈v.cells.toList,c.oneCell' = true:=by
 cases hx:x with
 |agg cs =>
  subst hx
  cases r with
  |agg _ vs hl hr =>
   have hL:cX E h w cs vs:=cX.mk hl hr
   refine ⟨by simpa [aC.cells,Value.cells] using hL,?_⟩
   intro c hc
   have hc:c∈vs:=by simpa [Value.cells] using hc
   obtain ⟨i,hi⟩:=List.getElem?_of_mem hc
   have hlt:i < cs.length:=by rw [hl];exact (List.getElem?_eq_some_iff.1 hi).1
   have hx:cs[i]? = some cs[i]:=List.getElem?_eq_getElem hlt
   have:=hr i _ c hx hi
   exact (this.nG (by simp only [aC.cells] at hf;exact List.all_eq_true.1 hf _ (List.getElem_mem hlt))).1
 | _ =>
  subst hx
  first
   |(simp [aC.cells,aC.flat] at hf;done)
   |(obtain ⟨h1,h2⟩:=r.nG rfl
     rw [h2]
     exact ⟨⟨r,trivial⟩,fun c hc=>by simp at hc;rw [hc];exact h1⟩)
def uY:List Cell→Option (List aC)
 | []=>some []
 | .v x :: cs=>(uY cs).map (x :: ·)
 | .own _ _ :: _=>none
theorem w8:∀ {l:List Cell} {xs:List aC},uY l = some xs→l = xs.map .v
 | [],xs,h=>by simp [uY] at h;subst h;rfl
 | .v x :: cs,xs,h=>by
  simp only [uY,Option.map_eq_some_iff] at h
  obtain ⟨ys,hy,rfl⟩:=h
  simp [w8 hy]
 | .own _ _ :: _,xs,h=>by simp [uY] at h
def ld (r:jU) (e:List aC) (off:Nat):Option aC :=
 if r.agg then (if off + r.sz≤e.length then some (.agg ((e.drop off).take r.sz)) else none) else e[off]?
def aA8 (r:jU) (e:List Cell) (off:Nat):Option aC :=
 if r.agg then (if off + r.sz≤e.length then (uY ((e.drop off).take r.sz)).map .agg else none)
 else match e[off]? with | some (.v x)=>some x | _=>none
theorem x9 {P:Program} {w:World} {t:TypeId} {r:jU} (ht:gL P t = some r) {b o:Nat} (f:Nat→Value)
  (hc:∀ j,j < (if r.agg then r.sz else 1)→w.cell? ⟨b,o + j,none⟩ = some (f j)) :
  (loadVar t ⟨b,o,none⟩).run P w = .ok (if r.agg then .agg ((List.range r.sz).map f).toArray else f 0) w:=by
 simp only [loadVar,Sem.run_bind,aNS ht,Result.andThen_ok]
 cases ha:r.agg with
 |true =>
  simp only [ha,if_true] at hc ⊢
  simp only [Sem.run_bind,fT ht,Result.andThen_ok]
  rw [run_loadCells w ⟨b,o,none⟩ r.sz f (fun j hj=>by rw [← hc j hj];simp only [Addr.add];split <;> simp_all)]
  simp
 |false =>
  simp only [ha,Bool.false_eq_true,if_false] at hc ⊢
  have:=hc 0 (by omega)
  simp only [Nat.add_zero] at this
  simp [this]
section
variable {P:Program} {o:Oper} {ρ:Operand→aC} {h:aA} {K:aC→aA→Prop}
theorem aA9 {E:Env} {w:World} {v:Value} (t:TypeId) (r:jU) (sz i off:Nat) (es:List (List aC)) (e:List aC) (x:aC) (ht:gL P t = some r)
  (hr:eC E h w (.ip sz es i off) v) (he:es[i]? = some e) (hx:ld r e off = some x):∃ b o c,v = .pointer (some ⟨b,o,none⟩)∧(loadVar t ⟨b,o,none⟩).run P w = .ok c w∧eC E h w x c:=by
  cases hr with
  |ip _ _ _ _ b o' cv hi hs hc h1 hrr =>
   have hsz:=hs e (List.mem_of_getElem? he)
   have hat:∀ j y,e[j]? = some y→iE es i j = some y:=fun j y hy=>by simp [iE,he,hy]
   have hcell:∀ j,j < (if r.agg then r.sz else 1)→off + j < e.length:=by
    intro j hj
    unfold ld at hx
    cases hg:r.agg with
    |true =>
     simp only [hg,if_true] at hx hj
     split at hx
     ·omega
     ·simp at hx
    |false =>
     simp only [hg,Bool.false_eq_true,if_false] at hx hj
     have:=(List.getElem?_eq_some_iff.1 hx).1
     omega
   have hload:=x9 (P:=P) (w:=w) ht (b:=b) (o:=o' + i * sz + off) (fun j=>cv i (off + j)) (fun j hj=>by
    have:=hc i (off + j) _ (hat (off + j) _ (List.getElem?_eq_getElem (hcell j hj)))
    rw [← this];congr 2;omega)
   refine ⟨_,_,_,rfl,hload,?_⟩
   unfold ld at hx
   cases hg:r.agg with
   |true =>
    simp only [hg,if_true] at hx hcell ⊢
    split at hx
    ·rename_i hle
     obtain rfl:=Option.some.inj hx
     refine .agg _ _ (by simp;omega) ?_
     intro j y v hy hv
     have hj:j < r.sz:=by have:=(List.getElem?_eq_some_iff.1 hv).1;simpa using this
     simp only [List.getElem?_map,List.getElem?_range hj,Option.map_some,Option.some.injEq] at hv
     subst hv
     rw [List.getElem?_take_of_lt hj,List.getElem?_drop] at hy
     exact hrr i (off + j) y (hat _ _ hy)
    ·simp at hx
   |false =>
    simp only [hg,Bool.false_eq_true,if_false,Nat.add_zero] at hx hcell ⊢
    exact hrr i off x (hat _ _ hx)
theorem aKB (t:TypeId) (a:Operand) (r:jU) (sz i off:Nat) (es:List (List aC)) (e:List aC) (x:aC) (ho:o.op = .load t a) (ht:gL P t = some r)
  (ha:ρ a = .ip sz es i off) (he:es[i]? = some e) (hx:ld r e off = some x) (hk:K x h):mA P o ρ h K :=
 bS hk fun E w ρc _ hρ=>by
  obtain ⟨b,k,c,hv,hrun,hc⟩:=aA9 (P:=P) t r sz i off es e x ht (ha ▸ hρ a) he hx
  exact ⟨c,by simp only [execOp,ho,Instr.loadAt,hv,Instr.sureAddr,Sem.run_bind,Sem.run_pure,Result.andThen_ok,hrun],hc⟩
theorem uZ {E:Env} {w:World} (R:Rel E h w) {n sz:Nat} {es:List (List Cell)} (hn:h n = some (.row sz es)) (hne:es≠[]∨∃ x,E.loc n = some x) :
  ∃ b o,E.loc n = some (b,o)∧aC2 E h w b o sz es (E.fp n):=by
 rcases R.obj n _ hn with h1 | h1
 ·exact h1
 ·rcases hne with h2 | ⟨x,h2⟩
  ·exact absurd h1.1 h2
  ·rw [h1.2] at h2;simp at h2
theorem aGK {α:Type} {es:List α} {i:Nat} {e:α} (h:es[i]? = some e):es≠[]:=by rintro rfl;simp at h
theorem aBA {E:Env} {w:World} {v:Value} (R:Rel E h w) (t:TypeId) (r:jU) (n sz i off:Nat) (es:List (List Cell)) (e:List Cell) (x:aC) (ht:gL P t = some r)
  (hr:eC E h w (.op n sz i off) v) (hn:h n = some (.row sz es)) (he:es[i]? = some e) (hx:aA8 r e off = some x):∃ b o c,v = .pointer (some ⟨b,o,none⟩)∧(loadVar t ⟨b,o,none⟩).run P w = .ok c w∧eC E h w x c:=by
  obtain ⟨b,o',hl,hb,hs,cs,ct,cv,T,hh,hm,hT,hD,hc,hrr⟩:=uZ R hn (.inl (aGK he))
  cases hr with
  |op _ _ _ _ b' o'' hd hl' =>
   rw [hl] at hl'
   obtain ⟨rfl,rfl⟩:=Prod.mk.inj (Option.some.inj hl')
   have hsz:=hs e (List.mem_of_getElem? he)
   have hat:∀ j y,e[j]? = some y→iE es i j = some y:=fun j y hy=>by simp [iE,he,hy]
   have hcell:∀ j,j < (if r.agg then r.sz else 1)→off + j < e.length:=by
    intro j hj
    unfold aA8 at hx
    cases hg:r.agg with
    |true =>
     simp only [hg,if_true] at hx hj
     split at hx
     ·omega
     ·simp at hx
    |false =>
     simp only [hg,Bool.false_eq_true,if_false] at hx hj
     split at hx
     ·rename_i he'
      have:=(List.getElem?_eq_some_iff.1 he').1
      omega
     ·simp at hx
   have hload:=x9 (P:=P) (w:=w) ht (b:=b) (o:=o' + i * sz + off) (fun j=>cv i (off + j)) (fun j hj=>by
    have:=hc i (off + j) _ (hat (off + j) _ (List.getElem?_eq_getElem (hcell j hj)))
    simp only [World.cell?,hh];rw [← this];simp;congr 1;omega)
   refine ⟨_,_,_,rfl,hload,?_⟩
   have hval:∀ j y,e[j]? = some (.v y)→eC E h w y (cv i j):=fun j y hy=>by
    have:=hrr i j _ (hat _ _ hy)
    generalize cv i j = c at this
    generalize T i j = S at this
    cases this with
    |v _ _ _ _ hx=>exact hx
   unfold aA8 at hx
   cases hg:r.agg with
   |true =>
    simp only [hg,if_true] at hx hcell ⊢
    split at hx
    ·rename_i hle
     obtain ⟨xs,hxs,rfl⟩:=Option.map_eq_some_iff.1 hx
     have hxs:=w8 hxs
     have hlen:xs.length = r.sz:=by have:=congrArg List.length hxs;simp at this;omega
     refine .agg _ _ (by simp [hlen]) ?_
     intro j y v hy hv
     have hj:j < r.sz:=by have:=(List.getElem?_eq_some_iff.1 hv).1;simpa using this
     simp only [List.getElem?_map,List.getElem?_range hj,Option.map_some,Option.some.injEq] at hv
     subst hv
     refine hval (off + j) y ?_
     have:((e.drop off).take r.sz)[j]? = some (.v y):=by rw [hxs,List.getElem?_map,hy];rfl
     rwa [List.getElem?_take_of_lt hj,List.getElem?_drop] at this
    ·simp at hx
   |false =>
    simp only [hg,Bool.false_eq_true,if_false,Nat.add_zero] at hx hcell ⊢
    split at hx
    ·rename_i y he'
     obtain rfl:=Option.some.inj hx
     exact hval off _ he'
    ·simp at hx
theorem aKC (t:TypeId) (a:Operand) (r:jU) (n sz i off:Nat) (es:List (List Cell)) (e:List Cell) (x:aC) (ho:o.op = .load t a) (ht:gL P t = some r)
  (ha:ρ a = .op n sz i off) (hn:h n = some (.row sz es)) (he:es[i]? = some e) (hx:aA8 r e off = some x) (hk:K x h):mA P o ρ h K :=
 bS hk fun E w ρc R hρ=>by
  obtain ⟨b,k,c,hv,hrun,hc⟩:=aBA (P:=P) R t r n sz i off es e x ht (ha ▸ hρ a) hn he hx
  exact ⟨c,by simp only [execOp,ho,Instr.loadAt,hv,Instr.sureAddr,Sem.run_bind,Sem.run_pure,Result.andThen_ok,hrun],hc⟩
end
set_option linter.unusedVariables false
set_option linter.unusedSimpArgs false
def mJ (e:List Cell) (off:Nat):List aC→List Cell
 | []=>e
 |v :: vs=>mJ (e.set off (.v v)) (off + 1) vs
theorem k8 {w:World} {b:Nat} {cs:Array Value} {t:TypeId} {f:Nat × Nat} (h:w.heap[b]? = some (.cells cs t f)):w.shape? b = some (t,cs.size):=by
 simp [World.shape?,h]
theorem aBB {es:List (List Cell)} {i j i' j':Nat} {e:List Cell} {c x:Cell} (he:es[i]? = some e) (hx:iE (es.set i (e.set j c)) i' j' = some x) :
  (i' = i∧j' = j∧x = c)∨(¬ (i' = i∧j' = j)∧iE es i' j' = some x):=by
 have hi:=(List.getElem?_eq_some_iff.1 he).1
 unfold iE at *
 by_cases e1:i' = i
 ·subst e1
  rw [List.getElem?_set_self hi] at hx
  simp only [Option.bind_some] at hx
  by_cases e2:j' = j
  ·subst e2
   left
   have hj:j' < e.length:=by have:=(List.getElem?_eq_some_iff.1 hx).1;simpa using this
   rw [List.getElem?_set_self hj] at hx
   exact ⟨rfl,rfl,(Option.some.inj hx).symm⟩
  ·right
   rw [List.getElem?_set_ne (fun e3=>e2 e3.symm)] at hx
   exact ⟨fun h=>e2 h.2,by rw [he];exact hx⟩
 ·right
  rw [List.getElem?_set_ne (fun e2=>e1 e2.symm)] at hx
  exact ⟨fun h=>e1 h.1,hx⟩
theorem w9 {i n sz j:Nat} (hi:i < n) (hj:j < sz):i * sz + j < n * sz:=by
 have:=Nat.mul_le_mul_right sz (Nat.succ_le_of_lt hi)
 rw [Nat.succ_mul] at this
 omega
theorem aYG {sz i j i' j':Nat} (hj:j < sz) (hj':j' < sz) (h:i * sz + j = i' * sz + j'):i = i'∧j = j':=by
 have h1:(i * sz + j) / sz = i:=by rw [Nat.mul_comm,Nat.mul_add_div (by omega),Nat.div_eq_of_lt hj];omega
 have h2:(i' * sz + j') / sz = i':=by rw [Nat.mul_comm,Nat.mul_add_div (by omega),Nat.div_eq_of_lt hj'];omega
 have:i = i':=by rw [← h1,← h2,h]
 subst this
 exact ⟨rfl,by omega⟩
theorem aSI {P:Program} {E:Env} {h:aA} {w:World} (R:Rel E h w) {n sz:Nat} {es:List (List Cell)} (hn:h n = some (.row sz es)) {b o:Nat} (hl:E.loc n = some (b,o))
  {i j:Nat} {e:List Cell} (he:es[i]? = some e) (hj:j < e.length) {x:aC} {c:Value} (hone:c.oneCell' = true) (hx:eC E h w x c) :
  (store ⟨b,o + i * sz + j,none⟩ c).run P w = .ok () (w.setCell ⟨b,o + i * sz + j,none⟩ c) ∧
  Ev E h w E (a7 h n (.row sz (es.set i (e.set j (.v x))))) (w.setCell ⟨b,o + i * sz + j,none⟩ c) ∧
  Rel E (a7 h n (.row sz (es.set i (e.set j (.v x))))) (w.setCell ⟨b,o + i * sz + j,none⟩ c):=by
 obtain ⟨b',o',hl',hb,hs,cs,ct,cv,T,hh,hm,hT,hD,hc,hrr⟩:=uZ R hn (.inl (aGK he))
 rw [hl] at hl'
 obtain ⟨rfl,rfl⟩:=Prod.mk.inj (Option.some.inj hl')
 have hsz:=hs e (List.mem_of_getElem? he)
 have hi:=(List.getElem?_eq_some_iff.1 he).1
 have hat:iE es i j = some e[j]:=by simp [iE,he,List.getElem?_eq_getElem hj]
 have hcell:=hc i j _ hat
 have hlt:o + i * sz + j < cs.size:=(Array.getElem?_eq_some_iff.1 hcell).1
 have hw?:w.cell? ⟨b,o + i * sz + j,none⟩ = some (cv i j):=by simp only [World.cell?,hh];simpa using hcell
 have hfz:w.frozen? ⟨b,o + i * sz + j,none⟩ = false:=by simp [World.frozen?,hh]
 have hrun:(store ⟨b,o + i * sz + j,none⟩ c).run P w = .ok () (w.setCell ⟨b,o + i * sz + j,none⟩ c):=by
  rw [run_store P w _ _ _ hone,hw?];simp [hfz]
 have hheap:(w.setCell ⟨b,o + i * sz + j,none⟩ c).heap[b]? = some (.cells (cs.setIfInBounds (o + i * sz + j) c) ct (0,0)):=by
  simp [World.setCell,Array.getElem?_modify,hh]
 have hoth:∀ k,k≠b→(w.setCell ⟨b,o + i * sz + j,none⟩ c).heap[k]? = w.heap[k]?:=fun k hk=>by
  simp [World.setCell,Array.getElem?_modify,Ne.symm hk]
 have hsh:(w.setCell ⟨b,o + i * sz + j,none⟩ c).shape? b = w.shape? b:=by rw [k8 hheap,k8 hh];simp
 have ev:=Ev.write R hn trivial hb (.row sz (es.set i (e.set j (.v x)))) trivial (World.size_setCell _ _ _) hoth hsh rfl rfl
 refine ⟨hrun,ev,R.write hn trivial hb _ trivial (World.size_setCell _ _ _) hoth hsh rfl rfl (.inl ⟨b,o,hl,hb,?_,cs.setIfInBounds (o + i * sz + j) c,ct,
  fun i' j'=>if i' = i∧j' = j then c else cv i' j',T,hheap,by simpa using hm,hT,hD,?_,?_⟩)⟩
 ·intro e' he'
  rcases List.mem_or_eq_of_mem_set he' with h1 | h1
  ·exact hs e' h1
  ·rw [h1];simpa using hsz
 ·intro i' j' y hy
  rcases aBB he hy with ⟨rfl,rfl,rfl⟩ | ⟨hne,hy'⟩
  ·simp [Array.getElem?_setIfInBounds,hlt]
  ·have hj':=aB5 hs hy'
   have:o + i * sz + j≠o + i' * sz + j':=fun e=>hne (by
    have:=aYG (sz:=sz) (i:=i) (j:=j) (i':=i') (j':=j') (by omega) hj' (by omega)
    exact ⟨this.1.symm,this.2.symm⟩)
   simp only [if_neg hne]
   rw [Array.getElem?_setIfInBounds_ne this]
   exact hc i' j' y hy'
 ·intro i' j' y hy
  rcases aBB he hy with ⟨rfl,rfl,rfl⟩ | ⟨hne,hy'⟩
  ·simp only [and_self,if_true]
   exact .v _ _ _ hone (hx.ev ev)
  ·simp only [if_neg hne]
   exact (hrr i' j' y hy').ev ev fun k hk=>hoth k (hT i' j' k hk).2
theorem aHV (es:List (List Cell)) (i:Nat) (a b:List Cell):(es.set i a).set i b = es.set i b:=by simp
theorem aC5 {P:Program} {n sz:Nat} {b o i:Nat}:∀ (xs:List aC) (vs:List Value) {E:Env} {h:aA} {w:World} (R:Rel E h w) {es:List (List Cell)} (hn:h n = some (.row sz es)) (hl:E.loc n = some (b,o))
  {j k:Nat} {e:List Cell} (he:es[i]? = some e) (hj:j + k + xs.length≤e.length) (hone:∀ c∈vs,c.oneCell' = true) (hx:cX E h w xs vs),
  ∃ w',(storeCells ⟨b,o + i * sz + j,none⟩ vs k).run P w = .ok () w'∧Ev E h w E (a7 h n (.row sz (es.set i (mJ e (j + k) xs)))) w'∧Rel E (a7 h n (.row sz (es.set i (mJ e (j + k) xs)))) w'
 | [],[],E,h,w,R,es,hn,hl,j,k,e,he,hj,hone,hx=>by
  refine ⟨w,by simp [storeCells],?_⟩
  have hi:=(List.getElem?_eq_some_iff.1 he).1
  have:es.set i (mJ e (j + k) []) = es:=by
   have:es[i] = e:=(List.getElem?_eq_some_iff.1 he).2
   simp [mJ,← this]
  rw [this]
  have:a7 h n (.row sz es) = h:=by funext m;simp only [a7];split <;> simp_all
  rw [this]
  exact ⟨.refl _ _ _,R⟩
 |x :: xs,c :: vs,E,h,w,R,es,hn,hl,j,k,e,he,hj,hone,hx=>by
  have hlen:j + k < e.length:=by simp at hj;omega
  obtain ⟨h1,h2,h3⟩:=aSI (P:=P) R hn hl he hlen (hone c (by simp)) hx.1
  have hi:=(List.getElem?_eq_some_iff.1 he).1
  have he':(es.set i (e.set (j + k) (.v x)))[i]? = some (e.set (j + k) (.v x)):=by rw [List.getElem?_set_self hi]
  obtain ⟨w',hw',ev',R'⟩:=aC5 xs vs h3 (aH _ _ _) hl (j:=j) (k:=k + 1) he' (by simp at hj ⊢;omega) (fun c hc=>hone c (by simp [hc])) (hx.2.ev h2)
  rw [aO,aHV] at ev' R'
  have hst:mJ e (j + k) (x :: xs) = mJ (e.set (j + k) (.v x)) (j + (k + 1)) xs:=by simp only [mJ];rfl
  rw [hst]
  refine ⟨w',?_,h2.trans ev',R'⟩
  simp only [storeCells,Sem.run_bind]
  have ha:(⟨b,o + i * sz + j,none⟩:Addr).add k = ⟨b,o + i * sz + (j + k),none⟩:=by
   simp only [Addr.add];split
   ·subst_vars;rfl
   ·simp
  rw [ha,h1]
  exact hw'
 | [],_ :: _,_,_,_,_,_,_,_,_,_,_,_,_,_,hx=>hx.elim
 | _ :: _,[],_,_,_,_,_,_,_,_,_,_,_,_,_,hx=>hx.elim
section
variable {P:Program} {o:Oper} {ρ:Operand→aC} {h:aA} {K:aC→aA→Prop}
theorem aSJ (t:TypeId) (a v:Operand) (r:jU) (n sz i off:Nat) (es:List (List Cell)) (e:List Cell) (ho:o.op = .store t a v) (ht:gL P t = some r)
  (ha:ρ a = .op n sz i off) (hn:h n = some (.row sz es)) (he:es[i]? = some e) (hf:(ρ v).cells.all aC.flat = true) (hsz:(ρ v).cells.length = r.sz) (hoff:off + r.sz≤e.length)
  (hk:K .any (a7 h n (.row sz (es.set i (mJ e off (ρ v).cells))))):mA P o ρ h K:=by
 intro E w ρc R hρ
 have hr:=hρ a
 rw [ha] at hr
 cases hv:ρc a <;> rw [hv] at hr <;> try (cases hr;done)
 cases hr with
 |op _ _ _ _ b o' hd hl =>
  obtain ⟨hL,h1⟩:=(hρ v).z7 hf
  obtain ⟨w',hrun,ev,R'⟩:=aC5 (P:=P) _ _ R hn hl (j:=off) (k:=0) he (by omega) h1 hL
  simp only [Nat.add_zero] at ev R'
  have hsize:(ρc v).cells.size = r.sz:=by have:=hL.length;simp at this;omega
  refine .aYD (w':=w') ?_ ⟨.any,_,E,hk,ev,R',.any _⟩
  simp only [execOp,ho,Instr.storeAt,hv,Instr.sureAddr,Sem.run_bind,Sem.run_pure,Result.andThen_ok,storeVar,fT ht,hsize,ne_eq,not_true_eq_false,if_false,hrun,Sem.run_ite]
end
theorem qX {es:List (List aC)} {sz i j:Nat} {x:aC} (hs:∀ e∈es,e.length = sz) (hx:iE es i j = some x):i * sz + j < es.length * sz :=
 w9 (aT3 hx) (aB5 hs hx)
theorem Rel.aC6 {E:Env} {h:aA} {w:World} (R:Rel E h w) {n:Nat} (hn:¬ E.used n) (sz:Nat) (es:List (List aC)) (hs:∀ e∈es,e.length = sz)
  (cs:Array Value) (t:TypeId) (d:Nat) (vs rest:List Value) (hcs:cs.toList = vs ++ rest) (hL:cX E h w es.flatten vs) (h1:∀ c∈vs,c.oneCell' = true) :
  Rel (E.add n w.heap.size) (a7 h n (.row sz (es.map (List.map .v)))) (pY w (.cells cs t) d):=by
 have hlen:vs.length = es.length * sz:=by rw [← hL.length,length_flatten es hs]
 have hget:∀ k,k < vs.length→cs[k]? = vs[k]?:=fun k hk=>by
  rw [← Array.getElem?_toList,hcs,List.getElem?_append_left hk]
 refine R.aSH hn sz es hs cs t d (fun i j=>(vs[i * sz + j]?).getD undef) ?_ ?_
 ·rw [← hlen,← Array.length_toList,hcs];simp
 ·intro i j x hx
  have hlt:=qX hs hx
  have hk:i * sz + j < vs.length:=by omega
  have hv:vs[i * sz + j]? = some vs[i * sz + j]:=List.getElem?_eq_getElem hk
  refine ⟨by rw [hget _ hk,hv];simp,by rw [hv];exact h1 _ (List.getElem_mem hk),?_⟩
  rw [hv]
  exact hL.get _ _ _ (qW es hs i j x hx) hv
section
variable {P:Program} {o:Oper} {ρ:Operand→aC} {h:aA} {K:aC→aA→Prop}
theorem mT (w:World) (o:Obj):{ w with heap:=w.heap.push o } = pY w o w.drawn:=rfl
theorem aBC (sz:Nat) (e:List aC) (he:e.length = sz) (hk:∀ n,h n = none→K (.op n sz 0 0) (a7 h n (.row sz [e.map .v])))
  (hx:∀ E w (ρc:Operand→Value),Rel E h w→(∀ x,eC E h w (ρ x) (ρc x))→∃ (cs:Array Value) (t:TypeId) (d:Nat),
   (execOp ρc o).run P w = .ok (.value (.pointer (some ⟨w.heap.size,0,none⟩))) (pY w (.cells cs t) d)∧cX E h w e cs.toList∧∀ c∈cs.toList,c.oneCell' = true):mA P o ρ h K:=by
 intro E w ρc R hρ
 obtain ⟨cs,t,d,hrun,hL,h1⟩:=hx E w ρc R hρ
 obtain ⟨n,hn⟩:=R.fresh
 refine .hU hrun ⟨.op n sz 0 0,_,E.add n w.heap.size,hk n (R.none hn),Ev.alloc R hn _ _ _,?_,?_⟩
 ·exact R.aC6 hn sz [e] (by simpa using he) cs t d cs.toList [] (by simp) (by simpa using hL) h1
 ·have:=eC.op (E:=E.add n w.heap.size) (h:=a7 h n (.row sz [e.map .v])) (w:=pY w (.cells cs t) d) n sz 0 0 w.heap.size 0 (.inl rfl) (by simp [Env.add])
  simpa using this
theorem rL (sz len:Nat) (es:List (List aC)) (hs:∀ e∈es,e.length = sz) (hk:∀ n,h n = none→K (.os n sz 0 len) (a7 h n (.row sz (es.map (List.map .v)))))
  (hx:∀ E w (ρc:Operand→Value),Rel E h w→(∀ x,eC E h w (ρ x) (ρc x))→∃ (cs:Array Value) (t:TypeId) (d cap:Nat) (vs rest:List Value),
   (execOp ρc o).run P w = .ok (.value (.slice (some ⟨w.heap.size,0,none⟩) len cap)) (pY w (.cells cs t) d)∧len≤cap∧cap≤maxLen∧cap * sz≤cs.size ∧
   cs.toList = vs ++ rest∧cX E h w es.flatten vs∧∀ c∈vs,c.oneCell' = true):mA P o ρ h K:=by
 intro E w ρc R hρ
 obtain ⟨cs,t,d,cap,vs,rest,hrun,hlc,hmax,hm,hcs,hL,h1⟩:=hx E w ρc R hρ
 obtain ⟨n,hn⟩:=R.fresh
 refine .hU hrun ⟨.os n sz 0 len,_,E.add n w.heap.size,hk n (R.none hn),Ev.alloc R hn _ _ _,?_,?_⟩
 ·exact R.aC6 hn sz es hs cs t d vs rest hcs hL h1
 ·have:=eC.os (E:=E.add n w.heap.size) (h:=a7 h n (.row sz (es.map (List.map .v)))) (w:=pY w (.cells cs t) d) n sz 0 len w.heap.size 0 cap t cs.size (.inl rfl) (by simp [Env.add]) hlc hmax
   (by simp only [World.shape?,qV]) (by simpa using hm)
  simpa using this
theorem aYH (t:TypeId) (x:Operand) (ho:o.op = .box t x) (hf:(ρ x).cells.all aC.flat = true)
  (hk:∀ n,h n = none→K (.op n (ρ x).cells.length 0 0) (a7 h n (.row (ρ x).cells.length [(ρ x).cells.map .v]))):mA P o ρ h K :=
 aBC _ (ρ x).cells rfl hk fun E w ρc R hρ=>by
  obtain ⟨hL,h1⟩:=(hρ x).z7 hf
  refine ⟨(ρc x).cells,t,w.drawn,?_,hL,h1⟩
  simp only [execOp,ho,Instr.box,newVar,newRow,Sem.run_bind,run_newObj,Result.andThen_ok,Sem.run_pure,mT]
theorem aKD (t:TypeId) (x:Operand) (ho:o.op = .box t x) (hc:(ρ x).cells = [.iH,.bO])
  (hk:∀ n,h n = none→K (.op n 2 0 0) (a7 h n (.raw t #[.pointer none,.slice none 0 0]))):mA P o ρ h K:=by
 intro E w ρc R hρ
 obtain ⟨hL,h1⟩:=(hρ x).z7 (by rw [hc];rfl)
 rw [hc] at hL
 have hcs:(ρc x).cells = #[.pointer none,.slice none 0 0]:=by
  have hl:=hL.length
  match hv:(ρc x).cells.toList,hL with
  | [a,b],hL =>
   have ha:a = .pointer none:=by have:=hL.1;cases a <;> (try cases this) <;> rfl
   have hb:b = .slice none 0 0:=by have:=hL.2.1;cases b <;> (try cases this) <;> rfl
   apply Array.toList_inj.1
   rw [hv,ha,hb]
 obtain ⟨n,hn⟩:=R.fresh
 refine .hU (v:=.pointer (some ⟨w.heap.size,0,none⟩)) (w':=pY w (.cells #[.pointer none,.slice none 0 0] t) w.drawn) ?_ ⟨.op n 2 0 0,_,E.add n w.heap.size,hk n (R.none hn),Ev.alloc R hn _ _ _,R.aGI hn _ _ _ ⟨w.heap.size,by simp [Env.add],by simp [Env.add],qV _ _ _⟩,?_⟩
 ·simp only [execOp,ho,Instr.box,newVar,newRow,Sem.run_bind,run_newObj,Result.andThen_ok,Sem.run_pure,mT,hcs]
 ·have:=eC.op (E:=E.add n w.heap.size) (h:=a7 h n (.raw t #[.pointer none,.slice none 0 0])) (w:=pY w (.cells #[.pointer none,.slice none 0 0] t) w.drawn) n 2 0 0 w.heap.size 0 (.inl rfl) (by simp [Env.add])
  simpa using this
theorem nH (E:Env) (h:aA) (w:World):∀ (l:List Value),cX E h w (l.map aC.ofValue) l
 | []=>trivial
 |v :: l=>⟨.ofValue E h w v,nH E h w l⟩
theorem cX.nG {E:Env} {w:World}:∀ {xs:List aC} {vs:List Value},cX E h w xs vs→xs.all aC.flat = true→∀ c∈vs,c.oneCell' = true
 | [],[],_,_,c,hc=>by simp at hc
 |x :: xs,v :: vs,hL,hf,c,hc=>by
  simp only [List.all_cons,Bool.and_eq_true] at hf
  rcases List.mem_cons.1 hc with e | e
  ·rw [e];exact (hL.1.nG hf.1).1
  ·exact cX.nG hL.2 hf.2 c e
 | [],_ :: _,hL,_,_,_=>hL.elim
 | _ :: _,[],hL,_,_,_=>hL.elim
theorem aSK (t:TypeId) (r:jU) (ho:o.op = .alloc t) (ht:gL P t = some r) (hz:r.zero≠[]) (hf:r.zero.all aC.flat = true)
  (hk:∀ n,h n = none→K (.op n r.zero.length 0 0) (a7 h n (.row r.zero.length [r.zero.map .v]))):mA P o ρ h K :=
 aBC _ r.zero rfl hk fun E w ρc R hρ=>by
  obtain ⟨z,hrun,hzz⟩:=mS (w:=w) ht hz
  have hL:cX E h w r.zero z.cells.toList:=by rw [← hzz];exact nH E h w _
  refine ⟨z.cells,t,w.drawn,?_,hL,hL.nG hf⟩
  simp only [execOp,ho,Instr.alloc,newVar,newRow,Sem.run_bind,run_newObj,hrun,Result.andThen_ok,Sem.run_pure,mT]
theorem kD (b o k:Nat):(⟨b,o,none⟩:Addr).add k = ⟨b,o + k,none⟩:=by
 simp only [Addr.add];split
 ·subst_vars;rfl
 ·rfl
theorem wT (t:TypeId) (x:Operand) (f:Nat) (r:jU) (fs:List (Nat × TypeId × Nat)) (off sz':Nat) (ft:TypeId) (v:aC) (ho:o.op = .fieldAddr t x f) (ht:gL P t = some r) (hd:r.d = .st fs)
  (hf:fs[f]? = some (off,ft,sz')) (hsz:sz'≠0) (hv:(∃ n sz i k,ρ x = .op n sz i k∧v = .op n sz i (k + off))∨(∃ sz es i k,ρ x = .ip sz es i k∧v = .ip sz es i (k + off))) (hk:K v h):mA P o ρ h K :=
 bS hk fun E w ρc R hρ=>by
  have hr:=hρ x
  obtain ⟨u,hu,hud,hrun⟩:=bP (w:=w) ht
  obtain ⟨gs,rfl,hall,hgs⟩:=aT8 (hud.trans hd)
  rw [← hgs] at hf
  simp only [List.getElem?_map,Option.map_eq_some_iff,Prod.mk.injEq] at hf
  obtain ⟨g,hg,rfl,rfl,rfl⟩:=hf
  have hinfo:(P.info? g.type).isSome = true:=List.all_eq_true.1 hall _ (List.mem_of_getElem? hg)
  have hsize:=uX (w:=w) hinfo
  have hg':gs[f]? = some g:=by simpa using hg
  have key:∀ b k,ρc x = .pointer (some ⟨b,k,none⟩)→(execOp ρc o).run P w = .ok (.value (.pointer (some ⟨b,k + g.offset,none⟩))) w:=by
   intro b k hb
   simp only [execOp,ho,Instr.fieldAt,hb,Sem.run_bind,hrun,Result.andThen_ok,hg',Instr.sureAddr,Sem.run_pure,fieldPlace,hsize,Sem.run_ite,hsz,if_false,kD]
  rcases hv with ⟨n,sz,i,k,e,rfl⟩ | ⟨sz,es,i,k,e,rfl⟩
  ·rw [e] at hr
   cases hv:ρc x <;> rw [hv] at hr <;> try (cases hr;done)
   cases hr with
   |op _ _ _ _ b o' hd' hl =>
    refine ⟨_,key _ _ hv,?_⟩
    have:=eC.op (E:=E) (h:=h) (w:=w) n sz i (k + g.offset) b o' hd' hl
    rwa [← Nat.add_assoc] at this
  ·rw [e] at hr
   cases hv:ρc x <;> rw [hv] at hr <;> try (cases hr;done)
   cases hr with
   |ip _ _ _ _ b o' cv hi hs hc h1 hrr =>
    refine ⟨_,key _ _ hv,?_⟩
    have:=eC.ip (E:=E) (h:=h) (w:=w) sz es i (k + g.offset) b o' cv hi hs hc h1 hrr
    rwa [← Nat.add_assoc] at this
theorem z8 (t et:TypeId) (x i:Operand) (r re:jU) (sz:Nat) (es:List (List aC)) (tg:Bool) (k:IntKind) (n:Int) (ho:o.op = .indexAddr t x i) (ht:gL P t = some r) (hd:r.d = .slice et)
  (he:gL P et = some re) (hsz:re.sz = sz) (hx:ρ x = .sl sz es tg) (hi:ρ i = .int k n) (h0:0≤n) (hn:n < es.length) (hk:K (.ip sz es n.toNat 0) h):mA P o ρ h K :=
 bS hk fun E w ρc R hρ=>by
  have hr:=hρ x
  have hri:=jJ (hi ▸ hρ i)
  rw [hx] at hr
  obtain ⟨u,hu,hud,hrun⟩:=bP (w:=w) ht
  obtain rfl:=fZ (hud.trans hd)
  have hsize:=fT (w:=w) he
  cases hv:ρc x <;> rw [hv] at hr <;> try (cases hr;done)
  cases hr with
  |w7=>simp at hn;omega
  |sl _ _ _ b o' cap cv hI hcap hmax htt hs hc h1 hrr =>
   refine ⟨.pointer (some ⟨b,o' + n.toNat * sz,none⟩),?_,?_⟩
   ·simp only [execOp,ho,Instr.indexAt,hri,hv,asIntOf,Sem.run_bind,Sem.run_pure,Result.andThen_ok,hrun]
    have:(0≤n∧n < (es.length:Int)):=⟨h0,hn⟩
    simp [this,hsize,hsz,kD]
   ·have:=eC.ip (E:=E) (h:=h) (w:=w) sz es n.toNat 0 b o' cv hI hs hc h1 hrr
    simpa using this
theorem aAA (t et:TypeId) (x i:Operand) (r re:jU) (m sz i0 len:Nat) (k:IntKind) (n:Int) (ho:o.op = .indexAddr t x i) (ht:gL P t = some r) (hd:r.d = .slice et)
  (he:gL P et = some re) (hsz:re.sz = sz) (hx:ρ x = .os m sz i0 len) (hi:ρ i = .int k n) (h0:0≤n) (hn:n < len) (hk:K (.op m sz (i0 + n.toNat) 0) h):mA P o ρ h K :=
 bS hk fun E w ρc R hρ=>by
  have hr:=hρ x
  have hri:=jJ (hi ▸ hρ i)
  rw [hx] at hr
  obtain ⟨u,hu,hud,hrun⟩:=bP (w:=w) ht
  obtain rfl:=fZ (hud.trans hd)
  have hsize:=fT (w:=w) he
  cases hv:ρc x <;> rw [hv] at hr <;> try (cases hr;done)
  cases hr with
  |os0=>simp at hn;omega
  |os _ _ _ _ b o' cap tt mm hd' hl hlc hmax hsh hm =>
   refine ⟨.pointer (some ⟨b,o' + (i0 + n.toNat) * sz,none⟩),?_,?_⟩
   ·simp only [execOp,ho,Instr.indexAt,hri,hv,asIntOf,Sem.run_bind,Sem.run_pure,Result.andThen_ok,hrun]
    have:(0≤n∧n < (len:Int)):=⟨h0,hn⟩
    simp [this,hsize,hsz,kD,Nat.add_mul,Nat.add_assoc]
   ·have:=eC.op (E:=E) (h:=h) (w:=w) m sz (i0 + n.toNat) 0 b o' hd' hl
    simpa using this
theorem aB7 (t:TypeId) (x:Operand) (r:jU) (n:Nat) (ats:Array TypeId) (ho:o.op = .call { callee:=.builtin .len,args:=#[x],argTypes:=ats }) (hat:ats[0]? = some t) (ht:gL P t = some r)
  (hx:(∃ e sz es tg,r.d = .slice e∧ρ x = .sl sz es tg∧n = es.length)∨(∃ e m sz i,r.d = .slice e∧ρ x = .os m sz i n)∨(∃ e,r.d = .slice e∧ρ x = .bO∧n = 0)∨(∃ s,r.d = .str∧ρ x = .str s∧n = s.length))
  (hk:n≤9223372036854775807→K (.int .i64 n) h):mA P o ρ h K:=by
 intro E w ρc R hρ
 have hr:=hρ x
 obtain ⟨u,hu,hud,hrun⟩:=bP (w:=w) ht
 have hml:maxLen = 9223372036854775807:=rfl
 suffices hs:n≤9223372036854775807∧(execOp ρc o).run P w = .ok (.value (.int .i64 n)) w from .hU hs.2 (.same (hk hs.1) R (.int _ _))
 have hat':∃ a,ats[0]? = some a∧a = t:=⟨t,hat,rfl⟩
 rcases hx with ⟨e,sz,es,tg,hd,hx,rfl⟩ | ⟨e,m,sz,i,hd,hx⟩ | ⟨e,hd,hx,rfl⟩ | ⟨s,hd,hx,rfl⟩
 ·obtain rfl:=fZ (hud.trans hd)
  rw [hx] at hr
  cases hv:ρc x <;> rw [hv] at hr <;> try (cases hr;done)
  cases hr with
  |w7=>exact ⟨by simp,by simp [execOp,ho,resolve,invoke,builtin,Builtin.len_,hat,hv,hrun,goInt]⟩
  |sl _ _ _ b o' cap cv hI hcap hmax htt hs hc h1 hrr =>
   exact ⟨by omega,by simp [execOp,ho,resolve,invoke,builtin,Builtin.len_,hat,hv,hrun,goInt]⟩
 ·obtain rfl:=fZ (hud.trans hd)
  rw [hx] at hr
  cases hv:ρc x <;> rw [hv] at hr <;> try (cases hr;done)
  cases hr with
  |os0=>exact ⟨by simp,by simp [execOp,ho,resolve,invoke,builtin,Builtin.len_,hat,hv,hrun,goInt]⟩
  |os _ _ _ _ b o' cap tt mm hd' hl hlc hmax hsh hm =>
   exact ⟨by omega,by simp [execOp,ho,resolve,invoke,builtin,Builtin.len_,hat,hv,hrun,goInt]⟩
 ·obtain rfl:=fZ (hud.trans hd)
  rw [hx] at hr
  cases hv:ρc x <;> rw [hv] at hr <;> try (cases hr;done)
  cases hr with
  |bO=>exact ⟨by omega,by simp [execOp,ho,resolve,invoke,builtin,Builtin.len_,hat,hv,hrun,goInt]⟩
 ·obtain rfl:=x8 (hud.trans hd)
  rw [hx] at hr
  cases hv:ρc x <;> rw [hv] at hr <;> try (cases hr;done)
  cases hr with
  |str _ hl=>exact ⟨by omega,by simp [execOp,ho,resolve,invoke,builtin,Builtin.len_,hat,hv,hrun,goInt];rfl⟩
theorem aF0 (t:TypeId) (x i:Operand) (r:jU) (s:List UInt8) (k:IntKind) (n:Int) (c:UInt8) (ho:o.op = .index t x i) (ht:gL P t = some r) (hd:r.d = .str)
  (hx:ρ x = .str s) (hi:ρ i = .int k n) (h0:0≤n) (hc:s[n.toNat]? = some c) (hk:K (.int .u8 c.toNat) h):mA P o ρ h K :=
 bS hk fun E w ρc R hρ=>by
  obtain ⟨hv,_⟩:=qU (hx ▸ hρ x)
  have hri:=jJ (hi ▸ hρ i)
  obtain ⟨u,hu,hud,hrun⟩:=bP (w:=w) ht
  obtain rfl:=x8 (hud.trans hd)
  refine ⟨.int .u8 c.toNat,?_,.int _ _⟩
  have:(⟨s.toArray⟩:ByteArray)[n.toNat]? = some c:=by
   have hlt:=(List.getElem?_eq_some_iff.1 hc).1
   have hge:=(List.getElem?_eq_some_iff.1 hc).2
   rw [getElem?_pos (⟨s.toArray⟩:ByteArray) n.toNat (by simpa [ByteArray.size] using hlt)]
   congr 1
  simp [execOp,ho,Instr.index,hri,hv,asIntOf,hrun,h0,this]
theorem aKE (t:Operand) (i:Nat) (cs:List aC) (x:aC) (ho:o.op = .extract t i) (ht:ρ t = .gW cs) (hx:cs[i]? = some x) (hk:K x h):mA P o ρ h K :=
 bS hk fun E w ρc R hρ=>by
  have hr:=hρ t
  rw [ht] at hr
  cases hv:ρc t <;> rw [hv] at hr <;> try (cases hr;done)
  cases hr with
  |gW _ vs hl hrr =>
   have hlt:i < vs.length:=by rw [← hl];exact (List.getElem?_eq_some_iff.1 hx).1
   have hvi:vs[i]? = some vs[i]:=List.getElem?_eq_getElem hlt
   exact ⟨vs[i],by simp [execOp,ho,Instr.extract,hv,hvi],hrr i _ _ hx hvi⟩
theorem aYI (t:TypeId) (x:Operand) (b:Bool) (ho:o.op = .unOp .not t x) (hx:ρ x = .bool b) (hk:K (.bool (!b)) h):mA P o ρ h K :=
 bS hk fun E w ρc R hρ=>by
  have hv:=rU (hx ▸ hρ x)
  exact ⟨.bool (!b),by simp [execOp,ho,hv,Op.unary],.bool _⟩
theorem aYJ (t:TypeId) (x:Operand) (k:IntKind) (n:Int) (ho:o.op = .unOp .neg t x) (hx:ρ x = .int k n) (hk:K (.int k (k.wrap (0 - n))) h):mA P o ρ h K :=
 bS hk fun E w ρc R hρ=>by
  have hv:=jJ (hx ▸ hρ x)
  exact ⟨.int k (k.wrap (0 - n)),by simp [execOp,ho,hv,Op.unary,Op.intArith],.int _ _⟩
theorem yA (x:Operand) (ho:o.op = .nilCheck x) (hx:(∃ n sz i k,ρ x = .op n sz i k)∨(∃ sz es i k,ρ x = .ip sz es i k)) (hk:K (ρ x) h):mA P o ρ h K :=
 bS hk fun E w ρc R hρ=>by
  have hr:=hρ x
  refine ⟨ρc x,?_,hr⟩
  rcases hx with ⟨n,sz,i,k,e⟩ | ⟨sz,es,i,k,e⟩ <;> rw [e] at hr <;> (cases hv:ρc x <;> rw [hv] at hr <;> try (cases hr;done)) <;> cases hr <;> simp [execOp,ho,hv]
theorem aBW (s d:TypeId) (x:Operand) (rs rd:jU) (k k':IntKind) (n:Int) (ho:o.op = .convert s d x) (hs:gL P s = some rs) (hd:gL P d = some rd) (hk':rd.d = .int k')
  (hx:ρ x = .int k n) (hk:K (.int k' (k'.wrap n)) h):mA P o ρ h K :=
 bS hk fun E w ρc R hρ=>by
  have hv:=jJ (hx ▸ hρ x)
  obtain ⟨u,hu,hud,hrun⟩:=bP (w:=w) hs
  obtain ⟨u',hu',hud',hrun'⟩:=bP (w:=w) hd
  obtain rfl:=aPW (hud'.trans hk')
  exact ⟨.int k' (k'.wrap n),by simp [execOp,ho,convert,hv,hrun,hrun',Conv.intToInt],.int _ _⟩
theorem yB {E:Env} {w:World} {ρc:Operand→Value} (hρ:∀ x,eC E h w (ρ x) (ρc x)):∀ (l:List Operand),cX E h w (l.map ρ) (l.map ρc)
 | []=>trivial
 |x :: l=>⟨hρ x,yB hρ l⟩
theorem aHW (fn:Fn) (fs cs:Array Operand) (ho:o.op = .makeFunc fn fs cs) (hk:K (.fn fn (fs.toList.map ρ) (cs.toList.map ρ)) h):mA P o ρ h K :=
 bS hk fun E w ρc R hρ=>by
  refine ⟨.func fn (fs.map ρc) (cs.map ρc),by simp [execOp,ho,Instr.makeFunc],?_⟩
  have h1:=yB hρ fs.toList
  have h2:=yB hρ cs.toList
  have:=eC.fn (E:=E) (h:=h) (w:=w) fn _ _ _ _ h1.length h1.get h2.length h2.get
  have e:∀ (a:Array Operand),(a.toList.map ρc).toArray = a.map ρc:=fun a=>by cases a;simp
  rwa [e,e] at this
end
section
variable {P:Program} {o:Oper} {ρ:Operand→aC} {h:aA} {K:aC→aA→Prop}
theorem yC (op:BinOp) (t ty:TypeId) (x y:Operand) (r:jU) (a b:Bool) (v:aC) (ho:o.op = .binOp op t x y ty) (ht:gL P t = some r) (hd:r.d = .bool) (hx:ρ x = .bool a) (hy:ρ y = .bool b)
  (hop:(op = .eql∧v = .bool (a == b))∨(op = .neq∧v = .bool (a != b))) (hk:K v h):mA P o ρ h K :=
 bS hk fun E w ρc R hρ=>by
  have hxv:=rU (hx ▸ hρ x)
  have hyv:=rU (hy ▸ hρ y)
  obtain ⟨u,hu,hud,hrun⟩:=bP (w:=w) ht
  obtain rfl:=aT7 (hud.trans hd)
  have hg:(eqGuard op t x y (.bool a) (.bool b)).run P w = .ok () w:=by
   cases op <;> simp [eqGuard]
  have hq:(Op.equal t (.bool a) (.bool b)).run P w = .ok (a == b) w:=run_equalIn_bool' w 9999 t a b hu
  rcases hop with ⟨rfl,rfl⟩ | ⟨rfl,rfl⟩
  ·exact ⟨.bool (a == b),by simp only [execOp,ho,Sem.run_bind,hxv,hyv,hg,Result.andThen_ok,binOp,hq,Sem.run_pure],.bool _⟩
  ·exact ⟨.bool (a != b),by simp only [execOp,ho,Sem.run_bind,hxv,hyv,hg,Result.andThen_ok,binOp,hq,Sem.run_pure];rfl,.bool _⟩
theorem aPX (op:BinOp) (t ty:TypeId) (x y:Operand) (k:IntKind) (a b:Int) (v:aC) (ho:o.op = .binOp op t x y ty) (hx:ρ x = .int k a) (hy:ρ y = .int k b) (hb:b≠0)
  (hop:(op = .quo∧v = .int k (k.wrap (a.tdiv b)))∨(op = .rem∧v = .int k (a.tmod b))) (hk:K v h):mA P o ρ h K :=
 bS hk fun E w ρc R hρ=>by
  have hxv:=jJ (hx ▸ hρ x)
  have hyv:=jJ (hy ▸ hρ y)
  rcases hop with ⟨rfl,rfl⟩ | ⟨rfl,rfl⟩
  ·exact ⟨.int k (k.wrap (a.tdiv b)),by simp [execOp,ho,hxv,hyv,eqGuard,binOp,Op.intDiv,hb],.int _ _⟩
  ·exact ⟨.int k (a.tmod b),by simp [execOp,ho,hxv,hyv,eqGuard,binOp,Op.intDiv,hb],.int _ _⟩
theorem aGL (op:BinOp) (t ty:TypeId) (x y:Operand) (k k':IntKind) (a b:Int) (v:aC) (ho:o.op = .binOp op t x y ty) (hx:ρ x = .int k a) (hy:ρ y = .int k' b) (hb:0≤b)
  (hop:(op = .shl∧v = .int k (k.wrap (a * 2 ^ (min b.toNat k.bits))))∨(op = .shr∧v = .int k (a.fdiv (2 ^ (min b.toNat k.bits))))) (hk:K v h):mA P o ρ h K :=
 bS hk fun E w ρc R hρ=>by
  have hxv:=jJ (hx ▸ hρ x)
  have hyv:=jJ (hy ▸ hρ y)
  have hb':¬ b < 0:=by omega
  rcases hop with ⟨rfl,rfl⟩ | ⟨rfl,rfl⟩
  ·exact ⟨_,by simp only [execOp,ho,hxv,hyv,eqGuard,binOp,Op.shift,hb',if_false];simp,.int _ _⟩
  ·exact ⟨_,by simp only [execOp,ho,hxv,hyv,eqGuard,binOp,Op.shift,hb',if_false];simp,.int _ _⟩
theorem aYK (x y:Operand) (ats:Array TypeId) (k:IntKind) (a b:Int) (ho:o.op = .call { callee:=.builtin .max,args:=#[x,y],argTypes:=ats }) (hx:ρ x = .int k a) (hy:ρ y = .int k b)
  (hk:K (.int k (max a b)) h):mA P o ρ h K :=
 bS hk fun E w ρc R hρ=>by
  have hxv:=jJ (hx ▸ hρ x)
  have hyv:=jJ (hy ▸ hρ y)
  have e:(if b > a then b else a) = max a b:=by rw [Int.max_def];split <;> split <;> omega
  exact ⟨.int k (max a b),by simp [execOp,ho,resolve,invoke,builtin,Builtin.max_,hxv,hyv,Builtin.max2,e],.int _ _⟩
def iI (d:Nat):Option aC→Option Int
 |none=>some d
 |some (.int _ n)=>some n
 | _=>none
theorem l6 {w:World} {k:IntKind} {i:Int} {y:Nat} {code:BoundsCode} (h0:0≤i) (h1:i≤y):(Instr.sliceBound (.int k i) y code).run P w = .ok i.toNat w:=by
 simp [Instr.sliceBound,asIntOf,h0,h1]
theorem p0 {w:World} {E:Env} (R:Rel E h w) {ρc:Operand→Value} (hρ:∀ x,eC E h w (ρ x) (ρc x)) (isS:Bool) (len cap:Nat) (lo hi mx:Option Operand) (l r m:Int)
  (hl:iI 0 (lo.map ρ) = some l) (hh:iI len (hi.map ρ) = some r) (hm:iI cap (mx.map ρ) = some m) (hmh:mx.isSome = true→hi.isSome = true)
  (h0:0≤l) (h1:l≤r) (h2:r≤m) (h3:m≤cap) :
  (Instr.sliceBounds isS len cap (lo.map ρc) (hi.map ρc) (mx.map ρc)).run P w = .ok (l.toNat,r.toNat,m.toNat) w:=by
 have hint:∀ (x:Operand) (d:Nat) (z:Int),iI d (some (ρ x)) = some z→∃ k,ρc x = .int k z:=by
  intro x d z hz
  have hr:=hρ x
  generalize ρ x = v at *
  cases v <;> simp [iI] at hz
  subst hz
  exact ⟨_,jJ hr⟩
 have hbn:∀ d:Nat,iI d none = some (d:Int):=fun _=>rfl
 cases mx with
 |none =>
  obtain rfl:(cap:Int) = m:=by simpa [iI] using hm
  cases hi with
  |none =>
   obtain rfl:(len:Int) = r:=by simpa [iI] using hh
   cases lo with
   |none => obtain rfl : (0 : Int) = l := by simpa [iI] using hl
            simp [Instr.sliceBounds]
   |some x =>
    obtain ⟨k,hx⟩:=hint x _ _ hl
    simp [Instr.sliceBounds,hx,l6 h0 h1]
  |some y =>
   obtain ⟨k',hy⟩:=hint y _ _ hh
   have e:((r.toNat:Nat):Int) = r:=by omega
   cases lo with
   |none => obtain rfl : (0 : Int) = l := by simpa [iI] using hl
            simp [Instr.sliceBounds,hy,l6 (show 0≤r by omega) h2]
   |some x =>
    obtain ⟨k,hx⟩:=hint x _ _ hl
    simp [Instr.sliceBounds,hx,hy,l6 (show 0≤r by omega) h2,l6 h0 (show l≤(r.toNat:Nat) by omega)]
 |some z =>
  obtain ⟨kz,hz⟩:=hint z _ _ hm
  cases hi with
  |none=>simp at hmh
  |some y =>
   obtain ⟨k',hy⟩:=hint y _ _ hh
   cases lo with
   |none => obtain rfl : (0 : Int) = l := by simpa [iI] using hl
            simp [Instr.sliceBounds,hy,hz,l6 (show 0≤m by omega) h3,l6 (show 0≤r by omega) (show r≤(m.toNat:Nat) by omega)]
   |some x =>
    obtain ⟨k,hx⟩:=hint x _ _ hl
    simp [Instr.sliceBounds,hx,hy,hz,l6 (show 0≤m by omega) h3,l6 (show 0≤r by omega) (show r≤(m.toNat:Nat) by omega),l6 h0 (show l≤(r.toNat:Nat) by omega)]
theorem aF1 (t:TypeId) (x:Operand) (lo hi:Option Operand) (r:jU) (s:List UInt8) (l m:Int) (ho:o.op = .slice t x lo hi none) (ht:gL P t = some r) (hd:r.d = .str) (hx:ρ x = .str s)
  (hl:iI 0 (lo.map ρ) = some l) (hh:iI s.length (hi.map ρ) = some m) (h0:0≤l) (h1:l≤m) (h2:m≤s.length) (hk:K (.str ((s.take m.toNat).drop l.toNat)) h):mA P o ρ h K :=
 bS hk fun E w ρc R hρ=>by
  obtain ⟨hv,hmax⟩:=qU (hx ▸ hρ x)
  obtain ⟨u,hu,hud,hrun⟩:=bP (w:=w) ht
  obtain rfl:=x8 (hud.trans hd)
  have hb:=p0 (P:=P) R hρ false s.length s.length lo hi none l m s.length hl hh rfl (by simp) h0 h1 h2 (by omega)
  refine ⟨.string ⟨((s.take m.toNat).drop l.toNat).toArray⟩,?_,.str _ (by simp;omega)⟩
  have hsz:(⟨s.toArray⟩:ByteArray).size = s.length:=by simp [ByteArray.size]
  have hex:(⟨s.toArray⟩:ByteArray).extract l.toNat m.toNat = ⟨((s.take m.toNat).drop l.toNat).toArray⟩:=by
   apply ByteArray.ext
   rw [ByteArray.data_extract]
   simp [List.extract_eq_take_drop,List.drop_take]
  simp only [Option.map_none] at hb
  simp [execOp,ho,Instr.sliceAt,Instr.slice,hrun,hv,hsz,hb,hex]
theorem aHX (t et:TypeId) (x:Operand) (lo hi:Option Operand) (r re:jU) (sz:Nat) (es:List (List aC)) (tg:Bool) (l m:Int) (ho:o.op = .slice t x lo hi none) (ht:gL P t = some r) (hd:r.d = .slice et)
  (he:gL P et = some re) (hsz:re.sz = sz) (hx:ρ x = .sl sz es tg)
  (hl:iI 0 (lo.map ρ) = some l) (hh:iI es.length (hi.map ρ) = some m) (h0:0≤l) (h1:l≤m) (h2:m≤es.length)
  (hk:K (.sl sz ((es.take m.toNat).drop l.toNat) (tg && decide (m = es.length))) h):mA P o ρ h K :=
 bS hk fun E w ρc R hρ=>by
  have hr:=hρ x
  rw [hx] at hr
  obtain ⟨u,hu,hud,hrun⟩:=bP (w:=w) ht
  obtain rfl:=fZ (hud.trans hd)
  have hsize:=fT (w:=w) he
  have hml:maxLen = 9223372036854775807:=rfl
  have key:∀ (a:Option Addr) (cap:Nat),ρc x = .slice a es.length cap→es.length≤cap →
    (execOp ρc o).run P w = .ok (.value (.slice (if cap = l.toNat then a else a.map (·.add (l.toNat * sz))) (m.toNat - l.toNat) (cap - l.toNat))) w:=by
   intro a cap hv hc
   have hb:=p0 (P:=P) R hρ true es.length cap lo hi none l m cap hl hh rfl (by simp) h0 h1 (by omega) (by omega)
   simp only [Option.map_none] at hb
   have e:((cap:Int)).toNat = cap:=by omega
   simp [execOp,ho,Instr.sliceAt,Instr.slice,hrun,hv,hb,hsize,hsz,e]
  cases hv:ρc x <;> rw [hv] at hr <;> try (cases hr;done)
  cases hr with
  |w7 _ _ _ _ htt hmax ha =>
   have hl0:l = 0:=by simp at h2;omega
   have hm0:m = 0:=by simp at h2;omega
   subst hl0 hm0
   refine ⟨_,key _ _ (by simpa using hv) (by simp),?_⟩
   simp only [Int.toNat_zero,List.take_zero,List.drop_nil,Nat.sub_zero,Nat.zero_mul,Nat.sub_self,List.length_nil]
   exact .w7 sz _ _ _ (fun e=>htt (by simp at e;exact e)) hmax trivial
  |sl _ _ _ b o' cap cv hI hcap hmax htt hs hc h1' hrr =>
   rename_i cap
   refine ⟨_,key _ cap hv hcap,?_⟩
   have hlen:((es.take m.toNat).drop l.toNat).length = m.toNat - l.toNat:=by simp;omega
   by_cases hemp:m.toNat = l.toNat
   ·have e1:(es.take m.toNat).drop l.toNat = []:=List.drop_eq_nil_of_le (by simp;omega)
    rw [e1,hemp,Nat.sub_self]
    refine .w7 sz _ _ _ (fun e=>?_) (by omega) trivial
    simp at e;have:=htt e.1;omega
   ·have hne:¬ cap = l.toNat:=by omega
    rw [if_neg hne,← hlen]
    simp only [Option.map_some,kD]
    have hat:∀ i j y,iE ((es.take m.toNat).drop l.toNat) i j = some y→iE es (l.toNat + i) j = some y:=by
     intro i j y hy
     obtain ⟨e,h1,h2⟩:=jI hy
     rw [List.getElem?_drop] at h1
     have hlt:l.toNat + i < m.toNat:=by have:=(List.getElem?_eq_some_iff.1 h1).1;simp at this;omega
     rw [List.getElem?_take_of_lt hlt] at h1
     simp [iE,h1,h2]
    refine .sl sz _ _ b (o' + l.toNat * sz) (cap - l.toNat) (fun i j=>cv (l.toNat + i) j) hI (by omega) (by omega) (fun e=>?_) ?_ ?_ ?_ ?_
    ·simp at e;have:=htt e.1;omega
    ·intro e he
     exact hs e (List.mem_of_mem_take (List.mem_of_mem_drop he))
    ·intro i j y hy
     rw [← hc _ _ _ (hat i j y hy)];congr 2;rw [Nat.add_mul];omega
    ·intro i j y hy;exact h1' _ _ _ (hat i j y hy)
    ·intro i j y hy;exact hrr _ _ _ (hat i j y hy)
end
theorem yD {α:Type} (l:List α) (hl:0 < l.length):∀ (c k:Nat),k < c * l.length→(List.replicate c l).flatten[k]? = l[k % l.length]?
 |0,k,hk=>by simp at hk
 |c + 1,k,hk=>by
  rw [List.replicate_succ,List.flatten_cons]
  by_cases h:k < l.length
  ·rw [List.getElem?_append_left h,Nat.mod_eq_of_lt h]
  ·rw [List.getElem?_append_right (by omega),yD l hl c (k - l.length) (by rw [Nat.succ_mul] at hk;omega)]
   congr 1
   rw [Nat.mod_eq_sub_mod (Nat.le_of_not_lt h)]
theorem aSM (z:Array Value) (hz:0 < z.size) (c k:Nat) (hk:k < c * z.size):((Array.range (c * z.size)).map (fun i=>z[i % z.size]!)).toList[k]? = z.toList[k % z.size]?:=by
 have hm:k % z.size < z.size:=Nat.mod_lt _ hz
 simp only [Array.toList_map,Array.toList_range,List.getElem?_map,List.getElem?_range hk,Option.map_some]
 rw [getElem!_pos z _ hm,Array.getElem?_toList,Array.getElem?_eq_getElem hm]
theorem cX.aT9 {E:Env} {h:aA} {w:World} {xs:List aC} {z:Array Value} (hL:cX E h w xs z.toList) (hx:0 < xs.length) (c:Nat) :
  cX E h w (List.replicate c xs).flatten ((Array.range (c * z.size)).map (fun i=>z[i % z.size]!)).toList:=by
 have hsz:z.size = xs.length:=by have:=hL.length;simp at this;omega
 refine cX.mk (by simp [hsz]) ?_
 intro k x v hkx hkv
 have hk:k < c * xs.length:=by have:=(List.getElem?_eq_some_iff.1 hkx).1;simpa using this
 rw [yD xs hx c k hk] at hkx
 rw [aSM z (by omega) c k (by rw [hsz];exact hk),hsz] at hkv
 exact hL.get _ _ _ hkx hkv
section
variable {P:Program} {o:Oper} {ρ:Operand→aC} {h:aA} {K:aC→aA→Prop}
theorem aF2 (t et:TypeId) (l c:Operand) (r re:jU) (k k':IntKind) (a b:Int) (ho:o.op = .makeSlice t l c) (ht:gL P t = some r) (hd:r.d = .slice et) (he:gL P et = some re)
  (hz:re.zero.length = re.sz) (hz0:0 < re.sz) (hf:re.zero.all aC.flat = true) (hl:ρ l = .int k a) (hc:ρ c = .int k' b) (h0:0≤a) (hab:a≤b) (hb:b≤281474976710656) (hbb:re.bytes * b≤281474976710656)
  (hk:∀ n,h n = none→K (.os n re.sz 0 a.toNat) (a7 h n (.row re.sz ((List.replicate b.toNat re.zero).map (List.map .v))))):mA P o ρ h K:=by
 refine rL re.sz a.toNat (List.replicate b.toNat re.zero) (fun e he=>by rw [List.eq_of_mem_replicate he,hz]) hk ?_
 intro E w ρc R hρ
 have hal:=jJ (hl ▸ hρ l)
 have hac:=jJ (hc ▸ hρ c)
 obtain ⟨u,hu,hud,hrun⟩:=bP (w:=w) ht
 obtain rfl:=fZ (hud.trans hd)
 have hsize:=fT (w:=w) he
 obtain ⟨z,hzr,hzz⟩:=mS (w:=w) he (by intro e;rw [e] at hz;simp at hz;omega)
 obtain ⟨i,u',hi,hu',hsz,hby,_⟩:=oM he
 have hL:cX E h w re.zero z.cells.toList:=by rw [← hzz];exact nH E h w _
 have hzs:z.cells.size = re.sz:=by have:=hL.length;simp at this;omega
 have wa:IntKind.i64.wrap a = a:=IntWalk.i64_in a (by omega)
 have wb:IntKind.i64.wrap b = b:=IntWalk.i64_in b (by omega)
 refine ⟨(Array.range (b.toNat * z.cells.size)).map (fun i=>z.cells[i % z.cells.size]!),et,w.drawn,b.toNat,_,[],?_,by omega,by unfold maxLen;omega,by simp [hzs],by simp,hL.aT9 (by omega) b.toNat,?_⟩
 ·have hti:(typeInfo et).run P w = .ok i w:=by simp [typeInfo,hi]
  have n1:¬ (b < 0):=by omega
  have n2:¬ (281474976710656 < (i.bytes:Int) * b):=by rw [← hby];omega
  have n3:¬ (a < 0):=by omega
  have n4:¬ (b < a):=by omega
  simp only [execOp,ho,Instr.makeSlice,Sem.run_bind,hrun,Result.andThen_ok,asInt,hal,hac,asIntOf,Sem.run_pure,hti,wa,wb]
  by_cases hbz:b.toNat = 0
  ·simp [n1,n2,n3,n4,hsize,hzs,hbz,newRow,mT]
   have e0:Array.range 0 = #[]:=by simp
   simp only [e0,Array.map_empty];rfl
  ·simp [n1,n2,n3,n4,hsize,hzs,hbz,newRow,mT,hzr]
   rw [if_neg (Nat.mul_ne_zero hbz (by omega))]
   rfl
 ·exact (hL.aT9 (by omega) b.toNat).nG (by
   rw [List.all_eq_true]
   intro x hx
   obtain ⟨l,hl,hx⟩:=List.mem_flatten.1 hx
   rw [List.eq_of_mem_replicate hl] at hx
   exact List.all_eq_true.1 hf x hx)
end
theorem Ev.pY {E:Env} {h:aA} {w:World} (o:Obj) (d:Nat):Ev E h w E h (pY w o d) :=
 ⟨by rw [jK];omega,fun b hb=>⟨lJ w o d b hb.1,⟨by have:=hb.1;rw [jK];omega,hb.2⟩⟩,fun b hb=>by simp only [World.shape?,lJ w o d b hb],fun _ hn=>⟨rfl,hn⟩,rfl,rfl⟩
theorem Rel.pY {E:Env} {h:aA} {w:World} (R:Rel E h w) (o:Obj) (d:Nat):Rel E h (pY w o d) :=
 ⟨R.fin,R.dom,fun n x b hn hx hb=>by have:=R.lt n x b hn hx hb;rw [jK];omega,R.apart,
  fun n x hn=>(R.obj n x hn).ev (Ev.pY o d) rfl rfl fun c hx hc=>lJ w o d c (R.lt n x c hn hx hc),R.laid.ev (Ev.pY o d)⟩
theorem aPY {E:Env} {h:aA} {w:World} (R:Rel E h w) (o:Obj) (d:Nat):nB E h (Hl.pY w o d) w.heap.size :=
 ⟨by rw [jK];omega,fun n x hn hx hf=>by have:=R.lt n x _ hn hx hf;omega⟩
theorem aPZ {E:Env} {h:aA} {w:World} (R:Rel E h w) {sz:Nat} {es:List (List aC)} (hs:∀ e∈es,e.length = sz) {cs:Array Value} {t:TypeId} {d:Nat} {vs rest:List Value} (hcs:cs.toList = vs ++ rest) (hL:cX E h w es.flatten vs) (h1:∀ c∈vs,c.oneCell' = true) :
  ∃ cv:Nat→Nat→Value,(∀ i j x,iE es i j = some x→(Hl.pY w (.cells cs t) d).cell? ⟨w.heap.size,0 + i * sz + j,none⟩ = some (cv i j))∧(∀ i j x,iE es i j = some x→(cv i j).oneCell' = true)∧(∀ i j x,iE es i j = some x→eC E h (Hl.pY w (.cells cs t) d) x (cv i j)):=by
 have hlen:vs.length = es.length * sz:=by rw [← hL.length,length_flatten es hs]
 refine ⟨fun i j=>(vs[i * sz + j]?).getD undef,fun i j x hx=>?_,fun i j x hx=>?_,fun i j x hx=>?_⟩ <;>
  (have hlt:=qX hs hx
   have hk:i * sz + j < vs.length:=by omega
   have hv:vs[i * sz + j]? = some vs[i * sz + j]:=List.getElem?_eq_getElem hk)
 ·simp only [World.cell?,qV,Nat.zero_add]
  rw [← Array.getElem?_toList,hcs,List.getElem?_append_left hk,hv];simp
 ·simp only [hv];exact h1 _ (List.getElem_mem hk)
 ·simp only [hv];exact (hL.get _ _ _ (qW es hs i j x hx) hv).ev (Ev.pY _ _)
section
variable {P:Program} {o:Oper} {ρ:Operand→aC} {h:aA} {K:aC→aA→Prop}
theorem aKG (t:TypeId) (x:Operand) (ho:o.op = .box t x) (hf:(ρ x).cells.all aC.flat = true) (hk:K (.ip (ρ x).cells.length [(ρ x).cells] 0 0) h):mA P o ρ h K:=by
 intro E w ρc R hρ
 obtain ⟨hL,h1⟩:=(hρ x).z7 hf
 have hs:∀ e∈[(ρ x).cells],e.length = (ρ x).cells.length:=by simp
 obtain ⟨cv,c1,c2,c3⟩:=aPZ (t:=t) (d:=w.drawn) R hs (cs:=(ρc x).cells) (vs:=(ρc x).cells.toList) (rest:=[]) (by simp) (by simpa using hL) h1
 refine .hU (v:=.pointer (some ⟨w.heap.size,0,none⟩)) (w':=Hl.pY w (.cells (ρc x).cells t) w.drawn) ?_ ⟨_,h,E,hk,Ev.pY _ _,R.pY _ _,?_⟩
 ·simp only [execOp,ho,Instr.box,newVar,newRow,Sem.run_bind,run_newObj,Result.andThen_ok,Sem.run_pure,mT]
 ·have:=eC.ip (E:=E) (h:=h) (w:=Hl.pY w (.cells (ρc x).cells t) w.drawn) (ρ x).cells.length [(ρ x).cells] 0 0 w.heap.size 0 cv (aPY R _ _) hs c1 c2 c3
  simpa using this
def p1 (es:List (List aC)):List (Nat × aC)→List (List aC)
 | []=>es
 |(i,v) :: r=>p1 (es.set i v.cells) r
def nW (len sz:Nat):List (Nat × aC)→Bool
 | []=>true
 |(i,v) :: r=>decide (i < len) && decide (v.cells.length = sz) && v.cells.all aC.flat && nW len sz r
theorem sT:∀ (ps:List (Nat × aC)) (es:List (List aC)),(p1 es ps).length = es.length
 | [],_=>rfl
 |(i,v) :: r,es=>by simp [p1,sT r]
theorem sU {sz len:Nat}:∀ (ps:List (Nat × aC)) (es:List (List aC)),nW len sz ps = true→(∀ e∈es,e.length = sz)→∀ e∈p1 es ps,e.length = sz
 | [],_,_,h=>h
 |(i,v) :: r,es,hf,h=>by
  simp only [nW,Bool.and_eq_true,decide_eq_true_eq] at hf
  refine sU r _ hf.2 fun e he=>?_
  rcases List.mem_or_eq_of_mem_set he with h1 | h1
  ·exact h e h1
  ·rw [h1];exact hf.1.1.2
theorem uE (vs:Array Value) (off:Nat) (cs:Array Value) (k:Nat) (hle:off + vs.size≤cs.size) :
  (vs.zipIdx.foldl (fun cs (cj:Value × Nat)=>cs.setIfInBounds (off + cj.2) cj.1) cs)[k]? = if off≤k∧k < off + vs.size then vs[k - off]? else cs[k]?:=by
 have key:∀ (l:List Value) (n:Nat) (cs:Array Value),off + n + l.length≤cs.size →
   ((l.zipIdx n).foldl (fun cs (cj:Value × Nat)=>cs.setIfInBounds (off + cj.2) cj.1) cs)[k]? = if off + n≤k∧k < off + n + l.length then l[k - (off + n)]? else cs[k]?:=by
  intro l
  induction l with
  |nil=>intro n cs _;rw [if_neg (by simp)];rfl
  |cons v l ih =>
   intro n cs hl
   simp only [List.zipIdx_cons,List.foldl_cons]
   rw [ih (n + 1) _ (by rw [Array.size_setIfInBounds];simp at hl;omega)]
   simp only [List.length_cons] at hl ⊢
   by_cases h1:off + (n + 1)≤k∧k < off + (n + 1) + l.length
   ·rw [if_pos h1,if_pos (by omega),show k - (off + n) = (k - (off + (n + 1))) + 1 by omega];simp
   ·rw [if_neg h1]
    by_cases h2:k = off + n
    ·subst h2
     have hlt:off + n < cs.size:=by omega
     rw [if_pos (by omega)];simp [Array.getElem?_setIfInBounds,hlt]
    ·rw [if_neg (by omega),Array.getElem?_setIfInBounds_ne (by omega)]
 have:=key vs.toList 0 cs (by simpa using hle)
 rw [← Array.foldl_toList,Array.toList_zipIdx]
 simpa using this
theorem rV (vs:Array Value) (off:Nat) (cs:Array Value):(vs.zipIdx.foldl (fun cs (cj:Value × Nat)=>cs.setIfInBounds (off + cj.2) cj.1) cs).size = cs.size:=by
 have key:∀ (l:List (Value × Nat)) (cs:Array Value),(l.foldl (fun cs (cj:Value × Nat)=>cs.setIfInBounds (off + cj.2) cj.1) cs).size = cs.size:=by
  intro l
  induction l with
  |nil=>intro cs;rfl
  |cons v l ih=>intro cs;simp only [List.foldl_cons];rw [ih];simp
 rw [← Array.foldl_toList]
 exact key _ cs
theorem rW {α:Type} {sz:Nat}:∀ (es:List (List α)),(∀ e∈es,e.length = sz)→∀ k,k < es.length * sz→es.flatten[k]? = iE es (k / sz) (k % sz)
 | [],_,k,hk=>by simp at hk
 |e :: es,hs,k,hk=>by
  have he:=hs e (by simp)
  have hs':=fun e he=>hs e (List.mem_cons_of_mem _ he)
  have hsz:0 < sz:=by
   rcases Nat.eq_zero_or_pos sz with h | h
   ·subst h;simp at hk
   ·exact h
  rw [List.flatten_cons]
  by_cases h:k < sz
  ·rw [List.getElem?_append_left (by omega),Nat.div_eq_of_lt h,Nat.mod_eq_of_lt h];simp [iE]
  ·rw [List.getElem?_append_right (by omega),he,rW es hs' (k - sz) (by simp [Nat.succ_mul] at hk;omega)]
   have h1:k / sz = (k - sz) / sz + 1:=by rw [Nat.div_eq_sub_div hsz (by omega)]
   have h2:k % sz = (k - sz) % sz:=Nat.mod_eq_sub_mod (by omega)
   rw [h1,h2];simp [iE]
theorem aKH {E:Env} {w:World} {sz len:Nat} {ρc:Operand→Value} (hρ:∀ x,eC E h w (ρ x) (ρc x)):∀ (ps:List (Nat × Operand)) (es:List (List aC)) (cs:Array Value),nW len sz (ps.map fun p=>(p.1,ρ p.2)) = true→es.length = len→(∀ e∈es,e.length = sz) →
  cX E h w es.flatten cs.toList→(∀ c∈cs.toList,c.oneCell' = true) →
  ∃ cs',Instr.fill (fun i=>some (i * sz,sz)) cs (ps.map fun p=>(p.1,ρc p.2)) = some cs'∧cX E h w (p1 es (ps.map fun p=>(p.1,ρ p.2))).flatten cs'.toList∧∀ c∈cs'.toList,c.oneCell' = true
 | [],es,cs,_,_,_,hL,h1=>⟨cs,rfl,hL,h1⟩
 |(i,x) :: ps,es,cs,hf,hlen,hs,hL,h1=>by
  simp only [List.map_cons,nW,Bool.and_eq_true,decide_eq_true_eq] at hf
  obtain ⟨⟨⟨hi,hsz⟩,hfl⟩,hf⟩:=hf
  obtain ⟨hcL,hc1⟩:=(hρ x).z7 hfl
  have hvs:(ρc x).cells.size = sz:=by have:=hcL.length;simp at this;omega
  have hcsz:cs.size = es.length * sz:=by have:=hL.length;rw [length_flatten es hs] at this;simpa using this.symm
  have hfit:i * sz + sz≤cs.size:=by
   rw [hcsz,hlen]
   have:=Nat.mul_le_mul_right sz (Nat.succ_le_of_lt hi)
   rw [Nat.succ_mul] at this;exact this
  have hget:=fun k=>uE (ρc x).cells (i * sz) cs k (by rw [hvs];exact hfit)
  have hsize:=rV (ρc x).cells (i * sz) cs
  have hs':∀ e∈es.set i (ρ x).cells,e.length = sz:=fun e he=>by
   rcases List.mem_or_eq_of_mem_set he with h1 | h1
   ·exact hs e h1
   ·rw [h1];exact hsz
  have hin:i * sz≤i * sz:=Nat.le_refl _
  obtain ⟨cs',r1,r2,r3⟩:=aKH hρ ps (es.set i (ρ x).cells) hf (by simpa using hlen) hs' (cs:=(ρc x).cells.zipIdx.foldl (fun cs (cj:Value × Nat)=>cs.setIfInBounds (i * sz + cj.2) cj.1) cs) (by
   refine cX.mk (by rw [length_flatten _ hs',List.length_set,← hcsz,← hsize];rfl) ?_
   intro k y v hy hv
   rw [Array.getElem?_toList,hget k] at hv
   have hk:k < es.length * sz:=by have:=(List.getElem?_eq_some_iff.1 hy).1;rw [length_flatten _ hs'] at this;simpa using this
   have bDY:0 < sz:=by
    rcases Nat.eq_zero_or_pos sz with h | h
    ·subst h;simp at hk
    ·exact h
   rw [rW _ hs' k (by simpa using hk)] at hy
   by_cases hr:i * sz≤k∧k < i * sz + (ρc x).cells.size
   ·rw [if_pos hr] at hv
    have hd:k / sz = i:=by
     rw [hvs] at hr
     exact Nat.div_eq_of_lt_le (by rw [Nat.mul_comm] at hr ⊢;omega) (by rw [Nat.succ_mul];omega)
    have hm:k % sz = k - i * sz:=by
     have:=Nat.div_add_mod k sz
     rw [hd,Nat.mul_comm] at this;omega
    rw [hd,hm] at hy
    unfold iE at hy
    rw [List.getElem?_set_self (by rw [hlen];exact hi)] at hy
    exact hcL.get _ _ _ (by simpa using hy) (by simpa using hv)
   ·rw [if_neg hr] at hv
    have hd:k / sz≠i:=by
     intro e
     have hdm:=Nat.div_add_mod k sz
     have:=Nat.mod_lt k bDY
     rw [e,Nat.mul_comm] at hdm
     rw [hvs] at hr;omega
    unfold iE at hy
    rw [List.getElem?_set_ne (Ne.symm hd)] at hy
    exact hL.get k _ _ (by rw [rW es hs k hk];exact hy) (by simpa using hv)) (by
   intro c hc
   obtain ⟨k,hk⟩:=List.getElem?_of_mem hc
   rw [Array.getElem?_toList,hget k] at hk
   split at hk
   ·exact hc1 c (by rw [← Array.getElem?_toList] at hk;exact List.mem_of_getElem? hk)
   ·exact h1 c (by rw [← Array.getElem?_toList] at hk;exact List.mem_of_getElem? hk))
  refine ⟨cs',?_,r2,r3⟩
  simp only [List.map_cons,Instr.fill,hvs]
  rw [if_neg (by simp;omega)]
  exact r1
theorem u1 {E:Env} {w:World} {ρc:Operand→Value} (hρ:∀ x,eC E h w (ρ x) (ρc x)) (t et:TypeId) (len:Nat) (ps:Array (Nat × Operand)) (r re:jU) (ho:o.op = .buildSlice t len ps) (ht:gL P t = some r) (hd:r.d = .slice et) (he:gL P et = some re)
  (hz:re.zero.length = re.sz) (hz0:0 < re.sz) (hf:re.zero.all aC.flat = true) (hlen:len * re.sz≤16777216) (hfill:nW len re.sz (ps.toList.map fun p=>(p.1,ρ p.2)) = true) :
  ∃ (cs:Array Value),(execOp ρc o).run P w = .ok (.value (.slice (some ⟨w.heap.size,0,none⟩) len len)) (pY w (.cells cs et) w.drawn) ∧
   cX E h w (p1 (List.replicate len re.zero) (ps.toList.map fun p=>(p.1,ρ p.2))).flatten cs.toList∧∀ c∈cs.toList,c.oneCell' = true:=by
 obtain ⟨u,hu,hud,hrun⟩:=bP (w:=w) ht
 obtain rfl:=fZ (hud.trans hd)
 have hsize:=fT (w:=w) he
 obtain ⟨z,hzr,hzz⟩:=mS (w:=w) he (by intro e;rw [e] at hz;simp at hz;omega)
 have hL:cX E h w re.zero z.cells.toList:=by rw [← hzz];exact nH E h w _
 have hzs:z.cells.size = re.sz:=by have:=hL.length;simp at this;omega
 have hflat:=hL.aT9 (by omega) len
 have hone:=hflat.nG (by
  rw [List.all_eq_true]
  intro x hx
  obtain ⟨l,hl,hx⟩:=List.mem_flatten.1 hx
  rw [List.eq_of_mem_replicate hl] at hx
  exact List.all_eq_true.1 hf x hx)
 have hs:∀ e∈List.replicate len re.zero,e.length = re.sz:=fun e he=>by rw [List.eq_of_mem_replicate he,hz]
 obtain ⟨cs,h1,h2,h3⟩:=aKH hρ ps.toList (List.replicate len re.zero) _ hfill (by simp) hs hflat hone
 refine ⟨cs,?_,h2,h3⟩
 have hmap:(ps.map fun (i,x)=>(i,ρc x)).toList = ps.toList.map fun p=>(p.1,ρc p.2):=by simp
 rw [hzs] at h1
 have n1:¬ (len * re.sz > 2 ^ 24):=by simp;omega
 simp only [execOp,ho,Instr.buildSlice,Sem.run_bind,hrun,Result.andThen_ok,hsize,hmap,if_neg n1,Sem.run_ite]
 by_cases hl0:len * re.sz = 0
 ·have aUA:len = 0:=by
   rcases Nat.mul_eq_zero.1 hl0 with h | h
   ·exact h
   ·omega
  subst aUA
  simp only [Nat.zero_mul] at h1 ⊢
  have e0:Array.range 0 = #[]:=by simp
  simp only [e0,Array.map_empty] at h1 ⊢
  simp [h1,newRow,mT]
  rfl
 ·simp only [hl0,if_false,Sem.run_bind,hzr,Result.andThen_ok,Sem.run_pure,hzs]
  simp [h1,newRow,mT]
  rfl
theorem aC7 (t et:TypeId) (len:Nat) (ps:Array (Nat × Operand)) (r re:jU) (ho:o.op = .buildSlice t len ps) (ht:gL P t = some r) (hd:r.d = .slice et) (he:gL P et = some re)
  (hz:re.zero.length = re.sz) (hz0:0 < re.sz) (hf:re.zero.all aC.flat = true) (hlen:len * re.sz≤16777216) (hfill:nW len re.sz (ps.toList.map fun p=>(p.1,ρ p.2)) = true)
  (hk:∀ n,h n = none→K (.os n re.sz 0 len) (a7 h n (.row re.sz ((p1 (List.replicate len re.zero) (ps.toList.map fun p=>(p.1,ρ p.2))).map (List.map .v))))):mA P o ρ h K:=by
 have hs:∀ e∈List.replicate len re.zero,e.length = re.sz:=fun e he=>by rw [List.eq_of_mem_replicate he,hz]
 refine rL re.sz len (p1 (List.replicate len re.zero) (ps.toList.map fun p=>(p.1,ρ p.2))) (sU _ _ hfill hs) hk ?_
 intro E w ρc R hρ
 obtain ⟨cs,h1,h2,h3⟩:=u1 (P:=P) hρ t et len ps r re ho ht hd he hz hz0 hf hlen hfill
 have hcs:cs.size = len * re.sz:=by
  have:=h2.length
  rw [length_flatten _ (sU _ _ hfill hs),sT] at this
  simpa using this.symm
 have:len≤len * re.sz:=Nat.le_mul_of_pos_right len hz0
 exact ⟨cs,et,w.drawn,len,cs.toList,[],h1,Nat.le_refl _,by unfold maxLen;omega,by omega,by simp,h2,h3⟩
theorem xA (t et:TypeId) (len:Nat) (ps:Array (Nat × Operand)) (r re:jU) (ho:o.op = .buildSlice t len ps) (ht:gL P t = some r) (hd:r.d = .slice et) (he:gL P et = some re)
  (hz:re.zero.length = re.sz) (hz0:0 < re.sz) (hf:re.zero.all aC.flat = true) (hlen:len * re.sz≤16777216) (hfill:nW len re.sz (ps.toList.map fun p=>(p.1,ρ p.2)) = true)
  (hk:K (.sl re.sz (p1 (List.replicate len re.zero) (ps.toList.map fun p=>(p.1,ρ p.2))) true) h):mA P o ρ h K:=by
 have hs:∀ e∈List.replicate len re.zero,e.length = re.sz:=fun e he=>by rw [List.eq_of_mem_replicate he,hz]
 have hs':=sU (sz:=re.sz) _ _ hfill hs
 intro E w ρc R hρ
 obtain ⟨cs,h1,h2,h3⟩:=u1 (P:=P) hρ t et len ps r re ho ht hd he hz hz0 hf hlen hfill
 obtain ⟨cv,c1,c2,c3⟩:=aPZ (t:=et) (d:=w.drawn) R hs' (cs:=cs) (vs:=cs.toList) (rest:=[]) (by simp) h2 h3
 refine .hU h1 ⟨_,h,E,hk,Ev.pY _ _,R.pY _ _,?_⟩
 have hl:(p1 (List.replicate len re.zero) (ps.toList.map fun p=>(p.1,ρ p.2))).length = len:=by rw [sT,List.length_replicate]
 have:len≤len * re.sz:=Nat.le_mul_of_pos_right len hz0
 have:=eC.sl (E:=E) (h:=h) (w:=Hl.pY w (.cells cs et) w.drawn) re.sz _ true w.heap.size 0 len cv (aPY R _ _) (by omega) (by unfold maxLen;omega) (fun _=>hl.symm) hs' c1 c2 c3
 rw [hl] at this
 exact this
end
def pO:List (List Cell)→Option (List (List aC))
 | []=>some []
 |e :: es=>match uY e,pO es with
  |some x,some xs=>some (x :: xs)
  | _,_=>none
theorem wU:∀ {es:List (List Cell)} {xs:List (List aC)},pO es = some xs→es = xs.map (List.map .v)
 | [],xs,h=>by simp [pO] at h;subst h;rfl
 |e :: es,xs,h=>by
  unfold pO at h
  split at h
  ·rename_i x xs' hx hxs
   obtain rfl:=Option.some.inj h
   simp [w8 hx,wU hxs]
  ·simp at h
def qY (h:aA) (sz:Nat):aC→Option (List (List aC))
 | .sl sz' ys _=>if sz' = sz then some ys else none
 | .bO=>some []
 | .str s=>if sz = 1 then some (s.map fun c=>[.int .u8 c.toNat]) else none
 | .os m sz' j k=>match h m with
  |some (.row sz'' es)=>if sz' = sz∧sz'' = sz∧j + k≤es.length then pO ((es.drop j).take k) else none
  | _=>none
 | _=>none
theorem aC8 {E:Env} {h:aA} {w:World} {b o sz:Nat} {es:List (List aC)} (hs:∀ e∈es,e.length = sz) {cv:Nat→Nat→Value}
  (hc:∀ i j x,iE es i j = some x→w.cell? ⟨b,o + i * sz + j,none⟩ = some (cv i j)) (h1:∀ i j x,iE es i j = some x→(cv i j).oneCell' = true) (hr:∀ i j x,iE es i j = some x→eC E h w x (cv i j)) :
  ∃ vs:List Value,cX E h w es.flatten vs∧(∀ c∈vs,c.oneCell' = true)∧∀ j v,vs[j]? = some v→w.cell? ((⟨b,o,none⟩:Addr).add j) = some v:=by
 have hlen:=length_flatten es hs
 refine ⟨(List.range (es.length * sz)).map fun k=>cv (k / sz) (k % sz),?_,?_,?_⟩
 ·refine cX.mk (by simp [hlen]) ?_
  intro k x v hx hv
  have hk:k < es.length * sz:=by rw [← hlen];exact (List.getElem?_eq_some_iff.1 hx).1
  rw [List.getElem?_map,List.getElem?_range hk] at hv
  obtain rfl:=Option.some.inj hv
  rw [rW es hs k hk] at hx
  exact hr _ _ _ hx
 ·intro c hc'
  obtain ⟨k,hk,rfl⟩:=List.mem_map.1 hc'
  have hk:k < es.length * sz:=by simpa using hk
  have hx:es.flatten[k]? = some (es.flatten[k]'(by omega)):=List.getElem?_eq_getElem (by omega)
  rw [rW es hs k hk] at hx
  exact h1 _ _ _ hx
 ·intro k v hv
  have hk:k < es.length * sz:=by have:=(List.getElem?_eq_some_iff.1 hv).1;simpa using this
  rw [List.getElem?_map,List.getElem?_range hk] at hv
  obtain rfl:=Option.some.inj hv
  have hx:es.flatten[k]? = some (es.flatten[k]'(by omega)):=List.getElem?_eq_getElem (by omega)
  rw [rW es hs k hk] at hx
  rw [kD,← hc _ _ _ hx]
  congr 2
  have:=Nat.div_add_mod k sz
  rw [Nat.mul_comm] at this;omega
theorem xB {w w':World} (h:w'.heap = w.heap) (a:Addr):w'.cell? a = w.cell? a:=by simp only [World.cell?,h]
def aUB (P:Program) (E:Env) (h:aA) (w:World) (sz:Nat) (ys:List (List aC)) (v:Value):Prop :=
  ∃ news:List Value,(∀ e∈ys,e.length = sz)∧(∀ w',(Builtin.lenOf v).run P w' = .ok ys.length w')∧(∀ w',w'.heap = w.heap→(Builtin.firstCells sz ys.length v).run P w' = .ok news.toArray w') ∧
   cX E h w ys.flatten news∧(∀ c∈news,c.oneCell' = true)∧ys.length≤maxLen
theorem aB8 {P:Program} {E:Env} {h:aA} {w:World} (R:Rel E h w) {sz:Nat} {x:aC} {v:Value} {ys:List (List aC)} (hx:qY h sz x = some ys) (r:eC E h w x v):aUB P E h w sz ys v:=by
 unfold qY at hx
 have slices:∀ (b o len cap:Nat) (cv:Nat→Nat→Value),v = .slice (some ⟨b,o,none⟩) len cap→len = ys.length→len≤maxLen→(∀ e∈ys,e.length = sz)→(∀ i j x,iE ys i j = some x→w.cell? ⟨b,o + i * sz + j,none⟩ = some (cv i j)) →
   (∀ i j x,iE ys i j = some x→(cv i j).oneCell' = true)→(∀ i j x,iE ys i j = some x→eC E h w x (cv i j))→aUB P E h w sz ys v:=by
  intro b o len cap cv hv hl hmax hs hc h1 hr
  obtain ⟨vs,hL,hone,hcell⟩:=aC8 hs hc h1 hr
  refine ⟨vs,hs,fun w'=>by rw [hv,← hl];simp [Builtin.lenOf],fun w' hw=>?_,hL,hone,by omega⟩
  rw [hv]
  refine run_firstCells_some w' sz ys.length _ _ _ vs (by rw [← hL.length,length_flatten ys hs]) fun j u hu=>?_
  rw [xB hw];exact hcell j u hu
 split at hx
 ·rename_i sz' ys' t
  split at hx
  ·rename_i e
   subst e
   obtain rfl:=Option.some.inj hx
   cases r with
   |w7 _ _ a cap ht hmax ha =>
    refine ⟨[],by simp,fun w'=>by simp [Builtin.lenOf],fun w' hw=>?_,trivial,by simp,by simp⟩
    cases a with
    |none=>simp [Builtin.firstCells]
    |some a=>simp [Builtin.firstCells,loadCells,loadCellsFrom]
   |sl _ _ _ b o cap cv hi hcap hmax ht hs hc h1 hr=>exact slices b o _ _ cv rfl rfl (by omega) hs hc h1 hr
  ·simp at hx
 ·obtain rfl:=Option.some.inj hx
  cases r
  exact ⟨[],by simp,fun w'=>by simp [Builtin.lenOf],fun w' hw=>by simp [Builtin.firstCells],trivial,by simp,by simp⟩
 ·rename_i s
  split at hx
  ·rename_i e
   subst e
   obtain rfl:=Option.some.inj hx
   cases r with
   |str _ hl =>
    refine ⟨s.map fun c=>.int .u8 c.toNat,by simp,fun w'=>by simp [Builtin.lenOf,ByteArray.size],fun w' hw=>?_,?_,by simp [Value.oneCell'],by simpa using hl⟩
    ·simp only [Builtin.firstCells,List.length_map]
     have:(ByteArray.mk s.toArray).extract 0 s.length = ⟨s.toArray⟩:=by
      apply ByteArray.ext
      rw [ByteArray.data_extract];simp
     rw [this];simp
    ·refine cX.mk (by rw [length_flatten (sz:=1) _ (by simp)];simp) ?_
     have:∀ (s:List UInt8),(s.map fun c=>[aC.int .u8 c.toNat]).flatten = s.map fun c=>aC.int .u8 c.toNat:=fun s=>by
      induction s with
      |nil=>rfl
      |cons c s ih=>simp [ih]
     rw [this]
     intro i x v hx hv
     rw [List.getElem?_map] at hx hv
     obtain ⟨c,hc,rfl⟩:=Option.map_eq_some_iff.1 hx
     rw [hc] at hv
     obtain rfl:=Option.some.inj hv
     exact .int _ _
  ·simp at hx
 ·rename_i m sz' j k
  split at hx
  ·rename_i sz'' es hm
   split at hx
   ·rename_i e
    obtain ⟨rfl,rfl,hjk⟩:=e
    have hpl:=wU hx
    have hlen:ys.length = k:=by have:=congrArg List.length hpl;simp at this;omega
    cases r with
    |os0 _ _ hd hl =>
     have:ys = []:=List.length_eq_zero_iff.1 hlen
     subst this
     exact ⟨[],by simp,fun w'=>by simp [Builtin.lenOf],fun w' hw=>by simp [Builtin.firstCells],trivial,by simp,by simp⟩
    |os _ _ _ _ b o cap t mm hd hl hlc hmax hsh hm' =>
     obtain ⟨b',o',hl',hbS,hs,cs,ct,cv,T,hh,hmm,hT,hD,hc,hrr⟩:=uZ R hm (.inr ⟨_,hl⟩)
     rw [hl] at hl'
     obtain ⟨rfl,rfl⟩:=Prod.mk.inj (Option.some.inj hl')
     have hat:∀ i' j' y,iE ys i' j' = some y→iE es (j + i') j' = some (.v y):=by
      intro i' j' y hy
      have h1:iE (ys.map (List.map Cell.v)) i' j' = some (.v y):=by rw [nF,hy];rfl
      rw [← hpl] at h1
      obtain ⟨e,h2,h3⟩:=jI h1
      have hlt:i' < k:=by have:=(List.getElem?_eq_some_iff.1 h2).1;simp at this;omega
      rw [List.getElem?_take_of_lt hlt,List.getElem?_drop] at h2
      simp [iE,h2,h3]
     refine slices b _ k cap (fun i' j'=>cv (j + i') j') rfl hlen.symm (by omega) ?_ ?_ ?_ ?_
     ·intro e he
      have:e.map Cell.v∈(es.drop j).take k:=by rw [hpl];exact List.mem_map.2 ⟨e,he,rfl⟩
      have:=hs _ (List.mem_of_mem_drop (List.mem_of_mem_take this))
      simpa using this
     ·intro i' j' y hy
      have:=hc _ _ _ (hat i' j' y hy)
      simp only [World.cell?,hh,Option.isSome_none,Bool.false_eq_true,if_false]
      rw [← this];congr 1;rw [Nat.add_mul];omega
     ·intro i' j' y hy;exact (hrr _ _ _ (hat i' j' y hy)).one
     ·intro i' j' y hy
      have:=hrr _ _ _ (hat i' j' y hy)
      generalize cv (j + i') j' = c at this
      generalize T (j + i') j' = S at this
      cases this with
      |v _ _ _ _ hx=>exact hx
   ·simp at hx
  ·simp at hx
 ·simp at hx
def a3M (P:Program) (t:TypeId):Option TyD:=(gL P t).map (·.d)
def u3 (P:Program) (t:Option TypeId):Bool :=
 match t with
 |some t=>match a3M P t with
  |some (.slice _)=>true
  |some .str=>true
  | _=>false
 |none=>false
theorem aAB {P:Program} {w:World} {t:Option TypeId} (h:u3 P t = true) :
  ∃ t',t = some t'∧((∃ e,(underlying t').run P w = .ok (.slice e) w)∨(underlying t').run P w = .ok .string w):=by
 unfold u3 at h
 cases t with
 |none=>simp at h
 |some t =>
  refine ⟨t,rfl,?_⟩
  simp only [a3M] at h
  cases hr:gL P t with
  |none=>simp [hr] at h
  |some r =>
   simp only [hr,Option.map_some] at h
   obtain ⟨u,hu,hud,hrun⟩:=bP (w:=w) hr
   split at h
   ·rename_i e he
    obtain rfl:=fZ (hud.trans (Option.some.inj he))
    exact .inl ⟨e,hrun⟩
   ·rename_i he
    obtain rfl:=x8 (hud.trans (Option.some.inj he))
    exact .inr hrun
   ·simp at h
section
variable {P:Program} {o:Oper} {ρ:Operand→aC} {h:aA} {K:aC→aA→Prop}
theorem u4 {w:World} {t et:TypeId} {t1:Option TypeId} {r re:jU} (ht:gL P t = some r) (hd:r.d = .slice et) (he:gL P et = some re) (h1:u3 P t1 = true) (ats:Array TypeId) (a0:ats[0]? = some t) (a1:ats[1]? = t1) (ty:TypeId)
  {base:Option Addr} {sLen sCap n:Nat} {v:Value} {olds news:List Value} {z:Value} (hz:(∀ w,(zeroValue et).run P w = .ok z w)) (hlen:∀ w',(Builtin.lenOf v).run P w' = .ok n w')
  (hold:∀ w',w'.heap = w.heap→(Builtin.firstCells re.sz sLen (.slice base sLen sCap)).run P w' = .ok olds.toArray w') (hnew:∀ w',w'.heap = w.heap→(Builtin.firstCells re.sz n v).run P w' = .ok news.toArray w')
  (hg:sCap < sLen + n) (hb:(sLen + n) * re.bytes≤140737488355328) (hmax:sLen + n≤maxLen) :
  ∃ cap d,sLen + n≤cap∧cap≤maxLen∧(Builtin.append_ ats ty #[.slice base sLen sCap,v]).run P w =
   .ok (.slice (some ⟨w.heap.size,0,none⟩) (sLen + n) cap) (pY w (.cells ((olds ++ news).toArray ++ Builtin.zeroCells z.cells (cap - (sLen + n))) et) d):=by
 obtain ⟨u,hu,hud,hrun⟩:=bP (w:=w) ht
 obtain rfl:=fZ (hud.trans hd)
 have hsize:∀ w,(sizeOf et).run P w = .ok re.sz w:=fun w=>fT he
 obtain ⟨i,u',hi,hu',hsz,hby,_⟩:=oM he
 obtain ⟨t',rfl,hu1⟩:=aAB (w:=w) h1
 have hti:∀ w,(typeInfo et).run P w = .ok i w:=fun w=>by simp [typeInfo,hi]
 have hge:=grownCap_ge w (sLen + n) sCap et
 have hcm:=grownCap_le_maxLen w (sLen + n) sCap et hmax
 refine ⟨grownCap w (sLen + n) sCap et,w.drawn + 1,hge,hcm,?_⟩
 have hml:maxLen = 9223372036854775807:=rfl
 have n1:¬ (sLen + n≤sCap):=by omega
 have n3:¬ (281474976710656 < Builtin.nextslicecap (sLen + n) sCap * i.bytes):=by
  have:=growslice_fits hg (by rw [← hby];exact hb:(sLen + n) * i.bytes≤140737488355328)
  omega
 have n2:¬ (9223372036854775807 < ((sLen:Int) + (n:Int))):=by omega
 have hw:(w.drew).heap = w.heap:=rfl
 have hassoc:∀ zc:Array Value,olds.toArray ++ (news.toArray ++ zc) = (olds ++ news).toArray ++ zc:=fun zc=>by apply Array.ext';simp
 rcases hu1 with ⟨e,hu1⟩ | hu1
 ·simp [Builtin.append_,a0,a1,hrun,hsize,hu1,hlen,n1,n2,n3,hti,Question.forced,grownCap,hold _ hw,hnew _ hw,hz,newRow,hassoc]
  rfl
 ·simp [Builtin.append_,a0,a1,hrun,hsize,hu1,hlen,n1,n2,n3,hti,Question.forced,grownCap,hold _ hw,hnew _ hw,hz,newRow,hassoc]
  rfl
end
section
variable {P:Program} {o:Oper} {ρ:Operand→aC} {h:aA} {K:aC→aA→Prop}
theorem mU {ρc:Operand→Value} {w:World} (x y:Operand) (ats:Array TypeId) (ho:o.op = .call { callee:=.builtin .append,args:=#[x,y],argTypes:=ats }) :
  (execOp ρc o).run P w = ((Builtin.append_ ats o.type #[ρc x,ρc y]).run P w).andThen fun v w'=>.ok (.value v) w':=by
 simp [execOp,ho,resolve,invoke,builtin]
def yE (sz:Nat):aC→Option (List (List aC))
 | .bO=>some []
 | .sl sz' es true=>if sz' = sz then some es else none
 | _=>none
theorem xC (z:Array Value) (n:Nat):(Builtin.zeroCells z n).size = n * z.size:=by simp [Builtin.zeroCells]
theorem aC9 (x y:Operand) (ats:Array TypeId) (t et:TypeId) (r re:jU) (olds ys:List (List aC)) (ho:o.op = .call { callee:=.builtin .append,args:=#[x,y],argTypes:=ats })
  (a0:ats[0]? = some t) (ht:gL P t = some r) (hd:r.d = .slice et) (he:gL P et = some re) (hz:re.zero.length = re.sz) (hz0:0 < re.sz) (h1:u3 P ats[1]? = true)
  (hx:yE re.sz (ρ x) = some olds) (hy:qY h re.sz (ρ y) = some ys) (hne:ys≠[]) (hb:(olds.length + ys.length) * re.bytes≤140737488355328) (hmax:olds.length + ys.length≤9223372036854775807)
  (hk:∀ n,h n = none→K (.os n re.sz 0 (olds.length + ys.length)) (a7 h n (.row re.sz ((olds ++ ys).map (List.map .v))))):mA P o ρ h K:=by
 have hml:maxLen = 9223372036854775807:=rfl
 have aUA:0 < ys.length:=List.length_pos_iff.2 hne
 have dst:∀ E w v,eC E h w (ρ x) v→∃ (base:Option Addr) (cap:Nat) (vs:List Value),v = .slice base olds.length cap∧cap < olds.length + ys.length∧(∀ e∈olds,e.length = re.sz)∧cX E h w olds.flatten vs∧(∀ c∈vs,c.oneCell' = true) ∧
   ∀ w',w'.heap = w.heap→(Builtin.firstCells re.sz olds.length (.slice base olds.length cap)).run P w' = .ok vs.toArray w':=by
  intro E w v hr
  unfold yE at hx
  split at hx
  ·rename_i hxv
   obtain rfl:=Option.some.inj hx
   rw [hxv] at hr
   cases hr
   exact ⟨none,0,[],rfl,by simpa using aUA,by simp,trivial,by simp,fun w' _=>by simp [Builtin.firstCells]⟩
  ·rename_i sz' es hxv
   split at hx
   ·rename_i e
    obtain rfl:=Option.some.inj hx
    rw [hxv] at hr
    cases hr with
    |w7 _ _ a cap htt hm ha =>
     have:=htt rfl
     refine ⟨_,_,[],rfl,by simp;omega,by simp,trivial,by simp,fun w' _=>?_⟩
     cases a <;> simp [Builtin.firstCells,loadCells,loadCellsFrom]
    |sl _ _ _ b o' cap cv hI hcap hm htt hs hc hone hrr =>
     have:=htt rfl
     subst e
     obtain ⟨vs,hL,zW,hcell⟩:=aC8 hs hc hone hrr
     refine ⟨_,_,vs,rfl,by omega,hs,hL,zW,fun w' hw=>?_⟩
     refine run_firstCells_some w' _ _ _ _ _ vs (by rw [← hL.length,length_flatten _ hs]) fun j u hu=>?_
     rw [xB hw];exact hcell j u hu
   ·simp at hx
  ·simp at hx

 intro E w ρc R hρ
 obtain ⟨base,cap,vs,hv,hcap,hso,hLo,zW,hfo⟩:=dst E w _ (hρ x)
 obtain ⟨news,hsn,hlen,hfn,hLn,uS,_⟩:=aB8 (P:=P) R hy (hρ y)
 have hs:∀ e∈olds ++ ys,e.length = re.sz:=fun e he=>by
  rcases List.mem_append.1 he with h | h
  ·exact hso e h
  ·exact hsn e h
 refine rL re.sz (olds.length + ys.length) (olds ++ ys) hs hk ?_ E w ρc R hρ
 intro E w ρc R hρ
 obtain ⟨base,cap,vs,hv,hcap,hso,hLo,zW,hfo⟩:=dst E w _ (hρ x)
 obtain ⟨news,hsn,hlen,hfn,hLn,uS,_⟩:=aB8 (P:=P) R hy (hρ y)
 obtain ⟨z,hzr,hzz⟩:=mS (w:=w) he (by intro e;rw [e] at hz;simp at hz;omega)
 have hzr':∀ w,(zeroValue et).run P w = .ok z w:=by
  intro w'
  obtain ⟨z',hzr',hzz'⟩:=mS (w:=w') he (by intro e;rw [e] at hz;simp at hz;omega)
  have:z' = z:=by
   obtain ⟨i,u,hi,_⟩:=oM he
   simp only [zeroValue,typeInfo,Sem.run_bind,run_program,Result.andThen_ok,hi,Sem.run_pure] at hzr hzr'
   cases hiz:i.zero with
   |none=>simp [hiz] at hzr
   |some z0=>simp [hiz] at hzr hzr';rw [← hzr,← hzr']
  rw [← this];exact hzr'
 have hzs:z.cells.size = re.sz:=by have:=congrArg List.length hzz;simp [hz] at this;exact this
 obtain ⟨ncap,d,g1,g2,grun⟩:=u4 (w:=w) (t1:=ats[1]?) ht hd he h1 ats a0 rfl o.type (base:=base) (sLen:=olds.length) (sCap:=cap) (n:=ys.length) (v:=ρc y) (olds:=vs) (news:=news) (z:=z) hzr' hlen hfo hfn hcap hb (by omega)
 refine ⟨(vs ++ news).toArray ++ Builtin.zeroCells z.cells (ncap - (olds.length + ys.length)),et,d,ncap,vs ++ news,(Builtin.zeroCells z.cells (ncap - (olds.length + ys.length))).toList,?_,g1,g2,?_,by simp,by rw [List.flatten_append];exact hLo.append hLn,fun c hc=>?_⟩
 ·rw [mU x y ats ho,hv,grun];rfl
 ·have e1:=hLo.length
  have e2:=hLn.length
  rw [length_flatten _ hso] at e1
  rw [length_flatten _ hsn] at e2
  rw [Array.size_append,xC,hzs,List.size_toArray,List.length_append,← e1,← e2,← Nat.add_mul,← Nat.add_mul]
  have:olds.length + ys.length + (ncap - (olds.length + ys.length)) = ncap:=by omega
  rw [this];exact Nat.le_refl _
 ·rcases List.mem_append.1 hc with h | h
  ·exact zW c h
  ·exact uS c h
theorem aBX (x y:Operand) (ats:Array TypeId) (t et:TypeId) (r re:jU) (ho:o.op = .call { callee:=.builtin .append,args:=#[x,y],argTypes:=ats })
  (a0:ats[0]? = some t) (ht:gL P t = some r) (hd:r.d = .slice et) (he:gL P et = some re) (h1:u3 P ats[1]? = true)
  (hx:(yE re.sz (ρ x)).isSome = true) (hy:qY h re.sz (ρ y) = some []) (hk:K (ρ x) h):mA P o ρ h K :=
 bS hk fun E w ρc R hρ=>by
  obtain ⟨news,hsn,hlen,hfn,hLn,uS,_⟩:=aB8 (P:=P) R hy (hρ y)
  have hnil:news = []:=by have:=hLn.length;simp at this;exact List.length_eq_zero_iff.1 this.symm
  subst hnil
  obtain ⟨u,hu,hud,hrun⟩:=bP (w:=w) ht
  obtain rfl:=fZ (hud.trans hd)
  have hsize:∀ w,(sizeOf et).run P w = .ok re.sz w:=fun w=>fT he
  have dst:∃ (base:Option Addr) (n cap:Nat),ρc x = .slice base n cap∧n≤cap:=by
   have hr:=hρ x
   unfold yE at hx
   split at hx
   ·rename_i e;rw [e] at hr;generalize ρc x = v at hr ⊢;cases hr;exact ⟨none,0,0,rfl,Nat.le_refl _⟩
   ·rename_i e;rw [e] at hr;generalize ρc x = v at hr ⊢
    cases hr with
    |w7=>exact ⟨_,_,_,rfl,Nat.zero_le _⟩
    |sl=>exact ⟨_,_,_,rfl,by assumption⟩
   ·cases hx
  obtain ⟨base,n,cap,hv,hc⟩:=dst
  obtain ⟨t',ht',hu1⟩:=aAB (w:=w) h1
  refine ⟨ρc x,?_,hρ x⟩
  have hfn':=hfn w rfl
  have hlen':=hlen w
  simp only [List.length_nil] at hfn' hlen'
  rw [mU x y ats ho,hv]
  rcases hu1 with ⟨e,hu1⟩ | hu1
  ·cases base <;> simp [Builtin.append_,a0,ht',hrun,hsize,hu1,hlen',hc,hfn',storeCells]
  ·cases base <;> simp [Builtin.append_,a0,ht',hrun,hsize,hu1,hlen',hc,hfn',storeCells]
end
def Env.mv (E:Env) (b:Nat) (l:Option (Nat × Nat)) (S:Nat→Prop):Env where
 loc:=fun m=>if m = b then l else E.loc m
 fp:=fun m c=>if m = b then S c else E.fp m c
 used:=fun m=>m = b∨E.used m
theorem Ev.mv {E:Env} {h:aA} {w w':World} (R:Rel E h w) {n:Nat} {x:bH} (hn:h n = some x) (hx:x.live) {b:Nat} (hb:¬ E.used b) (l:Option (Nat × Nat)) (S:Nat→Prop) (x':bH)
  (hS:∀ c,S c→E.fp n c∨w.heap.size≤c) (hsize:w.heap.size≤w'.heap.size) (hheap:∀ c,c < w.heap.size→¬ E.fp n c→w'.heap[c]? = w.heap[c]?) (hsh:∀ c,c < w.heap.size→w'.shape? c = w.shape? c) (hos:w'.os = w.os) (hout:w'.output = w.output) :
  Ev E h w (E.mv b l S) (a7 (a7 h n .gone) b x') w':=by
 have hnb:n≠b:=fun e=>hb (e ▸ R.dom n (by simp [hn]))
 refine ⟨hsize,fun c hc=>⟨hheap c hc.1 (hc.2 n x hn hx),⟨by have:=hc.1;omega,?_⟩⟩,hsh,fun m hm=>?_,hos,hout⟩
 ·intro m y hm hy hf
  by_cases e:m = b
  ·subst e
   have hf:S c:=by simpa [Env.mv] using hf
   rcases hS c hf with h1 | h1
   ·exact hc.2 n x hn hx h1
   ·have:=hc.1;omega
  ·rw [aF _ _ _ _ e] at hm
   have hf:E.fp m c:=by simpa [Env.mv,e] using hf
   by_cases e2:m = n
   ·subst e2;rw [aH] at hm;obtain rfl:=Option.some.inj hm;exact hy.elim
   ·rw [aF _ _ _ _ e2] at hm;exact hc.2 m y hm hy hf
 ·have e:m≠b:=fun e=>hb (e ▸ hm)
  exact ⟨by simp [Env.mv,e],.inr hm⟩
theorem Rel.mv {E:Env} {h:aA} {w w':World} (R:Rel E h w) {n:Nat} {x:bH} (hn:h n = some x) (hx:x.live) {b:Nat} (hb:¬ E.used b) (l:Option (Nat × Nat)) (S:Nat→Prop) (x':bH)
  (hS:∀ c,S c→E.fp n c∨w.heap.size≤c) (hS':∀ c,S c→c < w'.heap.size) (hsize:w.heap.size≤w'.heap.size) (hheap:∀ c,c < w.heap.size→¬ E.fp n c→w'.heap[c]? = w.heap[c]?) (hsh:∀ c,c < w.heap.size→w'.shape? c = w.shape? c) (hos:w'.os = w.os) (hout:w'.output = w.output)
  (hO:x6 (E.mv b l S) (a7 (a7 h n .gone) b x') w' b x'):Rel (E.mv b l S) (a7 (a7 h n .gone) b x') w':=by
 have ev:=Ev.mv R hn hx hb l S x' hS hsize hheap hsh hos hout
 have hnb:n≠b:=fun e=>hb (e ▸ R.dom n (by simp [hn]))
 have hcase:∀ m y,a7 (a7 h n .gone) b x' m = some y→y.live→(m = b∧y = x')∨(m≠b∧m≠n∧h m = some y):=by
  intro m y hm hy
  by_cases e:m = b
  ·subst e;rw [aH] at hm;exact .inl ⟨rfl,(Option.some.inj hm).symm⟩
  ·rw [aF _ _ _ _ e] at hm
   by_cases e2:m = n
   ·subst e2;rw [aH] at hm;obtain rfl:=Option.some.inj hm;exact hy.elim
   ·rw [aF _ _ _ _ e2] at hm;exact .inr ⟨e,e2,hm⟩
 refine ⟨?_,?_,?_,?_,?_,R.laid.ev ev⟩
 ·obtain ⟨N,hN⟩:=R.fin
  exact ⟨max N (b + 1), fun m hm => by rintro (e | e); · omega
                                       · exact hN m (by omega) e⟩
 ·intro m hm
  by_cases e:m = b
  ·exact .inl e
  ·rw [aF _ _ _ _ e] at hm
   by_cases e2:m = n
   ·subst e2;exact .inr (R.dom m (by simp [hn]))
   ·rw [aF _ _ _ _ e2] at hm;exact .inr (R.dom m hm)
 ·intro m y c hm hy hf
  rcases hcase m y hm hy with ⟨rfl,rfl⟩ | ⟨e,e2,hm'⟩
  ·exact hS' c (by simpa [Env.mv] using hf)
  ·have:=R.lt m y c hm' hy (by simpa [Env.mv,e] using hf);omega
 ·intro m y m' y' c hm hy hm' hy' hf hf'
  rcases hcase m y hm hy with ⟨rfl,rfl⟩ | ⟨e,e2,h1⟩ <;> rcases hcase m' y' hm' hy' with ⟨rfl,rfl⟩ | ⟨e',e2',h1'⟩
  ·rfl
  ·have hf:S c:=by simpa [Env.mv] using hf
   have hf':E.fp m' c:=by simpa [Env.mv,e'] using hf'
   rcases hS c hf with h2 | h2
   ·exact absurd (R.apart n x m' y' c hn hx h1' hy' h2 hf').symm e2'
   ·have:=R.lt m' y' c h1' hy' hf';omega
  ·have hf':S c:=by simpa [Env.mv] using hf'
   have hf:E.fp m c:=by simpa [Env.mv,e] using hf
   rcases hS c hf' with h2 | h2
   ·exact absurd (R.apart n x m y c hn hx h1 hy h2 hf).symm e2
   ·have:=R.lt m y c h1 hy hf;omega
  ·exact R.apart m y m' y' c h1 hy h1' hy' (by simpa [Env.mv,e] using hf) (by simpa [Env.mv,e'] using hf')
 ·intro m y hm
  by_cases e:m = b
  ·subst e;rw [aH] at hm;obtain rfl:=Option.some.inj hm;exact hO
  ·rw [aF _ _ _ _ e] at hm
   by_cases e2:m = n
   ·subst e2;rw [aH] at hm;obtain rfl:=Option.some.inj hm;trivial
   ·rw [aF _ _ _ _ e2] at hm
    refine (R.obj m y hm).ev ev (by simp [Env.mv,e]) (by funext c;simp [Env.mv,e]) fun c hy hc=>hheap c (R.lt m y c hm hy hc) fun hf=>e2 (R.apart m y n x c hm hy hn hx hc hf)
theorem aDA {α:Type} {a b:List (List α)} {i j:Nat} {x:α} (h:iE (a ++ b) i j = some x):(i < a.length∧iE a i j = some x)∨(a.length≤i∧iE b (i - a.length) j = some x):=by
 unfold iE at *
 by_cases hi:i < a.length
 ·rw [List.getElem?_append_left hi] at h;exact .inl ⟨hi,h⟩
 ·rw [List.getElem?_append_right (by omega)] at h;exact .inr ⟨by omega,h⟩
theorem aGO {α:Type} {es:List (List α)} {i len k j:Nat} {x:α} (h:iE ((es.drop i).take len) k j = some x):k < len∧iE es (i + k) j = some x:=by
 obtain ⟨e,h1,h2⟩:=jI h
 have hlt:k < len:=by have:=(List.getElem?_eq_some_iff.1 h1).1;simp at this;omega
 rw [List.getElem?_take_of_lt hlt,List.getElem?_drop] at h1
 exact ⟨hlt,by simp [iE,h1,h2]⟩
theorem aKI {ys:List (List aC)} {i j:Nat} {x:Cell} (h:iE (ys.map (List.map Cell.v)) i j = some x):∃ y,iE ys i j = some y∧x = .v y:=by
 rw [nF] at h
 obtain ⟨y,hy,rfl⟩:=Option.map_eq_some_iff.1 h
 exact ⟨y,hy,rfl⟩
theorem aP0 {E:Env} {h:aA} {w:World} {ys:List (List aC)} {sz:Nat} (hs:∀ e∈ys,e.length = sz) {vs:List Value} (hL:cX E h w ys.flatten vs) (h1:∀ c∈vs,c.oneCell' = true) {i j:Nat} {y:aC} (hy:iE ys i j = some y) :
  ∃ c,vs[i * sz + j]? = some c∧eC E h w y c∧c.oneCell' = true:=by
 have hlt:=qX hs hy
 have hlen:vs.length = ys.length * sz:=by rw [← hL.length,length_flatten ys hs]
 have hv:vs[i * sz + j]? = some (vs[i * sz + j]'(by omega)):=List.getElem?_eq_getElem (by omega)
 exact ⟨_,hv,hL.get _ _ _ (qW ys hs i j y hy) hv,h1 _ (List.getElem_mem _)⟩
theorem sV {E E':Env} {h h':aA} {w w':World} (ev:Ev E h w E' h' w') {b₀ sz i len:Nat} {es:List (List Cell)} {S:Nat→Prop} (hs:∀ e∈es,e.length = sz) {cv:Nat→Nat→Value} {T:Nat→Nat→Nat→Prop}
  (hT:∀ i j c,T i j c→S c∧c≠b₀) (hD:∀ i j i' j' c,T i j c→T i' j' c→i = i'∧j = j') (hrr:∀ i j x,iE es i j = some x→rJ E h w x (cv i j) (T i j)) (hle:i + len≤es.length)
  {ys:List (List aC)} (hsn:∀ e∈ys,e.length = sz) {news:List Value} (hLn:cX E h w ys.flatten news) (uS:∀ c∈news,c.oneCell' = true)
  {blk o:Nat} {S':Nat→Prop} {cs:Array Value} {ct:TypeId} (hb:S' blk) (hS':∀ c,S c→c≠b₀→S' c∧c≠blk) (hkeep:∀ c,S c→c≠b₀→w'.heap[c]? = w.heap[c]?) (hh:w'.heap[blk]? = some (.cells cs ct (0,0))) (hm:o + (len + ys.length) * sz≤cs.size)
  (hold:∀ k j x,k < len→iE es (i + k) j = some x→cs[o + k * sz + j]? = some (cv (i + k) j)) (hnew:∀ k,k < ys.length * sz→cs[o + len * sz + k]? = news[k]?) :
  aC2 E' h' w' blk o sz ((es.drop i).take len ++ ys.map (List.map .v)) S':=by
 have hlen:((es.drop i).take len).length = len:=by simp;omega
 have hnl:news.length = ys.length * sz:=by rw [← hLn.length,length_flatten ys hsn]
 refine ⟨hb,?_,cs,ct,fun k j=>if k < len then cv (i + k) j else (news[(k - len) * sz + j]?).getD undef,fun k j c=>k < len∧T (i + k) j c,hh,?_,?_,?_,?_,?_⟩
 ·intro e he
  rcases List.mem_append.1 he with h1 | h1
  ·exact hs e (List.mem_of_mem_drop (List.mem_of_mem_take h1))
  ·obtain ⟨e',he',rfl⟩:=List.mem_map.1 h1
   simpa using hsn e' he'
 ·simpa [hlen] using hm
 ·intro k j c ⟨_,hc⟩
  obtain ⟨h1,h2⟩:=hT _ _ c hc
  exact hS' c h1 h2
 ·intro k j k' j' c ⟨_,hc⟩ ⟨_,hc'⟩
  have:=hD _ _ _ _ c hc hc'
  exact ⟨by omega,this.2⟩
 ·intro k j x hx
  rcases aDA hx with ⟨h1,h2⟩ | ⟨h1,h2⟩
  ·obtain ⟨h3,h4⟩:=aGO h2
   simp only [if_pos h3];exact hold k j x h3 h4
  ·rw [hlen] at h1 h2
   obtain ⟨y,hy,rfl⟩:=aKI h2
   simp only [if_neg (show ¬ k < len by omega)]
   obtain ⟨c,hc,_,_⟩:=aP0 hsn hLn uS hy
   have hlt:=qX hsn hy
   have:=hnew ((k - len) * sz + j) hlt
   rw [hc] at this ⊢
   rw [Option.getD_some,← this]
   congr 1
   have:k * sz = len * sz + (k - len) * sz:=by rw [← Nat.add_mul];congr 1;omega
   omega
 ·intro k j x hx
  rcases aDA hx with ⟨h1,h2⟩ | ⟨h1,h2⟩
  ·obtain ⟨h3,h4⟩:=aGO h2
   simp only [if_pos h3]
   refine ((hrr _ _ _ h4).ev ev fun c hc=>?_).mono fun c hc=>⟨h3,hc⟩
   obtain ⟨h5,h6⟩:=hT _ _ c hc
   exact hkeep c h5 h6
  ·rw [hlen] at h1 h2
   obtain ⟨y,hy,rfl⟩:=aKI h2
   simp only [if_neg (show ¬ k < len by omega)]
   obtain ⟨c,hc,hr,hone⟩:=aP0 hsn hLn uS hy
   rw [hc]
   exact .v _ _ _ hone (hr.ev ev)
section
variable {P:Program} {o:Oper} {ρ:Operand→aC} {h:aA} {K:aC→aA→Prop}
theorem aF3 (x y:Operand) (ats:Array TypeId) (t et:TypeId) (r re:jU) (n sz i len:Nat) (es:List (List Cell)) (ys:List (List aC)) (ho:o.op = .call { callee:=.builtin .append,args:=#[x,y],argTypes:=ats })
  (a0:ats[0]? = some t) (ht:gL P t = some r) (hd:r.d = .slice et) (he:gL P et = some re) (hz:re.zero.length = re.sz) (hz0:0 < re.sz) (h1:u3 P ats[1]? = true)
  (hx:ρ x = .os n sz i len) (hsz:re.sz = sz) (hn:h n = some (.row sz es)) (hle:i + len≤es.length) (hy:qY h sz (ρ y) = some ys) (hb:(len + ys.length) * re.bytes≤140737488355328) (hmax:len + ys.length≤9223372036854775807)
  (hk:∀ b,h b = none→K (.os b sz 0 (len + ys.length)) (a7 (a7 h n .gone) b (.row sz ((es.drop i).take len ++ ys.map (List.map .v))))):mA P o ρ h K:=by
 have hml:maxLen = 9223372036854775807:=rfl
 subst hsz
 intro E w ρc R hρ
 obtain ⟨news,hsn,hlen,hfn,hLn,uS,_⟩:=aB8 (P:=P) R hy (hρ y)
 have hnl:news.length = ys.length * re.sz:=by rw [← hLn.length,length_flatten ys hsn]
 obtain ⟨b,hbu⟩:=R.fresh
 have hK:=hk b (R.none hbu)
 obtain ⟨u,hu,hud,hrun⟩:=bP (w:=w) ht
 obtain rfl:=fZ (hud.trans hd)
 have hsize:∀ w,(sizeOf et).run P w = .ok re.sz w:=fun w=>fT he
 obtain ⟨t',ht',hu1⟩:=aAB (w:=w) h1
 obtain ⟨z,hzr,hzz⟩:=mS (w:=w) he (by intro e;rw [e] at hz;simp at hz;omega)
 have hzr':∀ w,(zeroValue et).run P w = .ok z w:=by
  intro w'
  obtain ⟨z',hzr',hzz'⟩:=mS (w:=w') he (by intro e;rw [e] at hz;simp at hz;omega)
  have:z' = z:=by
   obtain ⟨i,u,hi,_⟩:=oM he
   simp only [zeroValue,typeInfo,Sem.run_bind,run_program,Result.andThen_ok,hi,Sem.run_pure] at hzr hzr'
   cases hiz:i.zero with
   |none=>simp [hiz] at hzr
   |some z0=>simp [hiz] at hzr hzr';rw [← hzr,← hzr']
  rw [← this];exact hzr'
 have hzs:z.cells.size = re.sz:=by have:=congrArg List.length hzz;simp [hz] at this;exact this
 have hr:=hρ x
 rw [hx] at hr
 cases hv:ρc x <;> rw [hv] at hr <;> try (cases hr;done)
 cases hr with
 |os0 _ _ hd0 hl0 =>
  have hes:es = []:=by
   rcases R.obj n _ hn with ⟨b0,o0,h0,_⟩ | ⟨h0,_⟩
   ·rw [hl0] at h0;simp at h0
   ·exact h0
  subst hes
  by_cases hys:ys = []
  ·subst hys
   have hnn:news = []:=List.length_eq_zero_iff.1 (by simpa using hnl)
   have hrunA:(execOp ρc o).run P w = .ok (.value (.slice none 0 0)) w:=by
    rw [mU x y ats ho,hv]
    have eM:=hfn w rfl
    have hl0:=hlen w
    simp only [List.length_nil] at eM hl0
    rcases hu1 with ⟨e,hu1⟩ | hu1 <;> simp [Builtin.append_,a0,ht',hrun,hsize,hu1,hl0,eM,storeCells]
   have evm:=Ev.mv R hn trivial hbu none (fun _=>False) (.row re.sz []) (fun _ hf=>hf.elim) (Nat.le_refl _) (fun _ _ _=>rfl) (fun _ _=>rfl) rfl rfl
   have Rm:=Rel.mv R hn trivial hbu none (fun _=>False) (.row re.sz []) (fun _ hf=>hf.elim) (fun _ hf=>hf.elim) (Nat.le_refl _) (fun _ _ _=>rfl) (fun _ _=>rfl) rfl rfl (.inr ⟨rfl,by simp [Env.mv]⟩)
   refine .hU hrunA ⟨_,_,E.mv b none (fun _=>False),hK,?_,?_,?_⟩
   ·exact evm
   ·exact Rm
   ·exact .os0 b re.sz (.inl rfl) (by simp [Env.mv])
  ·have hpos:0 < ys.length:=List.length_pos_iff.2 hys
   obtain ⟨ncap,d,g1,g2,grun⟩:=u4 (w:=w) (t1:=ats[1]?) ht hd he h1 ats a0 rfl o.type (base:=none) (sLen:=0) (sCap:=0) (n:=ys.length) (v:=ρc y) (olds:=[]) (news:=news) (z:=z) hzr' hlen
    (fun w' _=>by simp [Builtin.firstCells]) hfn (by omega) (by simpa using hb) (by omega)
   have hrunA:(execOp ρc o).run P w = .ok (.value (.slice (some ⟨w.heap.size,0,none⟩) (0 + ys.length) ncap)) (pY w (.cells (([] ++ news).toArray ++ Builtin.zeroCells z.cells (ncap - (0 + ys.length))) et) d):=by
    rw [mU x y ats ho,hv,grun];rfl
   have hcs:(([] ++ news).toArray ++ Builtin.zeroCells z.cells (ncap - (0 + ys.length))).size = ncap * re.sz:=by
    rw [Array.size_append,xC,hzs,List.size_toArray,List.length_append,hnl,List.length_nil,Nat.zero_add,← Nat.add_mul];congr 1;omega
   have evm:=Ev.mv (w':=pY w (.cells (([] ++ news).toArray ++ Builtin.zeroCells z.cells (ncap - (0 + ys.length))) et) d) R hn trivial hbu (some (w.heap.size,0)) (fun c=>c = w.heap.size) (.row re.sz ((([]:List (List Cell)).drop 0).take 0 ++ ys.map (List.map .v))) (fun c hc=>.inr (by omega)) (by rw [jK];omega)
    (fun c hc _=>lJ _ _ _ c hc) (fun c hc=>by simp only [World.shape?,lJ _ _ _ c hc]) rfl rfl
   have Rm:=Rel.mv (w':=pY w (.cells (([] ++ news).toArray ++ Builtin.zeroCells z.cells (ncap - (0 + ys.length))) et) d) R hn trivial hbu (some (w.heap.size,0)) (fun c=>c = w.heap.size) (.row re.sz ((([]:List (List Cell)).drop 0).take 0 ++ ys.map (List.map .v))) (fun c hc=>.inr (by omega)) (fun c hc=>by rw [jK];omega) (by rw [jK];omega)
    (fun c hc _=>lJ _ _ _ c hc) (fun c hc=>by simp only [World.shape?,lJ _ _ _ c hc]) rfl rfl
    (.inl ⟨w.heap.size,0,by simp [Env.mv],by
     have hfp:(E.mv b (some (w.heap.size,0)) (fun c=>c = w.heap.size)).fp b = (fun c=>c = w.heap.size):=by funext c;simp [Env.mv]
     rw [hfp]
     exact sV evm (b₀:=w.heap.size) (i:=0) (len:=0) (es:=[]) (S:=fun _=>False) (cv:=fun _ _=>undef) (T:=fun _ _ _=>False) (by simp) (fun _ _ _ hf=>hf.elim) (fun _ _ _ _ _ hf=>hf.elim) (fun i j x hx=>by simp [iE] at hx) (by simp) hsn hLn uS rfl (fun _ hf=>hf.elim) (fun _ hf=>hf.elim) (qV _ _ _)
      (by rw [hcs];simp only [Nat.zero_add];exact Nat.mul_le_mul_right _ (by omega)) (fun k j x hk=>by omega) (fun k hk=>by
       simp only [Nat.zero_add,Nat.zero_mul]
       rw [Array.getElem?_append_left (by simp;omega)];simp)⟩)
   refine .hU hrunA ⟨_,_,_,hK,evm,Rm,?_⟩
   have:=eC.os (E:=E.mv b (some (w.heap.size,0)) (fun c=>c = w.heap.size)) (h:=a7 (a7 h n .gone) b (.row re.sz ((([]:List (List Cell)).drop 0).take 0 ++ ys.map (List.map .v)))) (w:=pY w (.cells (([] ++ news).toArray ++ Builtin.zeroCells z.cells (ncap - (0 + ys.length))) et) d)
    b re.sz 0 (0 + ys.length) w.heap.size 0 ncap et (ncap * re.sz) (.inl rfl) (by simp [Env.mv]) (by omega) g2 (by simp only [World.shape?,qV,hcs]) (by simp)
   simpa using this
 |os _ _ _ _ b₀ o₀ cap' tt mm hd0 hl0 hlc hcm hsh hmm =>
  rename_i cap
  obtain ⟨b1,o1,hl1,hbS,hs,cur,ct,cv,T,hh,hmr,hT,hD,hc,hrr⟩:=uZ R hn (.inr ⟨_,hl0⟩)
  rw [hl0] at hl1
  obtain ⟨rfl,rfl⟩:=Prod.mk.inj (Option.some.inj hl1)
  have hcsz:cur.size = mm:=by rw [k8 hh] at hsh;exact (Prod.mk.inj (Option.some.inj hsh)).2
  have hb0:b₀ < w.heap.size:=aC4 hsh
  have hfplt:∀ c,E.fp n c→c < w.heap.size:=fun c hc=>R.lt n _ c hn trivial hc
  have hrow:∀ k j,k < len→j < re.sz→∃ y,iE es (i + k) j = some y:=fun k j hk hj=>by
   have hlt:i + k < es.length:=by omega
   have hel:=hs es[i + k] (List.getElem_mem hlt)
   exact ⟨es[i + k][j],by simp [iE,List.getElem?_eq_getElem hlt,List.getElem?_eq_getElem (show j < es[i + k].length by omega)]⟩
  by_cases hroom:len + ys.length≤cap
  ·
   have hbase:(⟨b₀,o₀ + i * re.sz,none⟩:Addr).add (len * re.sz) = ⟨b₀,o₀ + i * re.sz + len * re.sz,none⟩:=kD _ _ _
   have hspace:o₀ + i * re.sz + len * re.sz + news.length≤cur.size:=by
    have:o₀ + (i + (len + ys.length)) * re.sz≤o₀ + (i + cap) * re.sz:=by
     have:=Nat.mul_le_mul_right re.sz (show i + (len + ys.length)≤i + cap by omega)
     omega
    rw [hnl];simp only [Nat.add_mul] at *;omega
   have hst:=run_storeCells_at P b₀ (o₀ + i * re.sz + len * re.sz) ct news 0 cur w hh (by simpa using hspace) uS
   simp only [Nat.add_zero] at hst
   generalize hcs':(cur.toList.take (o₀ + i * re.sz + len * re.sz) ++ news ++ cur.toList.drop (o₀ + i * re.sz + len * re.sz + news.length)).toArray = cs' at hst
   have hcs'sz:cs'.size = cur.size:=by rw [← hcs'];simp;omega
   have hrunA:(execOp ρc o).run P w = .ok (.value (.slice (some ⟨b₀,o₀ + i * re.sz,none⟩) (len + ys.length) cap)) (w.setRow b₀ cs'):=by
    rw [mU x y ats ho,hv]
    have eM:=hfn w rfl
    rcases hu1 with ⟨e,hu1⟩ | hu1 <;> simp [Builtin.append_,a0,ht',hrun,hsize,hu1,hlen,eM,hroom,hbase,hst]
   have hheap':(w.setRow b₀ cs').heap[b₀]? = some (.cells cs' ct (0,0)):=setRow_heap w b₀ cur cs' ct (0,0) hh
   have hoth:∀ c,c≠b₀→(w.setRow b₀ cs').heap[c]? = w.heap[c]?:=fun c hc=>setRow_other w b₀ c cs' hc
   have hshape:∀ c,c < w.heap.size→(w.setRow b₀ cs').shape? c = w.shape? c:=fun c _=>by
    by_cases e:c = b₀
    ·subst e;rw [k8 hheap',k8 hh,hcs'sz]
    ·simp only [World.shape?,hoth c e]
   have hkp:∀ c,c < w.heap.size→¬ E.fp n c→(w.setRow b₀ cs').heap[c]? = w.heap[c]?:=fun c _ hf=>hoth c fun e=>hf (e ▸ hbS)
   have evm:=Ev.mv (w':=w.setRow b₀ cs') R hn trivial hbu (some (b₀,o₀ + i * re.sz)) (E.fp n) (.row re.sz ((es.drop i).take len ++ ys.map (List.map .v))) (fun c hc=>.inl hc) (by simp) hkp hshape rfl rfl
   have hfp:(E.mv b (some (b₀,o₀ + i * re.sz)) (E.fp n)).fp b = E.fp n:=by funext c;simp [Env.mv]
   have Rm:=Rel.mv (w':=w.setRow b₀ cs') R hn trivial hbu (some (b₀,o₀ + i * re.sz)) (E.fp n) (.row re.sz ((es.drop i).take len ++ ys.map (List.map .v))) (fun c hc=>.inl hc) (fun c hc=>by rw [setRow_size];exact hfplt c hc) (by simp) hkp hshape rfl rfl
    (.inl ⟨b₀,o₀ + i * re.sz,by simp [Env.mv],by
     rw [hfp]
     refine sV evm (b₀:=b₀) hs hT hD hrr hle hsn hLn uS hbS (fun c hc hne=>⟨hc,hne⟩) (fun c _ hne=>hoth c hne) hheap' ?_ ?_ ?_
     ·rw [hcs'sz];rw [hnl] at hspace;simp only [Nat.add_mul] at *;omega
     ·intro k j x hk hx
      have hj:=aB5 hs hx
      have hin:=w9 hk hj
      rw [← hcs']
      simp only [List.getElem?_toArray]
      rw [List.append_assoc,List.getElem?_append_left (by simp;omega),List.getElem?_take_of_lt (by omega),Array.getElem?_toList]
      rw [← hc _ _ _ hx];congr 1;simp only [Nat.add_mul];omega
     ·intro k hk
      rw [← hcs']
      simp only [List.getElem?_toArray]
      have hl1:(cur.toList.take (o₀ + i * re.sz + len * re.sz)).length = o₀ + i * re.sz + len * re.sz:=by simp;omega
      rw [List.append_assoc,List.getElem?_append_right (by rw [hl1];omega),hl1,List.getElem?_append_left (by omega)]
      congr 1;omega⟩)
   refine .hU hrunA ⟨_,_,_,hK,evm,Rm,?_⟩
   have:=eC.os (E:=E.mv b (some (b₀,o₀ + i * re.sz)) (E.fp n)) (h:=a7 (a7 h n .gone) b (.row re.sz ((es.drop i).take len ++ ys.map (List.map .v)))) (w:=w.setRow b₀ cs')
    b re.sz 0 (len + ys.length) b₀ (o₀ + i * re.sz) cap ct cur.size (.inl rfl) (by simp [Env.mv]) hroom hcm (by rw [k8 hheap',hcs'sz]) (by rw [hcsz];simp only [Nat.add_mul] at *;omega)
   simpa using this
  ·
   have holds:∀ k,k < len * re.sz→∃ y,iE es (i + k / re.sz) (k % re.sz) = some y:=fun k hk=>by
    have h1:k / re.sz < len:=by rw [Nat.div_lt_iff_lt_mul hz0];exact hk
    exact hrow _ _ h1 (Nat.mod_lt _ hz0)
   generalize hod:(List.range (len * re.sz)).map (fun k=>cv (i + k / re.sz) (k % re.sz)) = olds
   have hol:olds.length = len * re.sz:=by rw [← hod];simp
   have hog:∀ k,k < len * re.sz→olds[k]? = some (cv (i + k / re.sz) (k % re.sz)):=fun k hk=>by rw [← hod,List.getElem?_map,List.getElem?_range hk];rfl
   obtain ⟨ncap,d,g1,g2,grun⟩:=u4 (w:=w) (t1:=ats[1]?) ht hd he h1 ats a0 rfl o.type (base:=some ⟨b₀,o₀ + i * re.sz,none⟩) (sLen:=len) (sCap:=cap) (n:=ys.length) (v:=ρc y) (olds:=olds) (news:=news) (z:=z) hzr' hlen
    (fun w' hw'=>run_firstCells_some w' _ _ _ _ _ olds hol fun k v hv=>by
     have hk:k < len * re.sz:=by have:=(List.getElem?_eq_some_iff.1 hv).1;omega
     rw [hog k hk] at hv
     obtain rfl:=Option.some.inj hv
     obtain ⟨y,hy⟩:=holds k hk
     rw [xB hw',kD]
     simp only [World.cell?,hh,Option.isSome_none,Bool.false_eq_true,if_false]
     rw [← hc _ _ _ hy];congr 1
     have:=Nat.div_add_mod k re.sz
     rw [Nat.mul_comm] at this
     simp only [Nat.add_mul];omega) hfn (by omega) hb (by omega)
   generalize hcs':(olds ++ news).toArray ++ Builtin.zeroCells z.cells (ncap - (len + ys.length)) = cs' at grun
   have hcs'sz:cs'.size = ncap * re.sz:=by
    rw [← hcs',Array.size_append,xC,hzs,List.size_toArray,List.length_append,hnl,hol,← Nat.add_mul,← Nat.add_mul];congr 1;omega
   have hrunA:(execOp ρc o).run P w = .ok (.value (.slice (some ⟨w.heap.size,0,none⟩) (len + ys.length) ncap)) (pY w (.cells cs' et) d):=by
    rw [mU x y ats ho,hv,grun];rfl
   have evm:=Ev.mv (w':=pY w (.cells cs' et) d) R hn trivial hbu (some (w.heap.size,0)) (fun c=>c = w.heap.size∨(E.fp n c∧c≠b₀)) (.row re.sz ((es.drop i).take len ++ ys.map (List.map .v)))
    (fun c hc=>by rcases hc with h | h;exact .inr (by omega);exact .inl h.1) (by rw [jK];omega) (fun c hc _=>lJ _ _ _ c hc) (fun c hc=>by simp only [World.shape?,lJ _ _ _ c hc]) rfl rfl
   have hfp:(E.mv b (some (w.heap.size,0)) (fun c=>c = w.heap.size∨(E.fp n c∧c≠b₀))).fp b = (fun c=>c = w.heap.size∨(E.fp n c∧c≠b₀)):=by funext c;simp [Env.mv]
   have Rm:=Rel.mv (w':=pY w (.cells cs' et) d) R hn trivial hbu (some (w.heap.size,0)) (fun c=>c = w.heap.size∨(E.fp n c∧c≠b₀)) (.row re.sz ((es.drop i).take len ++ ys.map (List.map .v)))
    (fun c hc=>by rcases hc with h | h;exact .inr (by omega);exact .inl h.1) (fun c hc=>by rw [jK];rcases hc with h | h;omega;have:=hfplt c h.1;omega) (by rw [jK];omega) (fun c hc _=>lJ _ _ _ c hc) (fun c hc=>by simp only [World.shape?,lJ _ _ _ c hc]) rfl rfl
    (.inl ⟨w.heap.size,0,by simp [Env.mv],by
     rw [hfp]
     refine sV evm (b₀:=b₀) hs hT hD hrr hle hsn hLn uS (.inl rfl) (fun c hc hne=>⟨.inr ⟨hc,hne⟩,by have:=hfplt c hc;omega⟩) (fun c hc _=>lJ _ _ _ c (hfplt c hc)) (qV _ _ _) ?_ ?_ ?_
     ·rw [hcs'sz,Nat.zero_add];exact Nat.mul_le_mul_right _ g1
     ·intro k j x hk hx
      have hj:=aB5 hs hx
      have hin:=w9 hk hj
      rw [← hcs',Array.getElem?_append_left (by simp;omega)]
      simp only [List.getElem?_toArray,Nat.zero_add]
      rw [List.getElem?_append_left (by omega),hog _ hin]
      congr 2
      ·rw [Nat.mul_comm,Nat.mul_add_div hz0,Nat.div_eq_of_lt hj];rfl
      ·rw [Nat.mul_comm,Nat.mul_add_mod,Nat.mod_eq_of_lt hj]
     ·intro k hk
      rw [← hcs',Array.getElem?_append_left (by simp;omega)]
      simp only [List.getElem?_toArray,Nat.zero_add]
      rw [List.getElem?_append_right (by omega),hol]
      congr 1;omega⟩)
   refine .hU hrunA ⟨_,_,_,hK,evm,Rm,?_⟩
   have:=eC.os (E:=E.mv b (some (w.heap.size,0)) (fun c=>c = w.heap.size∨(E.fp n c∧c≠b₀))) (h:=a7 (a7 h n .gone) b (.row re.sz ((es.drop i).take len ++ ys.map (List.map .v)))) (w:=pY w (.cells cs' et) d)
    b re.sz 0 (len + ys.length) w.heap.size 0 ncap et (ncap * re.sz) (.inl rfl) (by simp [Env.mv]) g1 g2 (by simp only [World.shape?,qV,hcs'sz]) (by simp)
   simpa using this
end
end Go.Hl

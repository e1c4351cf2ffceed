/-
  Contracts of functions and laws of the layer over the walk.
-/
import Derived.WalkKit
import Derived.IntWalk
namespace Go.Hl
set_option linter.unusedVariables false
set_option linter.unusedSimpArgs false
inductive aD where
 |any
 |bool (b : Bool)
 |int (k : IntKind) (n : Int)
 |str (s : List UInt8)
 |iE
 |bO
 |pE
 |j6
 |lW
 |sl (sz : Nat) (es : List (List aD)) (tight : Bool)
 |ip (sz : Nat) (es : List (List aD)) (i off : Nat)
 |os (n sz i len : Nat)
 |op (n sz i off : Nat)
 |agg (cs : List aD)
 |gN (cs : List aD)
 |fn (f : Fn) (first cap : List aD)
 |iface (t : TypeId) (v : aD)
 |mp (n : Nat)
 deriving Inhabited
inductive Cell where
 |v (x : aD)
 |own (sz : Nat) (es : List (List Cell))
 deriving Inhabited
inductive bL where
 |row (sz : Nat) (es : List (List Cell))
 |map (kt et : TypeId) (l : List (aD × aD))
 |raw (t : TypeId) (cs : Array Value)
 |abs (Q : Nat → (Nat → Prop) → World → Prop)
 |gone
 deriving Inhabited
abbrev aB := Nat → Option bL
def bL.live : bL → Prop
 | .gone => False
 | _ => True
def a5 (h : aB) (n : Nat) (o : bL) : aB := fun m => if m = n then some o else h m
structure Env where
 loc : Nat → Option (Nat × Nat)
 fp : Nat → Nat → Prop
 used : Nat → Prop
def mH (E : Env) (h : aB) (w : World) (b : Nat) : Prop :=
 b < w.heap.size ∧ ∀ n o, h n = some o → o.live → ¬ E.fp n b
def gO {α : Type} (es : List (List α)) (i j : Nat) : Option α := (es[i]?).bind (·[j]?)
theorem jH {α : Type} {es : List (List α)} {i j : Nat} {x : α} (h : gO es i j = some x) : ∃ e, es[i]? = some e ∧ e[j]? = some x := by
 unfold gO at h
 cases he : es[i]? with
 |none => simp [he] at h
 |some e => exact ⟨e, rfl, by simpa [he] using h⟩
theorem aRT {α : Type} {es : List (List α)} {i j : Nat} {x : α} (h : gO es i j = some x) : i < es.length := by
 obtain ⟨e, he, _⟩ := jH h
 exact (List.getElem?_eq_some_iff.1 he).1
theorem aBU {α : Type} {es : List (List α)} {sz i j : Nat} {x : α} (hs : ∀ e ∈ es, e.length = sz) (h : gO es i j = some x) : j < sz := by
 obtain ⟨e, he, hj⟩ := jH h
 have := hs e (List.mem_of_getElem? he)
 have := (List.getElem?_eq_some_iff.1 hj).1
 omega
inductive dY (E : Env) (h : aB) (w : World) : aD → Value → Prop where
 |any (v : Value) : dY E h w .any v
 |bool (b : Bool) : dY E h w (.bool b) (.bool b)
 |int (k : IntKind) (n : Int) : dY E h w (.int k n) (.int k n)
 |str (s : List UInt8) (hl : s.length ≤ maxLen) : dY E h w (.str s) (.string ⟨s.toArray⟩)
 |iE : dY E h w .iE (.pointer none)
 |bO : dY E h w .bO (.slice none 0 0)
 |pE : dY E h w .pE .nilFunc
 |j6 : dY E h w .j6 .nilIface
 |lW : dY E h w .lW (.map none)
 |wW (sz : Nat) (t : Bool) (a : Option Addr) (cap : Nat) (ht : t = true → cap = 0) (hmax : cap ≤ maxLen) (ha : True) : dY E h w (.sl sz [] t) (.slice a 0 cap)
 |sl (sz : Nat) (es : List (List aD)) (t : Bool) (b o cap : Nat) (cv : Nat → Nat → Value) (hi : mH E h w b) (hcap : es.length ≤ cap) (hmax : cap ≤ maxLen)
   (ht : t = true → cap = es.length) (hs : ∀ e ∈ es, e.length = sz)
   (hc : ∀ i j x, gO es i j = some x → w.cell? ⟨b, o + i * sz + j, none⟩ = some (cv i j)) (h1 : ∀ i j x, gO es i j = some x → (cv i j).oneCell' = true)
   (hr : ∀ i j x, gO es i j = some x → dY E h w x (cv i j)) : dY E h w (.sl sz es t) (.slice (some ⟨b, o, none⟩) es.length cap)
 |ip (sz : Nat) (es : List (List aD)) (i off b o : Nat) (cv : Nat → Nat → Value) (hi : mH E h w b) (hs : ∀ e ∈ es, e.length = sz)
   (hc : ∀ i j x, gO es i j = some x → w.cell? ⟨b, o + i * sz + j, none⟩ = some (cv i j)) (h1 : ∀ i j x, gO es i j = some x → (cv i j).oneCell' = true)
   (hr : ∀ i j x, gO es i j = some x → dY E h w x (cv i j)) : dY E h w (.ip sz es i off) (.pointer (some ⟨b, o + i * sz + off, none⟩))
 |os (n sz i len b o cap : Nat) (t : TypeId) (m : Nat) (hd : E.used n) (hl : E.loc n = some (b, o)) (hlc : len ≤ cap) (hmax : cap ≤ maxLen)
   (hsh : w.shape? b = some (t, m)) (hm : o + (i + cap) * sz ≤ m) : dY E h w (.os n sz i len) (.slice (some ⟨b, o + i * sz, none⟩) len cap)
 |os0 (n sz : Nat) (hd : E.used n) (hl : E.loc n = none) : dY E h w (.os n sz 0 0) (.slice none 0 0)
 |op (n sz i off b o : Nat) (hd : E.used n) (hl : E.loc n = some (b, o)) : dY E h w (.op n sz i off) (.pointer (some ⟨b, o + i * sz + off, none⟩))
 |agg (cs : List aD) (vs : List Value) (hl : cs.length = vs.length) (hr : ∀ (i : Nat) (x : aD) (v : Value), cs[i]? = some x → vs[i]? = some v → dY E h w x v) : dY E h w (.agg cs) (.agg vs.toArray)
 |gN (cs : List aD) (vs : List Value) (hl : cs.length = vs.length) (hr : ∀ (i : Nat) (x : aD) (v : Value), cs[i]? = some x → vs[i]? = some v → dY E h w x v) : dY E h w (.gN cs) (.tuple vs.toArray)
 |fn (f : Fn) (cs ds : List aD) (vs us : List Value) (hl : cs.length = vs.length) (hr : ∀ (i : Nat) (x : aD) (v : Value), cs[i]? = some x → vs[i]? = some v → dY E h w x v)
   (hl' : ds.length = us.length) (hr' : ∀ (i : Nat) (x : aD) (v : Value), ds[i]? = some x → us[i]? = some v → dY E h w x v) : dY E h w (.fn f cs ds) (.func f vs.toArray us.toArray)
 |iface (t : TypeId) (x : aD) (v : Value) (hr : dY E h w x v) : dY E h w (.iface t x) (.iface t v)
 |mp (n b o : Nat) (hd : E.used n) (hl : E.loc n = some (b, o)) : dY E h w (.mp n) (.map (some b))
def cX (E : Env) (h : aB) (w : World) : List aD → List Value → Prop
 | [], [] => True
 |x :: xs, v :: vs => dY E h w x v ∧ cX E h w xs vs
 | _, _ => False
theorem cX.length {E : Env} {h : aB} {w : World} : ∀ {xs : List aD} {vs : List Value}, cX E h w xs vs → xs.length = vs.length
 | [], [], _ => rfl
 |x :: xs, v :: vs, hh => by simpa using cX.length hh.2
 | [], _ :: _, hh => hh.elim
 | _ :: _, [], hh => hh.elim
theorem cX.get {E : Env} {h : aB} {w : World} : ∀ {xs : List aD} {vs : List Value}, cX E h w xs vs →
  ∀ (i : Nat) (x : aD) (v : Value), xs[i]? = some x → vs[i]? = some v → dY E h w x v
 | [], [], _, i, x, v, hx, _ => by simp at hx
 |x :: xs, v :: vs, hh, 0, y, u, hx, hv => by simp at hx hv; subst hx; subst hv; exact hh.1
 |x :: xs, v :: vs, hh, i + 1, y, u, hx, hv => cX.get hh.2 i y u (by simpa using hx) (by simpa using hv)
 | [], _ :: _, hh, _, _, _, _, _ => hh.elim
 | _ :: _, [], hh, _, _, _, _, _ => hh.elim
theorem cX.mk {E : Env} {h : aB} {w : World} : ∀ {xs : List aD} {vs : List Value}, xs.length = vs.length →
  (∀ (i : Nat) (x : aD) (v : Value), xs[i]? = some x → vs[i]? = some v → dY E h w x v) → cX E h w xs vs
 | [], [], _, _ => trivial
 |x :: xs, v :: vs, hl, hr => ⟨hr 0 x v rfl rfl, cX.mk (by simpa using hl) (fun i y u hy hu => hr (i + 1) y u (by simpa using hy) (by simpa using hu))⟩
 | [], _ :: _, hl, _ => by simp at hl
 | _ :: _, [], hl, _ => by simp at hl
theorem cX.append {E : Env} {h : aB} {w : World} : ∀ {xs : List aD} {vs : List Value} {ys : List aD} {us : List Value},
  cX E h w xs vs → cX E h w ys us → cX E h w (xs ++ ys) (vs ++ us)
 | [], [], _, _, _, hy => hy
 |x :: xs, v :: vs, _, _, hx, hy => ⟨hx.1, cX.append hx.2 hy⟩
 | [], _ :: _, _, _, hx, _ => hx.elim
 | _ :: _, [], _, _, hx, _ => hx.elim
inductive rK (E : Env) (h : aB) (w : World) : Cell → Value → (Nat → Prop) → Prop where
 |v (x : aD) (c : Value) (S : Nat → Prop) (h1 : c.oneCell' = true) (hx : dY E h w x c) : rK E h w (.v x) c S
 |aL7 (sz : Nat) (a : Option Addr) (cap : Nat) (S : Nat → Prop) (hmax : cap ≤ maxLen) (ha : True) : rK E h w (.own sz []) (.slice a 0 cap) S
 |own (sz : Nat) (es : List (List Cell)) (b o cap : Nat) (S : Nat → Prop) (cs : Array Value) (t : TypeId) (cv : Nat → Nat → Value) (T : Nat → Nat → Nat → Prop)
   (hb : S b) (hh : w.heap[b]? = some (.cells cs t (0, 0))) (hlc : es.length ≤ cap) (hmax : cap ≤ maxLen) (hm : o + cap * sz ≤ cs.size) (hs : ∀ e ∈ es, e.length = sz)
   (hT : ∀ i j c, T i j c → S c ∧ c ≠ b) (hD : ∀ i j i' j' c, T i j c → T i' j' c → i = i' ∧ j = j')
   (hc : ∀ i j x, gO es i j = some x → cs[o + i * sz + j]? = some (cv i j))
   (hr : ∀ i j x, gO es i j = some x → rK E h w x (cv i j) (T i j)) : rK E h w (.own sz es) (.slice (some ⟨b, o, none⟩) es.length cap) S
structure aCH (E : Env) (h : aB) (w : World) (b o sz : Nat) (es : List (List Cell)) (S : Nat → Prop) : Prop where
 hb : S b
 size : ∀ e ∈ es, e.length = sz
 mem : ∃ (cs : Array Value) (t : TypeId) (cv : Nat → Nat → Value) (T : Nat → Nat → Nat → Prop),
  w.heap[b]? = some (.cells cs t (0, 0)) ∧ o + es.length * sz ≤ cs.size ∧
  (∀ i j c, T i j c → S c ∧ c ≠ b) ∧ (∀ i j i' j' c, T i j c → T i' j' c → i = i' ∧ j = j') ∧
  (∀ i j x, gO es i j = some x → cs[o + i * sz + j]? = some (cv i j)) ∧ (∀ i j x, gO es i j = some x → rK E h w x (cv i j) (T i j))
def aNX (E : Env) (h : aB) (w : World) (b : Nat) (l : List (aD × aD)) (S : Nat → Prop) : Prop :=
 S b ∧ ∃ (es : Array MapEntry) (clock : Nat), w.heap[b]? = some (.map es clock) ∧ (∀ e ∈ es, e.born < clock) ∧
  cX E h w (l.map (·.1)) (es.toList.map (·.key)) ∧ cX E h w (l.map (·.2)) (es.toList.map (·.val))
def xX (E : Env) (h : aB) (w : World) (n : Nat) : bL → Prop
 | .row sz es => (∃ b o, E.loc n = some (b, o) ∧ aCH E h w b o sz es (E.fp n)) ∨ (es = [] ∧ E.loc n = none)
 | .map _ _ l => ∃ b o, E.loc n = some (b, o) ∧ aNX E h w b l (E.fp n)
 | .raw t cs => ∃ b, E.loc n = some (b, 0) ∧ E.fp n b ∧ w.heap[b]? = some (.cells cs t (0, 0))
 | .abs Q => ∃ b, E.loc n = some (b, 0) ∧ E.fp n b ∧ ∃ w0 : World, Q b (E.fp n) w0 ∧ ∀ c, E.fp n c → w.heap[c]? = w0.heap[c]?
 | .gone => True
def aRU : Option TypeId := none
def aCI : List (Nat × (Array Value → Prop)) := []
def uV (E : Env) (h : aB) (w : World) : Prop := ∀ p ∈ aCI, mH E h w p.1 ∧ ∃ cs t f, w.heap[p.1]? = some (.cells cs t f) ∧ p.2 cs
structure Rel (E : Env) (h : aB) (w : World) : Prop where
 fin : ∃ N, ∀ n, N ≤ n → ¬ E.used n
 dom : ∀ n, h n ≠ none → E.used n
 lt : ∀ n o b, h n = some o → o.live → E.fp n b → b < w.heap.size
 apart : ∀ n o m o' b, h n = some o → o.live → h m = some o' → o'.live → E.fp n b → E.fp m b → n = m
 obj : ∀ n o, h n = some o → xX E h w n o
 laid : uV E h w
structure Ev (E : Env) (h : aB) (w : World) (E' : Env) (h' : aB) (w' : World) : Prop where
 size : w.heap.size ≤ w'.heap.size
 keep : ∀ b, mH E h w b → w'.heap[b]? = w.heap[b]? ∧ mH E' h' w' b
 shape : ∀ b, b < w.heap.size → w'.shape? b = w.shape? b
 loc : ∀ n, E.used n → E'.loc n = E.loc n ∧ E'.used n
 os : w'.os = w.os
 out : w'.output = w.output
theorem uV.ev {E E' : Env} {h h' : aB} {w w' : World} (ev : Ev E h w E' h' w') (x : uV E h w) : uV E' h' w' := fun p hp =>
 ⟨(ev.keep p.1 (x p hp).1).2, (x p hp).2.imp fun cs ⟨t, f, ht, q⟩ => ⟨t, f, by rw [(ev.keep p.1 (x p hp).1).1]; exact ht, q⟩⟩
theorem uV.nS {E : Env} {g h : aB} {w : World} (hi : ∀ b, mH E h w b → mH E g w b) (x : uV E h w) : uV E g w := fun p hp => ⟨hi _ (x p hp).1, (x p hp).2⟩
theorem Ev.refl (E : Env) (h : aB) (w : World) : Ev E h w E h w :=
 ⟨Nat.le_refl _, fun _ hb => ⟨rfl, hb⟩, fun _ _ => rfl, fun _ hn => ⟨rfl, hn⟩, rfl, rfl⟩
theorem Ev.trans {E E' E'' : Env} {h h' h'' : aB} {w w' w'' : World} (a : Ev E h w E' h' w') (b : Ev E' h' w' E'' h'' w'') : Ev E h w E'' h'' w'' where
 size := Nat.le_trans a.size b.size
 keep := fun x hx => ⟨(b.keep x (a.keep x hx).2).1.trans (a.keep x hx).1, (b.keep x (a.keep x hx).2).2⟩
 shape := fun x hx => (b.shape x (Nat.lt_of_lt_of_le hx a.size)).trans (a.shape x hx)
 loc := fun n hn => ⟨(b.loc n (a.loc n hn).2).1.trans (a.loc n hn).1, (b.loc n (a.loc n hn).2).2⟩
 os := b.os.trans a.os
 out := b.out.trans a.out
theorem rL {w w' : World} {b : Nat} (h : w'.heap[b]? = w.heap[b]?) (o : Nat) (s : Option Nat) : w'.cell? ⟨b, o, s⟩ = w.cell? ⟨b, o, s⟩ := by
 simp only [World.cell?, h]
theorem aCJ {w : World} {b : Nat} {x : TypeId × Nat} (h : w.shape? b = some x) : b < w.heap.size := by
 unfold World.shape? at h
 cases hb : w.heap[b]? with
 |none => simp [hb] at h
 |some y => exact (Array.getElem?_eq_some_iff.1 hb).1
theorem dY.ev {E E' : Env} {h h' : aB} {w w' : World} (ev : Ev E h w E' h' w') {x : aD} {v : Value} (r : dY E h w x v) : dY E' h' w' x v := by
 induction r with
 |any v => exact .any v
 |bool b => exact .bool b
 |int k n => exact .int k n
 |str s hl => exact .str s hl
 |iE => exact .iE
 |bO => exact .bO
 |pE => exact .pE
 |j6 => exact .j6
 |lW => exact .lW
 |wW sz t a cap ht hmax ha => exact .wW sz t a cap ht hmax ha
 |sl sz es t b o cap cv hi hcap hmax ht hs hc h1 hr ih =>
  exact .sl sz es t b o cap cv (ev.keep b hi).2 hcap hmax ht hs (fun i j x hx => by rw [rL (ev.keep b hi).1]; exact hc i j x hx) h1 ih
 |ip sz es i off b o cv hi hs hc h1 hr ih =>
  exact .ip sz es i off b o cv (ev.keep b hi).2 hs (fun i j x hx => by rw [rL (ev.keep b hi).1]; exact hc i j x hx) h1 ih
 |os n sz i len b o cap t m hd hl hlc hmax hsh hm =>
  exact .os n sz i len b o cap t m (ev.loc n hd).2 ((ev.loc n hd).1.trans hl) hlc hmax ((ev.shape b (aCJ hsh)).trans hsh) hm
 |os0 n sz hd hl => exact .os0 n sz (ev.loc n hd).2 ((ev.loc n hd).1.trans hl)
 |op n sz i off b o hd hl => exact .op n sz i off b o (ev.loc n hd).2 ((ev.loc n hd).1.trans hl)
 |agg cs vs hl hr ih => exact .agg cs vs hl ih
 |gN cs vs hl hr ih => exact .gN cs vs hl ih
 |fn f cs ds vs us hl hr hl' hr' ih ih' => exact .fn f cs ds vs us hl ih hl' ih'
 |iface t x v hr ih => exact .iface t x v ih
 |mp n b o hd hl => exact .mp n b o (ev.loc n hd).2 ((ev.loc n hd).1.trans hl)
theorem cX.ev {E E' : Env} {h h' : aB} {w w' : World} (ev : Ev E h w E' h' w') : ∀ {xs : List aD} {vs : List Value}, cX E h w xs vs → cX E' h' w' xs vs
 | [], [], _ => trivial
 | _ :: _, _ :: _, hh => ⟨hh.1.ev ev, cX.ev ev hh.2⟩
 | [], _ :: _, hh => hh.elim
 | _ :: _, [], hh => hh.elim
@[simp] theorem aH (h : aB) (n : Nat) (o : bL) : a5 h n o n = some o := by simp [a5]
theorem aF (h : aB) (n m : Nat) (o : bL) (hn : m ≠ n) : a5 h n o m = h m := by simp [a5, hn]
theorem c8 (h : aB) (n m : Nat) (o : bL) : a5 h n o m = if m = n then some o else h m := rfl
@[simp] theorem aK (h : aB) (n : Nat) (o o' : bL) : a5 (a5 h n o) n o' = a5 h n o' := by
 funext m; simp only [a5]; split <;> rfl
def aB.le (g h : aB) : Prop := ∀ n, g n = none ∨ g n = h n
theorem aB.le_refl (h : aB) : h.le h := fun _ => .inr rfl
theorem aB.le_trans {a b c : aB} (x : a.le b) (y : b.le c) : a.le c := fun n => by
 rcases x n with h | h
 ·exact .inl h
 ·rcases y n with k | k
  ·exact .inl (h.trans k)
  ·exact .inr (h.trans k)
theorem aB.bF {g h : aB} {n : Nat} {o : bL} (hg : g n = none) (hl : g.le h) : g.le (a5 h n o) := fun m => by
 by_cases e : m = n
 ·subst e; exact .inl hg
 ·rw [aF _ _ _ _ e]; exact hl m
def aD.m6 : Value → aD
 | .bool b => .bool b
 | .int k n => .int k n
 | .string s => if s.size ≤ maxLen then .str s.data.toList else .any
 | .pointer none => .iE
 | .slice none 0 0 => .bO
 | .nilFunc => .pE
 | .nilIface => .j6
 | .map none => .lW
 | _ => .any
def aD.ofValue : Value → aD
 | .bool b => .bool b
 | .int k n => .int k n
 | .string s => if s.size ≤ maxLen then .str s.data.toList else .any
 | .pointer none => .iE
 | .slice none 0 0 => .bO
 | .nilFunc => .pE
 | .nilIface => .j6
 | .map none => .lW
 | .agg vs => .agg (vs.toList.map aD.m6)
 | _ => .any
theorem dY.m6 (E : Env) (h : aB) (w : World) (v : Value) : dY E h w (aD.m6 v) v := by
 unfold aD.m6
 split <;> try constructor
 split
 ·rename_i s hs
  have : s = ⟨s.data.toList.toArray⟩ := by cases s; simp
  rw [this]
  exact .str _ (by simpa using hs)
 ·exact .any _
theorem dY.ofValue (E : Env) (h : aB) (w : World) (v : Value) : dY E h w (aD.ofValue v) v := by
 have h1 := dY.m6 E h w v
 unfold aD.m6 at h1
 unfold aD.ofValue
 split <;> try exact h1
 ·rename_i vs
  have := dY.agg (E := E) (h := h) (w := w) (vs.toList.map aD.m6) vs.toList (by simp) (fun i x v hx hv => by
   rw [List.getElem?_map, hv] at hx
   obtain rfl := Option.some.inj hx
   exact dY.m6 E h w v)
  simpa using this
 ·exact .any _
inductive TyD where
 |int (k : IntKind)
 |bool
 |str
 |ptr (e : TypeId)
 |slice (e : TypeId)
 |arr (n : Nat) (e : TypeId)
 |st (fs : List (Nat × TypeId × Nat))
 |map (k e : TypeId)
 |other
structure jS where
 sz : Nat
 agg : Bool
 bytes : Nat
 zero : List aD
 d : TyD
def tyD (P : Program) : TypeDesc → TyD
 | .int k => .int k
 | .bool => .bool
 | .string => .str
 | .pointer e => .ptr e
 | .slice e => .slice e
 | .array n e => .arr n e
 | .struct fs => if fs.toList.all (fun f => (P.info? f.type).isSome) then .st (fs.toList.map fun f => (f.offset, f.type, P.cellsOf f.type)) else .other
 | .map k e => .map k e
 | _ => .other
def gH (P : Program) (t : TypeId) : Option jS :=
 match P.info? t, P.underlying t with
 |some i, some u => some {
   sz := i.size
   agg := match u with | .struct _ | .array _ _ => true | _ => false
   bytes := i.bytes
   zero := match i.zero with | some v => v.cells.toList.map aD.ofValue | none => []
   d := tyD P u }
 | _, _ => none
theorem oN {P : Program} {t : TypeId} {r : jS} (h : gH P t = some r) : ∃ i u, P.info? t = some i ∧ P.underlying t = some u ∧
  r.sz = i.size ∧ r.bytes = i.bytes ∧ r.d = tyD P u ∧ r.agg = (match u with | .struct _ | .array _ _ => true | _ => false) ∧
  r.zero = (match i.zero with | some v => v.cells.toList.map aD.ofValue | none => []) := by
 unfold gH at h
 split at h
 ·rename_i i u hi hu
  obtain rfl := Option.some.inj h
  exact ⟨i, u, hi, hu, rfl, rfl, rfl, rfl, rfl⟩
 ·simp at h
def rY (P : Program) (o : Oper) (ρ : Operand → Value) (w : World) (R : Value → World → Prop) : Prop :=
 match (execOp ρ o).run P w with
 | .ok (.value v) w' => R v w'
 | .ok .skip w' => R undef w'
 | .ok (.enter f args) w' => Calls P f args w' fun e w'' => match e with | .returned v => R v w'' | _ => False
 | _ => False
theorem rY.wp {P : Program} {o : Oper} {a : Act} {w : World} {next : Act → World → Prop} {Q : Exit → Act → World → Prop}
  (h : rY P o a.eval w fun v w' => next (a.put o.dst v) w') : o.wp P a w next Q := by
 unfold rY at h
 unfold Oper.wp
 generalize (execOp a.eval o).run P w = r at *
 cases r with
 |halt x w' => exact h.elim
 |ok n w' =>
  cases n <;> first
   |exact h.elim
   |exact h
   |exact Calls.mono h fun e w' he => by cases e <;> first | exact he | exact he.elim
theorem rY.hH {P : Program} {o : Oper} {ρ : Operand → Value} {w w' : World} {v : Value} {R : Value → World → Prop}
  (hr : (execOp ρ o).run P w = .ok (.value v) w') (h : R v w') : rY P o ρ w R := by
 unfold rY; rw [hr]; exact h
theorem rY.aVO {P : Program} {o : Oper} {ρ : Operand → Value} {w w' : World} {R : Value → World → Prop}
  (hr : (execOp ρ o).run P w = .ok .skip w') (h : R undef w') : rY P o ρ w R := by
 unfold rY; rw [hr]; exact h
def xY (K : aD → aB → Prop) (E : Env) (h : aB) (w : World) (v : Value) (w' : World) : Prop :=
 ∃ r h' E', K r h' ∧ Ev E h w E' h' w' ∧ Rel E' h' w' ∧ dY E' h' w' r v
theorem xY.mono {K K' : aD → aB → Prop} {E : Env} {h : aB} {w : World} {v : Value} {w' : World} (hk : ∀ r h', K r h' → K' r h')
  (a : xY K E h w v w') : xY K' E h w v w' := let ⟨r, h', E', k, rest⟩ := a; ⟨r, h', E', hk _ _ k, rest⟩
theorem xY.same {K : aD → aB → Prop} {E : Env} {h : aB} {w : World} {v : Value} {r : aD} (hk : K r h) (hrel : Rel E h w) (hr : dY E h w r v) : xY K E h w v w :=
 ⟨r, h, E, hk, .refl _ _ _, hrel, hr⟩
def lU (P : Program) (o : Oper) (ρ : Operand → aD) (h : aB) (K : aD → aB → Prop) : Prop :=
 ∀ E w (ρc : Operand → Value), Rel E h w → (∀ x, dY E h w (ρ x) (ρc x)) → rY P o ρc w (xY K E h w)
theorem rY.mono {P : Program} {o : Oper} {ρ : Operand → Value} {w : World} {R R' : Value → World → Prop} (h : rY P o ρ w R) (hr : ∀ v w', R v w' → R' v w') : rY P o ρ w R' := by
 unfold rY at *
 split at h
 ·exact hr _ _ h
 ·exact hr _ _ h
 ·exact Calls.mono h fun e w' he => by cases e <;> first | exact hr _ _ he | exact he
 ·exact h
theorem lU.mono {P : Program} {o : Oper} {ρ : Operand → aD} {h : aB} {K K' : aD → aB → Prop} (hk : ∀ r h', K r h' → K' r h') (a : lU P o ρ h K) : lU P o ρ h K' :=
 fun E w ρc hR hρ => (a E w ρc hR hρ).mono fun v w' => xY.mono hk
def aGS (P : Program) (f : FuncId) (args : List aD) (h : aB) (K : aD → aB → Prop) : Prop :=
 ∀ E w vs, Rel E h w → cX E h w args vs → Calls P f vs.toArray w fun e w' => match e with | .returned v => xY K E h w v w' | _ => False
theorem aGS.mono {P : Program} {f : FuncId} {args : List aD} {h : aB} {K K' : aD → aB → Prop} (hk : ∀ r h', K r h' → K' r h') (a : aGS P f args h K) : aGS P f args h K' :=
 fun E w vs hR hv => Calls.mono (a E w vs hR hv) fun e w' he => by cases e <;> first | exact xY.mono hk he | exact he
section pure
variable {P : Program} {o : Oper} {ρ : Operand → aD} {h : aB} {K : aD → aB → Prop}
theorem bU {r : aD} (hk : K r h) (hx : ∀ E w (ρc : Operand → Value), Rel E h w → (∀ x, dY E h w (ρ x) (ρc x)) → ∃ v, (execOp ρc o).run P w = .ok (.value v) w ∧ dY E h w r v) : lU P o ρ h K := by
 intro E w ρc hR hρ
 obtain ⟨v, hv, hr⟩ := hx E w ρc hR hρ
 exact .hH hv (.same hk hR hr)
theorem aRV (x : Operand) (ho : o.op = .move x) (hk : K (ρ x) h) : lU P o ρ h K :=
 bU hk fun E w ρc _ hρ => ⟨ρc x, by simp [execOp, ho], hρ x⟩
theorem aL8 (x : Operand) (ho : o.op = .assign x) (hk : K (ρ x) h) : lU P o ρ h K :=
 bU hk fun E w ρc _ hρ => ⟨ρc x, by simp [execOp, ho], hρ x⟩
theorem rZ {E : Env} {w : World} {b : Bool} {v : Value} (hr : dY E h w (.bool b) v) : v = .bool b := by cases hr; rfl
theorem jI {E : Env} {w : World} {k : IntKind} {n : Int} {v : Value} (hr : dY E h w (.int k n) v) : v = .int k n := by cases hr; rfl
theorem qT {E : Env} {w : World} {s : List UInt8} {v : Value} (hr : dY E h w (.str s) v) : v = .string ⟨s.toArray⟩ ∧ s.length ≤ maxLen := by cases hr; exact ⟨rfl, by assumption⟩
theorem aRW (c a b : Operand) (t : Bool) (ho : o.op = .pick c a b) (hc : ρ c = .bool t) (hk : K (if t then ρ a else ρ b) h) : lU P o ρ h K :=
 bU hk fun E w ρc _ hρ => by
  have := rZ (hc ▸ hρ c)
  refine ⟨if t then ρc a else ρc b, by simp [execOp, ho, this, asBool], ?_⟩
  cases t
  ·exact hρ b
  ·exact hρ a
def k6 (op : BinOp) : aD → aD → Option aD
 | .int k a, .int k' b =>
  if k = k' then
   match op with
   | .add => some (.int k (k.wrap (a + b)))
   | .sub => some (.int k (k.wrap (a - b)))
   | .mul => some (.int k (k.wrap (a * b)))
   | .eql => some (.bool (decide (a = b)))
   | .neq => some (.bool (!decide (a = b)))
   | .lss => some (.bool (decide (a < b)))
   | .leq => some (.bool (decide (a ≤ b)))
   | .gtr => some (.bool (decide (a > b)))
   | .geq => some (.bool (decide (a ≥ b)))
   | .and => some (.int k (k.wrap (BitVec.ofInt k.bits a &&& BitVec.ofInt k.bits b).toNat))
   | .or => some (.int k (k.wrap (BitVec.ofInt k.bits a ||| BitVec.ofInt k.bits b).toNat))
   | .andNot => some (.int k (k.wrap (BitVec.ofInt k.bits a &&& ~~~ BitVec.ofInt k.bits b).toNat))
   | _ => none
  else none
 | .str a, .str b =>
  match op with
  | .eql => some (.bool (decide (a = b)))
  | .neq => some (.bool (!decide (a = b)))
  | _ => none
 | _, _ => none
theorem aVP (op : BinOp) (t ty : TypeId) (x y : Operand) (r : aD) (ho : o.op = .binOp op t x y ty) (hb : k6 op (ρ x) (ρ y) = some r) (hk : K r h) : lU P o ρ h K :=
 bU hk fun E w ρc _ hρ => by
  have hx := hρ x
  have hy := hρ y
  unfold k6 at hb
  split at hb
  ·rename_i k a k' b ex ey
   rw [ex] at hx; rw [ey] at hy
   have hx := jI hx
   have hy := jI hy
   split at hb
   ·rename_i hkk
    subst hkk
    have hg : (eqGuard op t x y (ρc x) (ρc y)).run P w = .ok () w := by
     rw [hx, hy]; cases op <;> simp [eqGuard]
    split at hb <;> first | (simp at hb; done) | (
     obtain rfl := Option.some.inj hb
     refine ⟨_, by simp only [execOp, ho, Sem.run_bind, hg, Result.andThen_ok, hx, hy, binOp, Op.intArith, Op.intCmp, Op.intBits, ne_eq, not_true_eq_false, if_false, Sem.run_pure]; rfl, ?_⟩
     constructor)
   ·simp at hb
  ·rename_i a b ex ey
   rw [ex] at hx; rw [ey] at hy
   obtain ⟨hx, _⟩ := qT hx
   obtain ⟨hy, _⟩ := qT hy
   have hg : (eqGuard op t x y (ρc x) (ρc y)).run P w = .ok () w := by
    rw [hx, hy]; cases op <;> simp [eqGuard]
   have e1 : (⟨a.toArray⟩ : ByteArray).toList = a := by rw [ByteArray.toList_eq]
   have e2 : (⟨b.toArray⟩ : ByteArray).toList = b := by rw [ByteArray.toList_eq]
   split at hb <;> first | (simp at hb; done) | (
    obtain rfl := Option.some.inj hb
    refine ⟨_, by simp only [execOp, ho, Sem.run_bind, hg, Result.andThen_ok, hx, hy, binOp, Op.stringOp, Sem.run_pure, e1, e2]; rfl, ?_⟩
    first | exact .bool _ | skip)
   all_goals (rw [show (a == b) = decide (a = b) from Bool.eq_iff_iff.2 (by rw [beq_iff_eq, decide_eq_true_eq])]; constructor)
  ·simp at hb
end pure
set_option linter.unusedVariables false
set_option linter.unusedSimpArgs false
theorem rK.ev {E E' : Env} {h h' : aB} {w w' : World} (ev : Ev E h w E' h' w') {x : Cell} {v : Value} {S : Nat → Prop} (r : rK E h w x v S)
  (hS : ∀ c, S c → w'.heap[c]? = w.heap[c]?) : rK E' h' w' x v S := by
 induction r with
 |v x c S h1 hx => exact .v x c S h1 (hx.ev ev)
 |aL7 sz a cap S hmax ha => exact .aL7 sz a cap S hmax ha
 |own sz es b o cap S cs t cv T hb hh hlc hmax hm hs hT hD hc hr ih =>
  exact .own sz es b o cap S cs t cv T hb ((hS b hb).trans hh) hlc hmax hm hs hT hD hc fun i j x hx => ih i j x hx fun c hc => hS c (hT i j c hc).1
theorem rK.mono {E : Env} {h : aB} {w : World} {x : Cell} {v : Value} {S S' : Nat → Prop} (r : rK E h w x v S) (hs : ∀ c, S c → S' c) : rK E h w x v S' := by
 cases r with
 |v _ _ _ h1 hx => exact .v _ _ _ h1 hx
 |aL7 sz a cap _ hmax ha => exact .aL7 sz a cap _ hmax ha
 |own sz es b o cap _ cs t cv T hb hh hlc hmax hm hs' hT hD hc hr =>
  exact .own sz es b o cap _ cs t cv T (hs _ hb) hh hlc hmax hm hs' (fun i j c hc => ⟨hs _ (hT i j c hc).1, (hT i j c hc).2⟩) hD hc hr
theorem rK.one {E : Env} {h : aB} {w : World} {x : Cell} {v : Value} {S : Nat → Prop} (r : rK E h w x v S) : v.oneCell' = true := by
 cases r <;> first | assumption | rfl
theorem aCH.ev {E E' : Env} {h h' : aB} {w w' : World} (ev : Ev E h w E' h' w') {b o sz : Nat} {es : List (List Cell)} {S : Nat → Prop} (r : aCH E h w b o sz es S)
  (hS : ∀ c, S c → w'.heap[c]? = w.heap[c]?) : aCH E' h' w' b o sz es S := by
 obtain ⟨hb, hs, cs, t, cv, T, hh, hm, hT, hD, hc, hr⟩ := r
 exact ⟨hb, hs, cs, t, cv, T, (hS b hb).trans hh, hm, hT, hD, hc, fun i j x hx => (hr i j x hx).ev ev fun c hc => hS c (hT i j c hc).1⟩
theorem aNX.ev {E E' : Env} {h h' : aB} {w w' : World} (ev : Ev E h w E' h' w') {b : Nat} {l : List (aD × aD)} {S : Nat → Prop} (r : aNX E h w b l S)
  (hS : ∀ c, S c → w'.heap[c]? = w.heap[c]?) : aNX E' h' w' b l S := by
 obtain ⟨hb, es, clock, hh, hk, h1, h2⟩ := r
 exact ⟨hb, es, clock, (hS b hb).trans hh, hk, h1.ev ev, h2.ev ev⟩
theorem xX.ev {E E' : Env} {h h' : aB} {w w' : World} (ev : Ev E h w E' h' w') {n : Nat} {o : bL} (hl : E'.loc n = E.loc n) (hfp : E'.fp n = E.fp n)
  (hS : ∀ c, o.live → E.fp n c → w'.heap[c]? = w.heap[c]?) (r : xX E h w n o) : xX E' h' w' n o := by
 cases o with
 |row sz es =>
  rcases r with ⟨b, o, hb, hr⟩ | ⟨he, hn⟩
  ·exact .inl ⟨b, o, hl.trans hb, by rw [hfp]; exact hr.ev ev (fun c hc => hS c trivial hc)⟩
  ·exact .inr ⟨he, hl.trans hn⟩
 |map kt et l =>
  obtain ⟨b, o, hb, hr⟩ := r
  exact ⟨b, o, hl.trans hb, by rw [hfp]; exact hr.ev ev (fun c hc => hS c trivial hc)⟩
 |raw t cs =>
  obtain ⟨b, hb, hf, hr⟩ := r
  exact ⟨b, hl.trans hb, by rw [hfp]; exact hf, (hS b trivial hf).trans hr⟩
 |abs Q =>
  obtain ⟨b, hb, hf, w0, hq, ha⟩ := r
  exact ⟨b, hl.trans hb, by rw [hfp]; exact hf, w0, by rw [hfp]; exact hq, fun c hc => by rw [hfp] at hc; exact (hS c trivial hc).trans (ha c hc)⟩
 |gone => trivial
def p0 (w : World) (o : Obj) (d : Nat) : World := { heap := w.heap.push o, tape := w.tape, drawn := d, os := w.os, output := w.output }
theorem jJ (w : World) (o : Obj) (d : Nat) : (p0 w o d).heap.size = w.heap.size + 1 := by simp [p0]
theorem k9 (w : World) (o : Obj) (d b : Nat) (hb : b < w.heap.size) : (p0 w o d).heap[b]? = w.heap[b]? := by
 simp only [p0, Array.getElem?_push]; rw [if_neg (by omega)]
theorem qU (w : World) (o : Obj) (d : Nat) : (p0 w o d).heap[w.heap.size]? = some o := by simp [p0]
def Env.add (E : Env) (n b : Nat) : Env where
 loc := fun m => if m = n then some (b, 0) else E.loc m
 fp := fun m c => if m = n then c = b else E.fp m c
 used := fun m => m = n ∨ E.used m
theorem Rel.none {E : Env} {h : aB} {w : World} (R : Rel E h w) {n : Nat} (hn : ¬ E.used n) : h n = none := by
 cases e : h n with
 |none => rfl
 |some o => exact absurd (R.dom n (by simp [e])) hn
theorem Rel.fresh {E : Env} {h : aB} {w : World} (R : Rel E h w) : ∃ n, ¬ E.used n := let ⟨N, hN⟩ := R.fin; ⟨N, hN N (Nat.le_refl _)⟩
theorem Ev.alloc {E : Env} {h : aB} {w : World} (R : Rel E h w) {n : Nat} (hn : ¬ E.used n) (o : Obj) (x : bL) (d : Nat) :
  Ev E h w (E.add n w.heap.size) (a5 h n x) (p0 w o d) := by
 have hne : ∀ m, E.used m → m ≠ n := fun m hm e => hn (e ▸ hm)
 have hheap : ∀ b, b < w.heap.size → (p0 w o d).heap[b]? = w.heap[b]? := k9 w o d
 refine ⟨by rw [jJ]; omega, fun b hb => ⟨hheap b hb.1, ⟨by have := hb.1; rw [jJ]; omega, ?_⟩⟩, fun b hb => by simp only [World.shape?, hheap b hb], fun m hm => ?_, rfl, rfl⟩
 ·intro m y hm hy hf
  by_cases e : m = n
  ·subst e; have hf : b = w.heap.size := by simpa [Env.add] using hf
   have := hb.1; omega
  ·rw [aF _ _ _ _ e] at hm; exact hb.2 m y hm hy (by simpa [Env.add, e] using hf)
 ·have e := hne m hm
  exact ⟨by simp [Env.add, e], .inr hm⟩
theorem Rel.aFI {E : Env} {h : aB} {w : World} (R : Rel E h w) {n : Nat} (hn : ¬ E.used n) (o : Obj) (x : bL) (d : Nat)
  (hx : xX (E.add n w.heap.size) (a5 h n x) (p0 w o d) n x) : Rel (E.add n w.heap.size) (a5 h n x) (p0 w o d) := by
 have ev := Ev.alloc R hn o x d
 have hheap : ∀ b, b < w.heap.size → (p0 w o d).heap[b]? = w.heap[b]? := k9 w o d
 refine ⟨?_, ?_, ?_, ?_, ?_, R.laid.ev ev⟩
 ·obtain ⟨N, hN⟩ := R.fin
  exact ⟨max N (n + 1), fun m hm => by rintro (e | e); · omega
                                       · exact hN m (by omega) e⟩
 ·intro m hm
  by_cases e : m = n
  ·exact .inl e
  ·rw [aF _ _ _ _ e] at hm; exact .inr (R.dom m hm)
 ·intro m y b hm hy hb
  by_cases e : m = n
  ·subst e; have hb : b = w.heap.size := by simpa [Env.add] using hb
   rw [jJ]; omega
  ·rw [aF _ _ _ _ e] at hm
   have := R.lt m y b hm hy (by simpa [Env.add, e] using hb)
   rw [jJ]; omega
 ·intro m y m' y' b hm hy hm' hy' hb hb'
  by_cases e : m = n <;> by_cases e' : m' = n
  ·rw [e, e']
  ·subst e; rw [aF _ _ _ _ e'] at hm'
   have hb : b = w.heap.size := by simpa [Env.add] using hb
   have := R.lt m' y' b hm' hy' (by simpa [Env.add, e'] using hb'); omega
  ·subst e'; rw [aF _ _ _ _ e] at hm
   have hb' : b = w.heap.size := by simpa [Env.add] using hb'
   have := R.lt m y b hm hy (by simpa [Env.add, e] using hb); omega
  ·rw [aF _ _ _ _ e] at hm; rw [aF _ _ _ _ e'] at hm'
   exact R.apart m y m' y' b hm hy hm' hy' (by simpa [Env.add, e] using hb) (by simpa [Env.add, e'] using hb')
 ·intro m y hm
  by_cases e : m = n
  ·subst e; rw [aH] at hm; obtain rfl := Option.some.inj hm; exact hx
  ·rw [aF _ _ _ _ e] at hm
   exact (R.obj m y hm).ev ev (by simp [Env.add, e]) (by funext c; simp [Env.add, e]) fun c hy hc => hheap c (R.lt m y c hm hy hc)
theorem qV {α : Type} {sz : Nat} : ∀ (es : List (List α)), (∀ e ∈ es, e.length = sz) → ∀ i j x, gO es i j = some x → es.flatten[i * sz + j]? = some x
 | [], _, i, j, x, hx => by simp [gO] at hx
 |e :: es, hs, 0, j, x, hx => by
  simp only [gO, List.getElem?_cons_zero, Option.bind_some] at hx
  have hl := (List.getElem?_eq_some_iff.1 hx).1
  simp only [List.flatten_cons, Nat.zero_mul, Nat.zero_add]
  rw [List.getElem?_append_left hl]; exact hx
 |e :: es, hs, i + 1, j, x, hx => by
  have he := hs e (by simp)
  have ih := qV es (fun e he => hs e (by simp [he])) i j x (by simpa [gO] using hx)
  simp only [List.flatten_cons]
  rw [List.getElem?_append_right (by rw [he, Nat.add_mul]; omega)]
  rw [← ih]; congr 1; rw [he, Nat.add_mul]; omega
theorem length_flatten {α : Type} {sz : Nat} : ∀ (es : List (List α)), (∀ e ∈ es, e.length = sz) → es.flatten.length = es.length * sz
 | [], _ => by simp
 |e :: es, hs => by
  have he := hs e (by simp)
  have ih := length_flatten es (fun e he => hs e (by simp [he]))
  simp [he, ih, Nat.add_mul]; omega
theorem m7 {α β : Type} (f : α → β) (es : List (List α)) (i j : Nat) : gO (es.map (List.map f)) i j = (gO es i j).map f := by
 unfold gO
 rw [List.getElem?_map]
 cases es[i]? <;> simp
theorem Rel.aQA {E : Env} {h : aB} {w : World} (R : Rel E h w) {n : Nat} (hn : ¬ E.used n) (sz : Nat) (es : List (List aD)) (hs : ∀ e ∈ es, e.length = sz)
  (cs : Array Value) (t : TypeId) (d : Nat) (cv : Nat → Nat → Value) (hm : es.length * sz ≤ cs.size)
  (hc : ∀ i j x, gO es i j = some x → cs[i * sz + j]? = some (cv i j) ∧ (cv i j).oneCell' = true ∧ dY E h w x (cv i j)) :
  Rel (E.add n w.heap.size) (a5 h n (.row sz (es.map (List.map .v)))) (p0 w (.cells cs t) d) := by
 refine R.aFI hn _ _ d (.inl ⟨w.heap.size, 0, by simp [Env.add], ?_⟩)
 have ev := Ev.alloc R hn (.cells cs t) (.row sz (es.map (List.map .v))) d
 refine ⟨by simp [Env.add], ?_, cs, t, cv, fun _ _ _ => False, ?_, by simpa using hm, fun _ _ _ hf => hf.elim, fun _ _ _ _ _ hf => hf.elim, ?_, ?_⟩
 ·intro e he
  obtain ⟨e', he', rfl⟩ := List.mem_map.1 he
  simpa using hs e' he'
 ·exact qU _ _ _
 ·intro i j x hx
  rw [m7] at hx
  obtain ⟨y, hy, rfl⟩ := Option.map_eq_some_iff.1 hx
  simpa using (hc i j y hy).1
 ·intro i j x hx
  rw [m7] at hx
  obtain ⟨y, hy, rfl⟩ := Option.map_eq_some_iff.1 hx
  exact .v _ _ _ (hc i j y hy).2.1 ((hc i j y hy).2.2.ev ev)
theorem Ev.write {E : Env} {h : aB} {w w' : World} (R : Rel E h w) {n b : Nat} {x : bL} (hn : h n = some x) (hx : x.live) (hb : E.fp n b) (x' : bL) (hx' : x'.live)
  (hsize : w'.heap.size = w.heap.size) (hoth : ∀ c, c ≠ b → w'.heap[c]? = w.heap[c]?) (hsh : w'.shape? b = w.shape? b) (hos : w'.os = w.os) (hout : w'.output = w.output) :
  Ev E h w E (a5 h n x') w' := by
 refine ⟨by omega, fun c hc => ⟨hoth c fun e => hc.2 n x hn hx (e ▸ hb), ⟨by have := hc.1; omega, ?_⟩⟩, fun c hc => ?_, fun m hm => ⟨rfl, ?_⟩, hos, hout⟩
 ·intro m y hm hy
  by_cases e : m = n
  ·subst e; exact hc.2 m x hn hx
  ·rw [aF _ _ _ _ e] at hm; exact hc.2 m y hm hy
 ·by_cases e : c = b
  ·rw [e]; exact hsh
  ·simp only [World.shape?, hoth c e]
 ·exact hm
theorem Rel.write {E : Env} {h : aB} {w w' : World} (R : Rel E h w) {n b : Nat} {x : bL} (hn : h n = some x) (hx : x.live) (hb : E.fp n b) (x' : bL) (hx' : x'.live)
  (hsize : w'.heap.size = w.heap.size) (hoth : ∀ c, c ≠ b → w'.heap[c]? = w.heap[c]?) (hsh : w'.shape? b = w.shape? b) (hos : w'.os = w.os) (hout : w'.output = w.output)
  (hO : xX E (a5 h n x') w' n x') : Rel E (a5 h n x') w' := by
 have ev := Ev.write R hn hx hb x' hx' hsize hoth hsh hos hout
 refine ⟨R.fin, ?_, ?_, ?_, ?_, R.laid.ev ev⟩
 ·intro m hm
  by_cases e : m = n
  ·subst e; exact R.dom m (by simp [hn])
  ·rw [aF _ _ _ _ e] at hm; exact R.dom m hm
 ·intro m y c hm hy hc
  rw [hsize]
  by_cases e : m = n
  ·subst e; exact R.lt m x c hn hx hc
  ·rw [aF _ _ _ _ e] at hm; exact R.lt m y c hm hy hc
 ·intro m y m' y' c hm hy hm' hy' hc hc'
  by_cases e : m = n <;> by_cases e' : m' = n
  ·rw [e, e']
  ·subst e; rw [aF _ _ _ _ e'] at hm'; exact R.apart m x m' y' c hn hx hm' hy' hc hc'
  ·subst e'; rw [aF _ _ _ _ e] at hm; exact R.apart m y m' x c hm hy hn hx hc hc'
  ·rw [aF _ _ _ _ e] at hm; rw [aF _ _ _ _ e'] at hm'; exact R.apart m y m' y' c hm hy hm' hy' hc hc'
 ·intro m y hm
  by_cases e : m = n
  ·subst e; rw [aH] at hm; obtain rfl := Option.some.inj hm; exact hO
  ·rw [aF _ _ _ _ e] at hm
   exact (R.obj m y hm).ev ev rfl rfl fun c hy hc => hoth c fun eb => e (R.apart m y n x b hm hy hn hx (eb ▸ hc) hb)
theorem mH.le {E : Env} {g h : aB} {w : World} {b : Nat} (hl : g.le h) (i : mH E h w b) : mH E g w b :=
 ⟨i.1, fun n o hn ho => i.2 n o (by rcases hl n with e | e
                                    · rw [e] at hn; simp at hn
                                    · rw [← e]; exact hn) ho⟩
theorem dY.nS {E : Env} {g h : aB} {w : World} (hi : ∀ b, mH E h w b → mH E g w b) {x : aD} {v : Value} (r : dY E h w x v) : dY E g w x v := by
 induction r with
 |any v => exact .any v
 |bool b => exact .bool b
 |int k n => exact .int k n
 |str s hl => exact .str s hl
 |iE => exact .iE
 |bO => exact .bO
 |pE => exact .pE
 |j6 => exact .j6
 |lW => exact .lW
 |wW sz t a cap ht hmax ha => exact .wW sz t a cap ht hmax ha
 |sl sz es t b o cap cv hb hcap hmax ht hs hc h1 hr ih => exact .sl sz es t b o cap cv (hi b hb) hcap hmax ht hs hc h1 ih
 |ip sz es i off b o cv hb hs hc h1 hr ih => exact .ip sz es i off b o cv (hi b hb) hs hc h1 ih
 |os n sz i len b o cap t m hd hl hlc hmax hsh hm => exact .os n sz i len b o cap t m hd hl hlc hmax hsh hm
 |os0 n sz hd hl => exact .os0 n sz hd hl
 |op n sz i off b o hd hl => exact .op n sz i off b o hd hl
 |agg cs vs hl hr ih => exact .agg cs vs hl ih
 |gN cs vs hl hr ih => exact .gN cs vs hl ih
 |fn f cs ds vs us hl hr hl' hr' ih ih' => exact .fn f cs ds vs us hl ih hl' ih'
 |iface t x v hr ih => exact .iface t x v ih
 |mp n b o hd hl => exact .mp n b o hd hl
theorem cX.nS {E : Env} {g h : aB} {w : World} (hi : ∀ b, mH E h w b → mH E g w b) : ∀ {xs : List aD} {vs : List Value}, cX E h w xs vs → cX E g w xs vs
 | [], [], _ => trivial
 | _ :: _, _ :: _, hh => ⟨hh.1.nS hi, cX.nS hi hh.2⟩
 | [], _ :: _, hh => hh.elim
 | _ :: _, [], hh => hh.elim
theorem rK.nS {E : Env} {g h : aB} {w : World} (hi : ∀ b, mH E h w b → mH E g w b) {x : Cell} {v : Value} {S : Nat → Prop} (r : rK E h w x v S) : rK E g w x v S := by
 induction r with
 |v x c S h1 hx => exact .v x c S h1 (hx.nS hi)
 |aL7 sz a cap S hmax ha => exact .aL7 sz a cap S hmax ha
 |own sz es b o cap S cs t cv T hb hh hlc hmax hm hs hT hD hc hr ih => exact .own sz es b o cap S cs t cv T hb hh hlc hmax hm hs hT hD hc ih
theorem xX.nS {E : Env} {g h : aB} {w : World} (hi : ∀ b, mH E h w b → mH E g w b) {n : Nat} {o : bL} (r : xX E h w n o) : xX E g w n o := by
 cases o with
 |row sz es =>
  rcases r with ⟨b, o, hb, hbS, hs, cs, t, cv, T, hh, hm, hT, hD, hcc, hrr⟩ | r
  ·exact .inl ⟨b, o, hb, hbS, hs, cs, t, cv, T, hh, hm, hT, hD, hcc, fun i j x hx => (hrr i j x hx).nS hi⟩
  ·exact .inr r
 |map kt et l =>
  obtain ⟨b, o, hb, hbS, es, clock, hh, hk, h1, h2⟩ := r
  exact ⟨b, o, hb, hbS, es, clock, hh, hk, h1.nS hi, h2.nS hi⟩
 |raw t cs => exact r
 |abs Q => exact r
 |gone => trivial
theorem Rel.forget {E : Env} {g h : aB} {w : World} (R : Rel E h w) (hl : g.le h) : Rel E g w := by
 have hgl : ∀ n o, g n = some o → h n = some o := fun n o hg => by
  rcases hl n with e | e
  ·rw [e] at hg; simp at hg
  ·rw [← e]; exact hg
 refine ⟨R.fin, fun n hn => R.dom n ?_, fun n o b hn => R.lt n o b (hgl n o hn), fun n o m o' b hn ho hm => R.apart n o m o' b (hgl n o hn) ho (hgl m o' hm),
  fun n o hn => (R.obj n o (hgl n o hn)).nS fun b => mH.le hl, R.laid.nS fun b => mH.le hl⟩
 rcases hl n with e | e
 ·exact absurd e hn
 ·rw [← e]; exact hn
theorem Ev.forget {E E' : Env} {h h' g : aB} {w w' : World} (ev : Ev E h w E' h' w') (hl : g.le h') : Ev E h w E' g w' :=
 ⟨ev.size, fun b hb => ⟨(ev.keep b hb).1, (ev.keep b hb).2.le hl⟩, ev.shape, ev.loc, ev.os, ev.out⟩
theorem uW {E : Env} {h : aB} {w : World} (n : Nat) (b : Nat) (i : mH E h w b) : mH E (a5 h n .gone) w b :=
 ⟨i.1, fun m o hm ho => by
  by_cases e : m = n
  ·subst e; rw [aH] at hm; obtain rfl := Option.some.inj hm; exact ho.elim
  ·rw [aF _ _ _ _ e] at hm; exact i.2 m o hm ho⟩
theorem aAX {E : Env} {h : aB} {w : World} (R : Rel E h w) {n : Nat} {x : bL} (hn : h n = some x) (hx : x.live) (b : Nat) (hb : E.fp n b) : mH E (a5 h n .gone) w b :=
 ⟨R.lt n x b hn hx hb, fun m o hm ho hf => by
  by_cases e : m = n
  ·subst e; rw [aH] at hm; obtain rfl := Option.some.inj hm; exact ho.elim
  ·rw [aF _ _ _ _ e] at hm; exact e (R.apart m o n x b hm ho hn hx hf hb)⟩
theorem Rel.gone {E : Env} {h : aB} {w : World} (R : Rel E h w) {n : Nat} {x : bL} (hn : h n = some x) : Rel E (a5 h n .gone) w := by
 refine ⟨R.fin, fun m hm => ?_, ?_, ?_, ?_, R.laid.nS fun b => uW n b⟩
 ·by_cases e : m = n
  ·subst e; exact R.dom m (by simp [hn])
  ·rw [aF _ _ _ _ e] at hm; exact R.dom m hm
 ·intro m o b hm ho
  by_cases e : m = n
  ·subst e; rw [aH] at hm; obtain rfl := Option.some.inj hm; exact ho.elim
  ·rw [aF _ _ _ _ e] at hm; exact R.lt m o b hm ho
 ·intro m o m' o' b hm ho hm' ho'
  by_cases e : m = n
  ·subst e; rw [aH] at hm; obtain rfl := Option.some.inj hm; exact ho.elim
  ·by_cases e' : m' = n
   ·subst e'; rw [aH] at hm'; obtain rfl := Option.some.inj hm'; exact ho'.elim
   ·rw [aF _ _ _ _ e] at hm; rw [aF _ _ _ _ e'] at hm'; exact R.apart m o m' o' b hm ho hm' ho'
 ·intro m o hm
  by_cases e : m = n
  ·subst e; rw [aH] at hm; obtain rfl := Option.some.inj hm; trivial
  ·rw [aF _ _ _ _ e] at hm; exact (R.obj m o hm).nS fun b => uW n b
theorem Ev.gone {E : Env} {h : aB} {w : World} (n : Nat) : Ev E h w E (a5 h n .gone) w :=
 ⟨Nat.le_refl _, fun b hb => ⟨rfl, uW n b hb⟩, fun _ _ => rfl, fun _ hn => ⟨rfl, hn⟩, rfl, rfl⟩
mutual
def Cell.val : Cell → aD
 | .v x => x
 | .own sz es => .sl sz (dR es) false
def dR : List (List Cell) → List (List aD)
 | [] => []
 |e :: es => zW e :: dR es
def zW : List Cell → List aD
 | [] => []
 |c :: cs => c.val :: zW cs
end
theorem aFJ : ∀ (e : List Cell), zW e = e.map Cell.val
 | [] => rfl
 |c :: cs => by simp [zW, aFJ cs]
theorem s5 : ∀ (es : List (List Cell)), dR es = es.map (List.map Cell.val)
 | [] => rfl
 |e :: es => by simp [dR, s5 es, aFJ]
theorem oO (es : List (List Cell)) (i j : Nat) : gO (dR es) i j = (gO es i j).map Cell.val := by
 rw [s5, m7]
theorem p1 (es : List (List Cell)) : (dR es).length = es.length := by rw [s5, List.length_map]
theorem s6 {sz : Nat} {es : List (List Cell)} (hs : ∀ e ∈ es, e.length = sz) : ∀ e ∈ dR es, e.length = sz := by
 intro e he
 rw [s5] at he
 obtain ⟨e', he', rfl⟩ := List.mem_map.1 he
 simpa using hs e' he'
theorem rK.nT {E : Env} {h g : aB} {w : World} {x : Cell} {v : Value} {S : Nat → Prop} (hi : ∀ b, mH E h w b → mH E g w b)
  (r : rK E h w x v S) (hS : ∀ c, S c → mH E g w c) : dY E g w x.val v := by
 induction r with
 |v x c S h1 hx => exact hx.nS hi
 |aL7 sz a cap S hmax ha =>
  simp only [Cell.val, dR]
  exact .wW sz false a cap (fun e => by simp at e) hmax ha
 |own sz es b o cap S cs t cv T hb hh hlc hmax hm hs hT hD hc hr ih =>
  simp only [Cell.val]
  have := dY.sl (E := E) (h := g) (w := w) sz (dR es) false b o cap cv (hS b hb) (by rw [p1]; exact hlc) hmax (fun e => by simp at e) (s6 hs)
   (fun i j x hx => by
    rw [oO] at hx
    obtain ⟨y, hy, rfl⟩ := Option.map_eq_some_iff.1 hx
    simp only [World.cell?, hh]; exact hc i j y hy)
   (fun i j x hx => by
    rw [oO] at hx
    obtain ⟨y, hy, rfl⟩ := Option.map_eq_some_iff.1 hx
    exact (hr i j y hy).one)
   (fun i j x hx => by
    rw [oO] at hx
    obtain ⟨y, hy, rfl⟩ := Option.map_eq_some_iff.1 hx
    exact ih i j y hy fun c hc => hS c (hT i j c hc).1)
  rw [p1] at this
  exact this
section types
variable {P : Program} {w : World} {t : TypeId} {r : jS}
theorem fJ (h : gH P t = some r) : (sizeOf t).run P w = .ok r.sz w := by
 obtain ⟨i, u, hi, hu, h1, _⟩ := oN h
 simp [sizeOf, typeInfo, hi, h1]
theorem aL9 (h : gH P t = some r) : (isAgg t).run P w = .ok r.agg w := by
 obtain ⟨i, u, hi, hu, h1, h2, h3, h4, h5⟩ := oN h
 rw [h4]
 cases u <;> simp [isAgg, underlying, hu]
theorem bN (h : gH P t = some r) : ∃ u, P.underlying t = some u ∧ tyD P u = r.d ∧ (underlying t).run P w = .ok u w := by
 obtain ⟨i, u, hi, hu, h1, h2, h3, h4, h5⟩ := oN h
 exact ⟨u, hu, h3.symm, by simp [underlying, hu]⟩
theorem mO (h : gH P t = some r) (hz : r.zero ≠ []) : ∃ z, (zeroValue t).run P w = .ok z w ∧ z.cells.toList.map aD.ofValue = r.zero := by
 obtain ⟨i, u, hi, hu, h1, h2, h3, h4, h5⟩ := oN h
 cases e : i.zero with
 |none => rw [h5, e] at hz; exact absurd rfl hz
 |some z => exact ⟨z, by simp [zeroValue, typeInfo, hi, e], by rw [h5, e]⟩
theorem fU {u : TypeDesc} {e : TypeId} (h : tyD P u = .slice e) : u = .slice e := by
 cases u <;> simp [tyD] at h ⊢ <;> first | exact h | (split at h <;> simp at h)
theorem aVQ {u : TypeDesc} {n : Nat} {e : TypeId} (h : tyD P u = .arr n e) : u = .array n e := by
 cases u <;> simp [tyD] at h ⊢ <;> first | exact h | (split at h <;> simp at h)
theorem xZ {u : TypeDesc} (h : tyD P u = .str) : u = .string := by
 cases u <;> simp [tyD] at h ⊢ <;> (split at h <;> simp at h)
theorem aRX {u : TypeDesc} (h : tyD P u = .bool) : u = .bool := by
 cases u <;> simp [tyD] at h ⊢ <;> (split at h <;> simp at h)
theorem aNY {u : TypeDesc} {k : IntKind} (h : tyD P u = .int k) : u = .int k := by
 cases u <;> simp [tyD] at h ⊢ <;> first | exact h | (split at h <;> simp at h)
theorem aRY {u : TypeDesc} {fs : List (Nat × TypeId × Nat)} (h : tyD P u = .st fs) : ∃ gs : Array Field, u = .struct gs ∧ gs.toList.all (fun f => (P.info? f.type).isSome) = true ∧ gs.toList.map (fun f => (f.offset, f.type, P.cellsOf f.type)) = fs := by
 cases u with
 |struct gs =>
  simp only [tyD] at h
  split at h
  ·rename_i hg; exact ⟨gs, rfl, hg, by simpa using h⟩
  ·simp at h
 | _ => simp [tyD] at h
theorem uX {f : Field} (h : (P.info? f.type).isSome = true) : (sizeOf f.type).run P w = .ok (P.cellsOf f.type) w := by
 cases e : P.info? f.type with
 |none => simp [e] at h
 |some i => simp [sizeOf, typeInfo, e, Program.cellsOf]
end types
def aD.flat : aD → Bool
 | .any | .agg _ | .gN _ => false
 | _ => true
def aD.cells : aD → List aD
 | .agg cs => cs
 |x => [x]
theorem dY.m8 {E : Env} {h : aB} {w : World} {x : aD} {v : Value} (r : dY E h w x v) (hf : x.flat = true) : v.oneCell' = true ∧ v.cells = #[v] := by
 cases r <;> simp [aD.flat] at hf <;> exact ⟨rfl, rfl⟩
theorem dY.zX {E : Env} {h : aB} {w : World} {x : aD} {v : Value} (r : dY E h w x v) (hf : x.cells.all aD.flat = true) :
  cX E h w x.cells v.cells.toList ∧ ∀ c ∈ v.cells.toList, c.oneCell' = true := by
 cases hx : x with
 |agg cs =>
  subst hx
  cases r with
  |agg _ vs hl hr =>
   have hL : cX E h w cs vs := cX.mk hl hr
   refine ⟨by simpa [aD.cells, Value.cells] using hL, ?_⟩
   intro c hc
   have hc : c ∈ vs := by simpa [Value.cells] using hc
   obtain ⟨i, hi⟩ := List.getElem?_of_mem hc
   have hlt : i < cs.length := by rw [hl]; exact (List.getElem?_eq_some_iff.1 hi).1
   have hx : cs[i]? = some cs[i] := List.getElem?_eq_getElem hlt
   have := hr i _ c hx hi
   exact (this.m8 (by simp only [aD.cells] at hf; exact List.all_eq_true.1 hf _ (List.getElem_mem hlt))).1
 | _ =>
  subst hx
  first
   |(simp [aD.cells, aD.flat] at hf; done)
   |(obtain ⟨h1, h2⟩ := r.m8 rfl
     rw [h2]
     exact ⟨⟨r, trivial⟩, fun c hc => by simp at hc; rw [hc]; exact h1⟩)
def uY : List Cell → Option (List aD)
 | [] => some []
 | .v x :: cs => (uY cs).map (x :: ·)
 | .own _ _ :: _ => none
theorem wX : ∀ {l : List Cell} {xs : List aD}, uY l = some xs → l = xs.map .v
 | [], xs, h => by simp [uY] at h; subst h; rfl
 | .v x :: cs, xs, h => by
  simp only [uY, Option.map_eq_some_iff] at h
  obtain ⟨ys, hy, rfl⟩ := h
  simp [wX hy]
 | .own _ _ :: _, xs, h => by simp [uY] at h
def ld (r : jS) (e : List aD) (off : Nat) : Option aD :=
 if r.agg then (if off + r.sz ≤ e.length then some (.agg ((e.drop off).take r.sz)) else none) else e[off]?
def aAY (r : jS) (e : List Cell) (off : Nat) : Option aD :=
 if r.agg then (if off + r.sz ≤ e.length then (uY ((e.drop off).take r.sz)).map .agg else none)
 else match e[off]? with | some (.v x) => some x | _ => none
theorem x5 {P : Program} {w : World} {t : TypeId} {r : jS} (ht : gH P t = some r) {b o : Nat} (f : Nat → Value)
  (hc : ∀ j, j < (if r.agg then r.sz else 1) → w.cell? ⟨b, o + j, none⟩ = some (f j)) :
  (loadVar t ⟨b, o, none⟩).run P w = .ok (if r.agg then .agg ((List.range r.sz).map f).toArray else f 0) w := by
 simp only [loadVar, Sem.run_bind, aL9 ht, Result.andThen_ok]
 cases ha : r.agg with
 |true =>
  simp only [ha, if_true] at hc ⊢
  simp only [Sem.run_bind, fJ ht, Result.andThen_ok]
  rw [run_loadCells w ⟨b, o, none⟩ r.sz f (fun j hj => by rw [← hc j hj]; simp only [Addr.add]; split <;> simp_all)]
  simp
 |false =>
  simp only [ha, Bool.false_eq_true, if_false] at hc ⊢
  have := hc 0 (by omega)
  simp only [Nat.add_zero] at this
  simp [this]
section
variable {P : Program} {o : Oper} {ρ : Operand → aD} {h : aB} {K : aD → aB → Prop}
theorem aAZ {E : Env} {w : World} {v : Value} (t : TypeId) (r : jS) (sz i off : Nat) (es : List (List aD)) (e : List aD) (x : aD) (ht : gH P t = some r)
  (hr : dY E h w (.ip sz es i off) v) (he : es[i]? = some e) (hx : ld r e off = some x) : ∃ b o c, v = .pointer (some ⟨b, o, none⟩) ∧ (loadVar t ⟨b, o, none⟩).run P w = .ok c w ∧ dY E h w x c := by
  cases hr with
  |ip _ _ _ _ b o' cv hi hs hc h1 hrr =>
   have hsz := hs e (List.mem_of_getElem? he)
   have hat : ∀ j y, e[j]? = some y → gO es i j = some y := fun j y hy => by simp [gO, he, hy]
   have hcell : ∀ j, j < (if r.agg then r.sz else 1) → off + j < e.length := by
    intro j hj
    unfold ld at hx
    cases hg : r.agg with
    |true =>
     simp only [hg, if_true] at hx hj
     split at hx
     ·omega
     ·simp at hx
    |false =>
     simp only [hg, Bool.false_eq_true, if_false] at hx hj
     have := (List.getElem?_eq_some_iff.1 hx).1
     omega
   have hload := x5 (P := P) (w := w) ht (b := b) (o := o' + i * sz + off) (fun j => cv i (off + j)) (fun j hj => by
    have := hc i (off + j) _ (hat (off + j) _ (List.getElem?_eq_getElem (hcell j hj)))
    rw [← this]; congr 2; omega)
   refine ⟨_, _, _, rfl, hload, ?_⟩
   unfold ld at hx
   cases hg : r.agg with
   |true =>
    simp only [hg, if_true] at hx hcell ⊢
    split at hx
    ·rename_i hle
     obtain rfl := Option.some.inj hx
     refine .agg _ _ (by simp; omega) ?_
     intro j y v hy hv
     have hj : j < r.sz := by have := (List.getElem?_eq_some_iff.1 hv).1; simpa using this
     simp only [List.getElem?_map, List.getElem?_range hj, Option.map_some, Option.some.injEq] at hv
     subst hv
     rw [List.getElem?_take_of_lt hj, List.getElem?_drop] at hy
     exact hrr i (off + j) y (hat _ _ hy)
    ·simp at hx
   |false =>
    simp only [hg, Bool.false_eq_true, if_false, Nat.add_zero] at hx hcell ⊢
    exact hrr i off x (hat _ _ hx)
theorem aI2 (t : TypeId) (a : Operand) (r : jS) (sz i off : Nat) (es : List (List aD)) (e : List aD) (x : aD) (ho : o.op = .load t a) (ht : gH P t = some r)
  (ha : ρ a = .ip sz es i off) (he : es[i]? = some e) (hx : ld r e off = some x) (hk : K x h) : lU P o ρ h K :=
 bU hk fun E w ρc _ hρ => by
  obtain ⟨b, k, c, hv, hrun, hc⟩ := aAZ (P := P) t r sz i off es e x ht (ha ▸ hρ a) he hx
  exact ⟨c, by simp only [execOp, ho, Instr.loadAt, hv, Instr.sureAddr, Sem.run_bind, Sem.run_pure, Result.andThen_ok, hrun], hc⟩
theorem uZ {E : Env} {w : World} (R : Rel E h w) {n sz : Nat} {es : List (List Cell)} (hn : h n = some (.row sz es)) (hne : es ≠ [] ∨ ∃ x, E.loc n = some x) :
  ∃ b o, E.loc n = some (b, o) ∧ aCH E h w b o sz es (E.fp n) := by
 rcases R.obj n _ hn with h1 | h1
 ·exact h1
 ·rcases hne with h2 | ⟨x, h2⟩
  ·exact absurd h1.1 h2
  ·rw [h1.2] at h2; simp at h2
theorem aFK {α : Type} {es : List α} {i : Nat} {e : α} (h : es[i]? = some e) : es ≠ [] := by rintro rfl; simp at h
theorem aA0 {E : Env} {w : World} {v : Value} (R : Rel E h w) (t : TypeId) (r : jS) (n sz i off : Nat) (es : List (List Cell)) (e : List Cell) (x : aD) (ht : gH P t = some r)
  (hr : dY E h w (.op n sz i off) v) (hn : h n = some (.row sz es)) (he : es[i]? = some e) (hx : aAY r e off = some x) : ∃ b o c, v = .pointer (some ⟨b, o, none⟩) ∧ (loadVar t ⟨b, o, none⟩).run P w = .ok c w ∧ dY E h w x c := by
  obtain ⟨b, o', hl, hb, hs, cs, ct, cv, T, hh, hm, hT, hD, hc, hrr⟩ := uZ R hn (.inl (aFK he))
  cases hr with
  |op _ _ _ _ b' o'' hd hl' =>
   rw [hl] at hl'
   obtain ⟨rfl, rfl⟩ := Prod.mk.inj (Option.some.inj hl')
   have hsz := hs e (List.mem_of_getElem? he)
   have hat : ∀ j y, e[j]? = some y → gO es i j = some y := fun j y hy => by simp [gO, he, hy]
   have hcell : ∀ j, j < (if r.agg then r.sz else 1) → off + j < e.length := by
    intro j hj
    unfold aAY at hx
    cases hg : r.agg with
    |true =>
     simp only [hg, if_true] at hx hj
     split at hx
     ·omega
     ·simp at hx
    |false =>
     simp only [hg, Bool.false_eq_true, if_false] at hx hj
     split at hx
     ·rename_i he'
      have := (List.getElem?_eq_some_iff.1 he').1
      omega
     ·simp at hx
   have hload := x5 (P := P) (w := w) ht (b := b) (o := o' + i * sz + off) (fun j => cv i (off + j)) (fun j hj => by
    have := hc i (off + j) _ (hat (off + j) _ (List.getElem?_eq_getElem (hcell j hj)))
    simp only [World.cell?, hh]; rw [← this]; simp; congr 1; omega)
   refine ⟨_, _, _, rfl, hload, ?_⟩
   have hval : ∀ j y, e[j]? = some (.v y) → dY E h w y (cv i j) := fun j y hy => by
    have := hrr i j _ (hat _ _ hy)
    generalize cv i j = c at this
    generalize T i j = S at this
    cases this with
    |v _ _ _ _ hx => exact hx
   unfold aAY at hx
   cases hg : r.agg with
   |true =>
    simp only [hg, if_true] at hx hcell ⊢
    split at hx
    ·rename_i hle
     obtain ⟨xs, hxs, rfl⟩ := Option.map_eq_some_iff.1 hx
     have hxs := wX hxs
     have hlen : xs.length = r.sz := by have := congrArg List.length hxs; simp at this; omega
     refine .agg _ _ (by simp [hlen]) ?_
     intro j y v hy hv
     have hj : j < r.sz := by have := (List.getElem?_eq_some_iff.1 hv).1; simpa using this
     simp only [List.getElem?_map, List.getElem?_range hj, Option.map_some, Option.some.injEq] at hv
     subst hv
     refine hval (off + j) y ?_
     have : ((e.drop off).take r.sz)[j]? = some (.v y) := by rw [hxs, List.getElem?_map, hy]; rfl
     rwa [List.getElem?_take_of_lt hj, List.getElem?_drop] at this
    ·simp at hx
   |false =>
    simp only [hg, Bool.false_eq_true, if_false, Nat.add_zero] at hx hcell ⊢
    split at hx
    ·rename_i y he'
     obtain rfl := Option.some.inj hx
     exact hval off _ he'
    ·simp at hx
theorem aI3 (t : TypeId) (a : Operand) (r : jS) (n sz i off : Nat) (es : List (List Cell)) (e : List Cell) (x : aD) (ho : o.op = .load t a) (ht : gH P t = some r)
  (ha : ρ a = .op n sz i off) (hn : h n = some (.row sz es)) (he : es[i]? = some e) (hx : aAY r e off = some x) (hk : K x h) : lU P o ρ h K :=
 bU hk fun E w ρc R hρ => by
  obtain ⟨b, k, c, hv, hrun, hc⟩ := aA0 (P := P) R t r n sz i off es e x ht (ha ▸ hρ a) hn he hx
  exact ⟨c, by simp only [execOp, ho, Instr.loadAt, hv, Instr.sureAddr, Sem.run_bind, Sem.run_pure, Result.andThen_ok, hrun], hc⟩
end
set_option linter.unusedVariables false
set_option linter.unusedSimpArgs false
def mD (e : List Cell) (off : Nat) : List aD → List Cell
 | [] => e
 |v :: vs => mD (e.set off (.v v)) (off + 1) vs
theorem kX {w : World} {b : Nat} {cs : Array Value} {t : TypeId} {f : Nat × Nat} (h : w.heap[b]? = some (.cells cs t f)) : w.shape? b = some (t, cs.size) := by
 simp [World.shape?, h]
theorem aA1 {es : List (List Cell)} {i j i' j' : Nat} {e : List Cell} {c x : Cell} (he : es[i]? = some e) (hx : gO (es.set i (e.set j c)) i' j' = some x) :
  (i' = i ∧ j' = j ∧ x = c) ∨ (¬ (i' = i ∧ j' = j) ∧ gO es i' j' = some x) := by
 have hi := (List.getElem?_eq_some_iff.1 he).1
 unfold gO at *
 by_cases e1 : i' = i
 ·subst e1
  rw [List.getElem?_set_self hi] at hx
  simp only [Option.bind_some] at hx
  by_cases e2 : j' = j
  ·subst e2
   left
   have hj : j' < e.length := by have := (List.getElem?_eq_some_iff.1 hx).1; simpa using this
   rw [List.getElem?_set_self hj] at hx
   exact ⟨rfl, rfl, (Option.some.inj hx).symm⟩
  ·right
   rw [List.getElem?_set_ne (fun e3 => e2 e3.symm)] at hx
   exact ⟨fun h => e2 h.2, by rw [he]; exact hx⟩
 ·right
  rw [List.getElem?_set_ne (fun e2 => e1 e2.symm)] at hx
  exact ⟨fun h => e1 h.1, hx⟩
theorem wY {i n sz j : Nat} (hi : i < n) (hj : j < sz) : i * sz + j < n * sz := by
 have := Nat.mul_le_mul_right sz (Nat.succ_le_of_lt hi)
 rw [Nat.succ_mul] at this
 omega
theorem aVR {sz i j i' j' : Nat} (hj : j < sz) (hj' : j' < sz) (h : i * sz + j = i' * sz + j') : i = i' ∧ j = j' := by
 have h1 : (i * sz + j) / sz = i := by rw [Nat.mul_comm, Nat.mul_add_div (by omega), Nat.div_eq_of_lt hj]; omega
 have h2 : (i' * sz + j') / sz = i' := by rw [Nat.mul_comm, Nat.mul_add_div (by omega), Nat.div_eq_of_lt hj']; omega
 have : i = i' := by rw [← h1, ← h2, h]
 subst this
 exact ⟨rfl, by omega⟩
theorem aQB {P : Program} {E : Env} {h : aB} {w : World} (R : Rel E h w) {n sz : Nat} {es : List (List Cell)} (hn : h n = some (.row sz es)) {b o : Nat} (hl : E.loc n = some (b, o))
  {i j : Nat} {e : List Cell} (he : es[i]? = some e) (hj : j < e.length) {x : aD} {c : Value} (hone : c.oneCell' = true) (hx : dY E h w x c) :
  (store ⟨b, o + i * sz + j, none⟩ c).run P w = .ok () (w.setCell ⟨b, o + i * sz + j, none⟩ c) ∧
  Ev E h w E (a5 h n (.row sz (es.set i (e.set j (.v x))))) (w.setCell ⟨b, o + i * sz + j, none⟩ c) ∧
  Rel E (a5 h n (.row sz (es.set i (e.set j (.v x))))) (w.setCell ⟨b, o + i * sz + j, none⟩ c) := by
 obtain ⟨b', o', hl', hb, hs, cs, ct, cv, T, hh, hm, hT, hD, hc, hrr⟩ := uZ R hn (.inl (aFK he))
 rw [hl] at hl'
 obtain ⟨rfl, rfl⟩ := Prod.mk.inj (Option.some.inj hl')
 have hsz := hs e (List.mem_of_getElem? he)
 have hi := (List.getElem?_eq_some_iff.1 he).1
 have hat : gO es i j = some e[j] := by simp [gO, he, List.getElem?_eq_getElem hj]
 have hcell := hc i j _ hat
 have hlt : o + i * sz + j < cs.size := (Array.getElem?_eq_some_iff.1 hcell).1
 have hw? : w.cell? ⟨b, o + i * sz + j, none⟩ = some (cv i j) := by simp only [World.cell?, hh]; simpa using hcell
 have hfz : w.frozen? ⟨b, o + i * sz + j, none⟩ = false := by simp [World.frozen?, hh]
 have hrun : (store ⟨b, o + i * sz + j, none⟩ c).run P w = .ok () (w.setCell ⟨b, o + i * sz + j, none⟩ c) := by
  rw [run_store P w _ _ _ hone, hw?]; simp [hfz]
 have hheap : (w.setCell ⟨b, o + i * sz + j, none⟩ c).heap[b]? = some (.cells (cs.setIfInBounds (o + i * sz + j) c) ct (0, 0)) := by
  simp [World.setCell, Array.getElem?_modify, hh]
 have hoth : ∀ k, k ≠ b → (w.setCell ⟨b, o + i * sz + j, none⟩ c).heap[k]? = w.heap[k]? := fun k hk => by
  simp [World.setCell, Array.getElem?_modify, Ne.symm hk]
 have hsh : (w.setCell ⟨b, o + i * sz + j, none⟩ c).shape? b = w.shape? b := by rw [kX hheap, kX hh]; simp
 have ev := Ev.write R hn trivial hb (.row sz (es.set i (e.set j (.v x)))) trivial (World.size_setCell _ _ _) hoth hsh rfl rfl
 refine ⟨hrun, ev, R.write hn trivial hb _ trivial (World.size_setCell _ _ _) hoth hsh rfl rfl (.inl ⟨b, o, hl, hb, ?_, cs.setIfInBounds (o + i * sz + j) c, ct,
  fun i' j' => if i' = i ∧ j' = j then c else cv i' j', T, hheap, by simpa using hm, hT, hD, ?_, ?_⟩)⟩
 ·intro e' he'
  rcases List.mem_or_eq_of_mem_set he' with h1 | h1
  ·exact hs e' h1
  ·rw [h1]; simpa using hsz
 ·intro i' j' y hy
  rcases aA1 he hy with ⟨rfl, rfl, rfl⟩ | ⟨hne, hy'⟩
  ·simp [Array.getElem?_setIfInBounds, hlt]
  ·have hj' := aBU hs hy'
   have : o + i * sz + j ≠ o + i' * sz + j' := fun e => hne (by
    have := aVR (sz := sz) (i := i) (j := j) (i' := i') (j' := j') (by omega) hj' (by omega)
    exact ⟨this.1.symm, this.2.symm⟩)
   simp only [if_neg hne]
   rw [Array.getElem?_setIfInBounds_ne this]
   exact hc i' j' y hy'
 ·intro i' j' y hy
  rcases aA1 he hy with ⟨rfl, rfl, rfl⟩ | ⟨hne, hy'⟩
  ·simp only [and_self, if_true]
   exact .v _ _ _ hone (hx.ev ev)
  ·simp only [if_neg hne]
   exact (hrr i' j' y hy').ev ev fun k hk => hoth k (hT i' j' k hk).2
theorem aGT (es : List (List Cell)) (i : Nat) (a b : List Cell) : (es.set i a).set i b = es.set i b := by simp
theorem aCK {P : Program} {n sz : Nat} {b o i : Nat} : ∀ (xs : List aD) (vs : List Value) {E : Env} {h : aB} {w : World} (R : Rel E h w) {es : List (List Cell)} (hn : h n = some (.row sz es)) (hl : E.loc n = some (b, o))
  {j k : Nat} {e : List Cell} (he : es[i]? = some e) (hj : j + k + xs.length ≤ e.length) (hone : ∀ c ∈ vs, c.oneCell' = true) (hx : cX E h w xs vs),
  ∃ w', (storeCells ⟨b, o + i * sz + j, none⟩ vs k).run P w = .ok () w' ∧ Ev E h w E (a5 h n (.row sz (es.set i (mD e (j + k) xs)))) w' ∧ Rel E (a5 h n (.row sz (es.set i (mD e (j + k) xs)))) w'
 | [], [], E, h, w, R, es, hn, hl, j, k, e, he, hj, hone, hx => by
  refine ⟨w, by simp [storeCells], ?_⟩
  have hi := (List.getElem?_eq_some_iff.1 he).1
  have : es.set i (mD e (j + k) []) = es := by
   have : es[i] = e := (List.getElem?_eq_some_iff.1 he).2
   simp [mD, ← this]
  rw [this]
  have : a5 h n (.row sz es) = h := by funext m; simp only [a5]; split <;> simp_all
  rw [this]
  exact ⟨.refl _ _ _, R⟩
 |x :: xs, c :: vs, E, h, w, R, es, hn, hl, j, k, e, he, hj, hone, hx => by
  have hlen : j + k < e.length := by simp at hj; omega
  obtain ⟨h1, h2, h3⟩ := aQB (P := P) R hn hl he hlen (hone c (by simp)) hx.1
  have hi := (List.getElem?_eq_some_iff.1 he).1
  have he' : (es.set i (e.set (j + k) (.v x)))[i]? = some (e.set (j + k) (.v x)) := by rw [List.getElem?_set_self hi]
  obtain ⟨w', hw', ev', R'⟩ := aCK xs vs h3 (aH _ _ _) hl (j := j) (k := k + 1) he' (by simp at hj ⊢; omega) (fun c hc => hone c (by simp [hc])) (hx.2.ev h2)
  rw [aK, aGT] at ev' R'
  have hst : mD e (j + k) (x :: xs) = mD (e.set (j + k) (.v x)) (j + (k + 1)) xs := by simp only [mD]; rfl
  rw [hst]
  refine ⟨w', ?_, h2.trans ev', R'⟩
  simp only [storeCells, Sem.run_bind]
  have ha : (⟨b, o + i * sz + j, none⟩ : Addr).add k = ⟨b, o + i * sz + (j + k), none⟩ := by
   simp only [Addr.add]; split
   ·subst_vars; rfl
   ·simp
  rw [ha, h1]
  exact hw'
 | [], _ :: _, _, _, _, _, _, _, _, _, _, _, _, _, _, hx => hx.elim
 | _ :: _, [], _, _, _, _, _, _, _, _, _, _, _, _, _, hx => hx.elim
section
variable {P : Program} {o : Oper} {ρ : Operand → aD} {h : aB} {K : aD → aB → Prop}
theorem aQC (t : TypeId) (a v : Operand) (r : jS) (n sz i off : Nat) (es : List (List Cell)) (e : List Cell) (ho : o.op = .store t a v) (ht : gH P t = some r)
  (ha : ρ a = .op n sz i off) (hn : h n = some (.row sz es)) (he : es[i]? = some e) (hf : (ρ v).cells.all aD.flat = true) (hsz : (ρ v).cells.length = r.sz) (hoff : off + r.sz ≤ e.length)
  (hk : K .any (a5 h n (.row sz (es.set i (mD e off (ρ v).cells))))) : lU P o ρ h K := by
 intro E w ρc R hρ
 have hr := hρ a
 rw [ha] at hr
 cases hv : ρc a <;> rw [hv] at hr <;> try (cases hr; done)
 cases hr with
 |op _ _ _ _ b o' hd hl =>
  obtain ⟨hL, h1⟩ := (hρ v).zX hf
  obtain ⟨w', hrun, ev, R'⟩ := aCK (P := P) _ _ R hn hl (j := off) (k := 0) he (by omega) h1 hL
  simp only [Nat.add_zero] at ev R'
  have hsize : (ρc v).cells.size = r.sz := by have := hL.length; simp at this; omega
  refine .aVO (w' := w') ?_ ⟨.any, _, E, hk, ev, R', .any _⟩
  simp only [execOp, ho, Instr.storeAt, hv, Instr.sureAddr, Sem.run_bind, Sem.run_pure, Result.andThen_ok, storeVar, fJ ht, hsize, ne_eq, not_true_eq_false, if_false, hrun, Sem.run_ite]
end
theorem qW {es : List (List aD)} {sz i j : Nat} {x : aD} (hs : ∀ e ∈ es, e.length = sz) (hx : gO es i j = some x) : i * sz + j < es.length * sz :=
 wY (aRT hx) (aBU hs hx)
theorem Rel.aCL {E : Env} {h : aB} {w : World} (R : Rel E h w) {n : Nat} (hn : ¬ E.used n) (sz : Nat) (es : List (List aD)) (hs : ∀ e ∈ es, e.length = sz)
  (cs : Array Value) (t : TypeId) (d : Nat) (vs rest : List Value) (hcs : cs.toList = vs ++ rest) (hL : cX E h w es.flatten vs) (h1 : ∀ c ∈ vs, c.oneCell' = true) :
  Rel (E.add n w.heap.size) (a5 h n (.row sz (es.map (List.map .v)))) (p0 w (.cells cs t) d) := by
 have hlen : vs.length = es.length * sz := by rw [← hL.length, length_flatten es hs]
 have hget : ∀ k, k < vs.length → cs[k]? = vs[k]? := fun k hk => by
  rw [← Array.getElem?_toList, hcs, List.getElem?_append_left hk]
 refine R.aQA hn sz es hs cs t d (fun i j => (vs[i * sz + j]?).getD undef) ?_ ?_
 ·rw [← hlen, ← Array.length_toList, hcs]; simp
 ·intro i j x hx
  have hlt := qW hs hx
  have hk : i * sz + j < vs.length := by omega
  have hv : vs[i * sz + j]? = some vs[i * sz + j] := List.getElem?_eq_getElem hk
  refine ⟨by rw [hget _ hk, hv]; simp, by rw [hv]; exact h1 _ (List.getElem_mem hk), ?_⟩
  rw [hv]
  exact hL.get _ _ _ (qV es hs i j x hx) hv
section
variable {P : Program} {o : Oper} {ρ : Operand → aD} {h : aB} {K : aD → aB → Prop}
theorem mP (w : World) (o : Obj) : { w with heap := w.heap.push o } = p0 w o w.drawn := rfl
theorem aA2 (sz : Nat) (e : List aD) (he : e.length = sz) (hk : ∀ n, h n = none → K (.op n sz 0 0) (a5 h n (.row sz [e.map .v])))
  (hx : ∀ E w (ρc : Operand → Value), Rel E h w → (∀ x, dY E h w (ρ x) (ρc x)) → ∃ (cs : Array Value) (t : TypeId) (d : Nat),
   (execOp ρc o).run P w = .ok (.value (.pointer (some ⟨w.heap.size, 0, none⟩))) (p0 w (.cells cs t) d) ∧ cX E h w e cs.toList ∧ ∀ c ∈ cs.toList, c.oneCell' = true) : lU P o ρ h K := by
 intro E w ρc R hρ
 obtain ⟨cs, t, d, hrun, hL, h1⟩ := hx E w ρc R hρ
 obtain ⟨n, hn⟩ := R.fresh
 refine .hH hrun ⟨.op n sz 0 0, _, E.add n w.heap.size, hk n (R.none hn), Ev.alloc R hn _ _ _, ?_, ?_⟩
 ·exact R.aCL hn sz [e] (by simpa using he) cs t d cs.toList [] (by simp) (by simpa using hL) h1
 ·have := dY.op (E := E.add n w.heap.size) (h := a5 h n (.row sz [e.map .v])) (w := p0 w (.cells cs t) d) n sz 0 0 w.heap.size 0 (.inl rfl) (by simp [Env.add])
  simpa using this
theorem rM (sz len : Nat) (es : List (List aD)) (hs : ∀ e ∈ es, e.length = sz) (hk : ∀ n, h n = none → K (.os n sz 0 len) (a5 h n (.row sz (es.map (List.map .v)))))
  (hx : ∀ E w (ρc : Operand → Value), Rel E h w → (∀ x, dY E h w (ρ x) (ρc x)) → ∃ (cs : Array Value) (t : TypeId) (d cap : Nat) (vs rest : List Value),
   (execOp ρc o).run P w = .ok (.value (.slice (some ⟨w.heap.size, 0, none⟩) len cap)) (p0 w (.cells cs t) d) ∧ len ≤ cap ∧ cap ≤ maxLen ∧ cap * sz ≤ cs.size ∧
   cs.toList = vs ++ rest ∧ cX E h w es.flatten vs ∧ ∀ c ∈ vs, c.oneCell' = true) : lU P o ρ h K := by
 intro E w ρc R hρ
 obtain ⟨cs, t, d, cap, vs, rest, hrun, hlc, hmax, hm, hcs, hL, h1⟩ := hx E w ρc R hρ
 obtain ⟨n, hn⟩ := R.fresh
 refine .hH hrun ⟨.os n sz 0 len, _, E.add n w.heap.size, hk n (R.none hn), Ev.alloc R hn _ _ _, ?_, ?_⟩
 ·exact R.aCL hn sz es hs cs t d vs rest hcs hL h1
 ·have := dY.os (E := E.add n w.heap.size) (h := a5 h n (.row sz (es.map (List.map .v)))) (w := p0 w (.cells cs t) d) n sz 0 len w.heap.size 0 cap t cs.size (.inl rfl) (by simp [Env.add]) hlc hmax
   (by simp only [World.shape?, qU]) (by simpa using hm)
  simpa using this
theorem aVS (t : TypeId) (x : Operand) (ho : o.op = .box t x) (hf : (ρ x).cells.all aD.flat = true)
  (hk : ∀ n, h n = none → K (.op n (ρ x).cells.length 0 0) (a5 h n (.row (ρ x).cells.length [(ρ x).cells.map .v]))) : lU P o ρ h K :=
 aA2 _ (ρ x).cells rfl hk fun E w ρc R hρ => by
  obtain ⟨hL, h1⟩ := (hρ x).zX hf
  refine ⟨(ρc x).cells, t, w.drawn, ?_, hL, h1⟩
  simp only [execOp, ho, Instr.box, newVar, newRow, Sem.run_bind, run_newObj, Result.andThen_ok, Sem.run_pure, mP]
theorem aI4 (t : TypeId) (x : Operand) (ho : o.op = .box t x) (hc : (ρ x).cells = [.iE, .bO])
  (hk : ∀ n, h n = none → K (.op n 2 0 0) (a5 h n (.raw t #[.pointer none, .slice none 0 0]))) : lU P o ρ h K := by
 intro E w ρc R hρ
 obtain ⟨hL, h1⟩ := (hρ x).zX (by rw [hc]; rfl)
 rw [hc] at hL
 have hcs : (ρc x).cells = #[.pointer none, .slice none 0 0] := by
  have hl := hL.length
  match hv : (ρc x).cells.toList, hL with
  | [a, b], hL =>
   have ha : a = .pointer none := by have := hL.1; cases a <;> (try cases this) <;> rfl
   have hb : b = .slice none 0 0 := by have := hL.2.1; cases b <;> (try cases this) <;> rfl
   apply Array.toList_inj.1
   rw [hv, ha, hb]
 obtain ⟨n, hn⟩ := R.fresh
 refine .hH (v := .pointer (some ⟨w.heap.size, 0, none⟩)) (w' := p0 w (.cells #[.pointer none, .slice none 0 0] t) w.drawn) ?_ ⟨.op n 2 0 0, _, E.add n w.heap.size, hk n (R.none hn), Ev.alloc R hn _ _ _, R.aFI hn _ _ _ ⟨w.heap.size, by simp [Env.add], by simp [Env.add], qU _ _ _⟩, ?_⟩
 ·simp only [execOp, ho, Instr.box, newVar, newRow, Sem.run_bind, run_newObj, Result.andThen_ok, Sem.run_pure, mP, hcs]
 ·have := dY.op (E := E.add n w.heap.size) (h := a5 h n (.raw t #[.pointer none, .slice none 0 0])) (w := p0 w (.cells #[.pointer none, .slice none 0 0] t) w.drawn) n 2 0 0 w.heap.size 0 (.inl rfl) (by simp [Env.add])
  simpa using this
theorem nA (E : Env) (h : aB) (w : World) : ∀ (l : List Value), cX E h w (l.map aD.ofValue) l
 | [] => trivial
 |v :: l => ⟨.ofValue E h w v, nA E h w l⟩
theorem cX.m8 {E : Env} {w : World} : ∀ {xs : List aD} {vs : List Value}, cX E h w xs vs → xs.all aD.flat = true → ∀ c ∈ vs, c.oneCell' = true
 | [], [], _, _, c, hc => by simp at hc
 |x :: xs, v :: vs, hL, hf, c, hc => by
  simp only [List.all_cons, Bool.and_eq_true] at hf
  rcases List.mem_cons.1 hc with e | e
  ·rw [e]; exact (hL.1.m8 hf.1).1
  ·exact cX.m8 hL.2 hf.2 c e
 | [], _ :: _, hL, _, _, _ => hL.elim
 | _ :: _, [], hL, _, _, _ => hL.elim
theorem aQD (t : TypeId) (r : jS) (ho : o.op = .alloc t) (ht : gH P t = some r) (hz : r.zero ≠ []) (hf : r.zero.all aD.flat = true)
  (hk : ∀ n, h n = none → K (.op n r.zero.length 0 0) (a5 h n (.row r.zero.length [r.zero.map .v]))) : lU P o ρ h K :=
 aA2 _ r.zero rfl hk fun E w ρc R hρ => by
  obtain ⟨z, hrun, hzz⟩ := mO (w := w) ht hz
  have hL : cX E h w r.zero z.cells.toList := by rw [← hzz]; exact nA E h w _
  refine ⟨z.cells, t, w.drawn, ?_, hL, hL.m8 hf⟩
  simp only [execOp, ho, Instr.alloc, newVar, newRow, Sem.run_bind, run_newObj, hrun, Result.andThen_ok, Sem.run_pure, mP]
theorem j7 (b o k : Nat) : (⟨b, o, none⟩ : Addr).add k = ⟨b, o + k, none⟩ := by
 simp only [Addr.add]; split
 ·subst_vars; rfl
 ·rfl
theorem wP (t : TypeId) (x : Operand) (f : Nat) (r : jS) (fs : List (Nat × TypeId × Nat)) (off sz' : Nat) (ft : TypeId) (v : aD) (ho : o.op = .fieldAddr t x f) (ht : gH P t = some r) (hd : r.d = .st fs)
  (hf : fs[f]? = some (off, ft, sz')) (hsz : sz' ≠ 0) (hv : (∃ n sz i k, ρ x = .op n sz i k ∧ v = .op n sz i (k + off)) ∨ (∃ sz es i k, ρ x = .ip sz es i k ∧ v = .ip sz es i (k + off))) (hk : K v h) : lU P o ρ h K :=
 bU hk fun E w ρc R hρ => by
  have hr := hρ x
  obtain ⟨u, hu, hud, hrun⟩ := bN (w := w) ht
  obtain ⟨gs, rfl, hall, hgs⟩ := aRY (hud.trans hd)
  rw [← hgs] at hf
  simp only [List.getElem?_map, Option.map_eq_some_iff, Prod.mk.injEq] at hf
  obtain ⟨g, hg, rfl, rfl, rfl⟩ := hf
  have hinfo : (P.info? g.type).isSome = true := List.all_eq_true.1 hall _ (List.mem_of_getElem? hg)
  have hsize := uX (w := w) hinfo
  have hg' : gs[f]? = some g := by simpa using hg
  have key : ∀ b k, ρc x = .pointer (some ⟨b, k, none⟩) → (execOp ρc o).run P w = .ok (.value (.pointer (some ⟨b, k + g.offset, none⟩))) w := by
   intro b k hb
   simp only [execOp, ho, Instr.fieldAt, hb, Sem.run_bind, hrun, Result.andThen_ok, hg', Instr.sureAddr, Sem.run_pure, fieldPlace, hsize, Sem.run_ite, hsz, if_false, j7]
  rcases hv with ⟨n, sz, i, k, e, rfl⟩ | ⟨sz, es, i, k, e, rfl⟩
  ·rw [e] at hr
   cases hv : ρc x <;> rw [hv] at hr <;> try (cases hr; done)
   cases hr with
   |op _ _ _ _ b o' hd' hl =>
    refine ⟨_, key _ _ hv, ?_⟩
    have := dY.op (E := E) (h := h) (w := w) n sz i (k + g.offset) b o' hd' hl
    rwa [← Nat.add_assoc] at this
  ·rw [e] at hr
   cases hv : ρc x <;> rw [hv] at hr <;> try (cases hr; done)
   cases hr with
   |ip _ _ _ _ b o' cv hi hs hc h1 hrr =>
    refine ⟨_, key _ _ hv, ?_⟩
    have := dY.ip (E := E) (h := h) (w := w) sz es i (k + g.offset) b o' cv hi hs hc h1 hrr
    rwa [← Nat.add_assoc] at this
theorem zY (t et : TypeId) (x i : Operand) (r re : jS) (sz : Nat) (es : List (List aD)) (tg : Bool) (k : IntKind) (n : Int) (ho : o.op = .indexAddr t x i) (ht : gH P t = some r) (hd : r.d = .slice et)
  (he : gH P et = some re) (hsz : re.sz = sz) (hx : ρ x = .sl sz es tg) (hi : ρ i = .int k n) (h0 : 0 ≤ n) (hn : n < es.length) (hk : K (.ip sz es n.toNat 0) h) : lU P o ρ h K :=
 bU hk fun E w ρc R hρ => by
  have hr := hρ x
  have hri := jI (hi ▸ hρ i)
  rw [hx] at hr
  obtain ⟨u, hu, hud, hrun⟩ := bN (w := w) ht
  obtain rfl := fU (hud.trans hd)
  have hsize := fJ (w := w) he
  cases hv : ρc x <;> rw [hv] at hr <;> try (cases hr; done)
  cases hr with
  |wW => simp at hn; omega
  |sl _ _ _ b o' cap cv hI hcap hmax htt hs hc h1 hrr =>
   refine ⟨.pointer (some ⟨b, o' + n.toNat * sz, none⟩), ?_, ?_⟩
   ·simp only [execOp, ho, Instr.indexAt, hri, hv, asIntOf, Sem.run_bind, Sem.run_pure, Result.andThen_ok, hrun]
    have : (0 ≤ n ∧ n < (es.length : Int)) := ⟨h0, hn⟩
    simp [this, hsize, hsz, j7]
   ·have := dY.ip (E := E) (h := h) (w := w) sz es n.toNat 0 b o' cv hI hs hc h1 hrr
    simpa using this
theorem zZ (t et : TypeId) (x i : Operand) (r re : jS) (m sz i0 len : Nat) (k : IntKind) (n : Int) (ho : o.op = .indexAddr t x i) (ht : gH P t = some r) (hd : r.d = .slice et)
  (he : gH P et = some re) (hsz : re.sz = sz) (hx : ρ x = .os m sz i0 len) (hi : ρ i = .int k n) (h0 : 0 ≤ n) (hn : n < len) (hk : K (.op m sz (i0 + n.toNat) 0) h) : lU P o ρ h K :=
 bU hk fun E w ρc R hρ => by
  have hr := hρ x
  have hri := jI (hi ▸ hρ i)
  rw [hx] at hr
  obtain ⟨u, hu, hud, hrun⟩ := bN (w := w) ht
  obtain rfl := fU (hud.trans hd)
  have hsize := fJ (w := w) he
  cases hv : ρc x <;> rw [hv] at hr <;> try (cases hr; done)
  cases hr with
  |os0 => simp at hn; omega
  |os _ _ _ _ b o' cap tt mm hd' hl hlc hmax hsh hm =>
   refine ⟨.pointer (some ⟨b, o' + (i0 + n.toNat) * sz, none⟩), ?_, ?_⟩
   ·simp only [execOp, ho, Instr.indexAt, hri, hv, asIntOf, Sem.run_bind, Sem.run_pure, Result.andThen_ok, hrun]
    have : (0 ≤ n ∧ n < (len : Int)) := ⟨h0, hn⟩
    simp [this, hsize, hsz, j7, Nat.add_mul, Nat.add_assoc]
   ·have := dY.op (E := E) (h := h) (w := w) m sz (i0 + n.toNat) 0 b o' hd' hl
    simpa using this
theorem aBV (t : TypeId) (x : Operand) (r : jS) (n : Nat) (ats : Array TypeId) (ho : o.op = .call { callee := .builtin .len, args := #[x], argTypes := ats }) (hat : ats[0]? = some t) (ht : gH P t = some r)
  (hx : (∃ e sz es tg, r.d = .slice e ∧ ρ x = .sl sz es tg ∧ n = es.length) ∨ (∃ e m sz i, r.d = .slice e ∧ ρ x = .os m sz i n) ∨ (∃ e, r.d = .slice e ∧ ρ x = .bO ∧ n = 0) ∨ (∃ s, r.d = .str ∧ ρ x = .str s ∧ n = s.length))
  (hk : n ≤ 9223372036854775807 → K (.int .i64 n) h) : lU P o ρ h K := by
 intro E w ρc R hρ
 have hr := hρ x
 obtain ⟨u, hu, hud, hrun⟩ := bN (w := w) ht
 have hml : maxLen = 9223372036854775807 := rfl
 suffices hs : n ≤ 9223372036854775807 ∧ (execOp ρc o).run P w = .ok (.value (.int .i64 n)) w from .hH hs.2 (.same (hk hs.1) R (.int _ _))
 have hat' : ∃ a, ats[0]? = some a ∧ a = t := ⟨t, hat, rfl⟩
 rcases hx with ⟨e, sz, es, tg, hd, hx, rfl⟩ | ⟨e, m, sz, i, hd, hx⟩ | ⟨e, hd, hx, rfl⟩ | ⟨s, hd, hx, rfl⟩
 ·obtain rfl := fU (hud.trans hd)
  rw [hx] at hr
  cases hv : ρc x <;> rw [hv] at hr <;> try (cases hr; done)
  cases hr with
  |wW => exact ⟨by simp, by simp [execOp, ho, resolve, invoke, builtin, Builtin.len_, hat, hv, hrun, goInt]⟩
  |sl _ _ _ b o' cap cv hI hcap hmax htt hs hc h1 hrr =>
   exact ⟨by omega, by simp [execOp, ho, resolve, invoke, builtin, Builtin.len_, hat, hv, hrun, goInt]⟩
 ·obtain rfl := fU (hud.trans hd)
  rw [hx] at hr
  cases hv : ρc x <;> rw [hv] at hr <;> try (cases hr; done)
  cases hr with
  |os0 => exact ⟨by simp, by simp [execOp, ho, resolve, invoke, builtin, Builtin.len_, hat, hv, hrun, goInt]⟩
  |os _ _ _ _ b o' cap tt mm hd' hl hlc hmax hsh hm =>
   exact ⟨by omega, by simp [execOp, ho, resolve, invoke, builtin, Builtin.len_, hat, hv, hrun, goInt]⟩
 ·obtain rfl := fU (hud.trans hd)
  rw [hx] at hr
  cases hv : ρc x <;> rw [hv] at hr <;> try (cases hr; done)
  cases hr with
  |bO => exact ⟨by omega, by simp [execOp, ho, resolve, invoke, builtin, Builtin.len_, hat, hv, hrun, goInt]⟩
 ·obtain rfl := xZ (hud.trans hd)
  rw [hx] at hr
  cases hv : ρc x <;> rw [hv] at hr <;> try (cases hr; done)
  cases hr with
  |str _ hl => exact ⟨by omega, by simp [execOp, ho, resolve, invoke, builtin, Builtin.len_, hat, hv, hrun, goInt]; rfl⟩
theorem aE2 (t : TypeId) (x i : Operand) (r : jS) (s : List UInt8) (k : IntKind) (n : Int) (c : UInt8) (ho : o.op = .index t x i) (ht : gH P t = some r) (hd : r.d = .str)
  (hx : ρ x = .str s) (hi : ρ i = .int k n) (h0 : 0 ≤ n) (hc : s[n.toNat]? = some c) (hk : K (.int .u8 c.toNat) h) : lU P o ρ h K :=
 bU hk fun E w ρc R hρ => by
  obtain ⟨hv, _⟩ := qT (hx ▸ hρ x)
  have hri := jI (hi ▸ hρ i)
  obtain ⟨u, hu, hud, hrun⟩ := bN (w := w) ht
  obtain rfl := xZ (hud.trans hd)
  refine ⟨.int .u8 c.toNat, ?_, .int _ _⟩
  have : (⟨s.toArray⟩ : ByteArray)[n.toNat]? = some c := by
   have hlt := (List.getElem?_eq_some_iff.1 hc).1
   have hge := (List.getElem?_eq_some_iff.1 hc).2
   rw [getElem?_pos (⟨s.toArray⟩ : ByteArray) n.toNat (by simpa [ByteArray.size] using hlt)]
   congr 1
  simp [execOp, ho, Instr.index, hri, hv, asIntOf, hrun, h0, this]
theorem aI5 (t : Operand) (i : Nat) (cs : List aD) (x : aD) (ho : o.op = .extract t i) (ht : ρ t = .gN cs) (hx : cs[i]? = some x) (hk : K x h) : lU P o ρ h K :=
 bU hk fun E w ρc R hρ => by
  have hr := hρ t
  rw [ht] at hr
  cases hv : ρc t <;> rw [hv] at hr <;> try (cases hr; done)
  cases hr with
  |gN _ vs hl hrr =>
   have hlt : i < vs.length := by rw [← hl]; exact (List.getElem?_eq_some_iff.1 hx).1
   have hvi : vs[i]? = some vs[i] := List.getElem?_eq_getElem hlt
   exact ⟨vs[i], by simp [execOp, ho, Instr.extract, hv, hvi], hrr i _ _ hx hvi⟩
theorem aVT (t : TypeId) (x : Operand) (b : Bool) (ho : o.op = .unOp .not t x) (hx : ρ x = .bool b) (hk : K (.bool (!b)) h) : lU P o ρ h K :=
 bU hk fun E w ρc R hρ => by
  have hv := rZ (hx ▸ hρ x)
  exact ⟨.bool (!b), by simp [execOp, ho, hv, Op.unary], .bool _⟩
theorem aVU (t : TypeId) (x : Operand) (k : IntKind) (n : Int) (ho : o.op = .unOp .neg t x) (hx : ρ x = .int k n) (hk : K (.int k (k.wrap (0 - n))) h) : lU P o ρ h K :=
 bU hk fun E w ρc R hρ => by
  have hv := jI (hx ▸ hρ x)
  exact ⟨.int k (k.wrap (0 - n)), by simp [execOp, ho, hv, Op.unary, Op.intArith], .int _ _⟩
theorem x6 (x : Operand) (ho : o.op = .nilCheck x) (hx : (∃ n sz i k, ρ x = .op n sz i k) ∨ (∃ sz es i k, ρ x = .ip sz es i k)) (hk : K (ρ x) h) : lU P o ρ h K :=
 bU hk fun E w ρc R hρ => by
  have hr := hρ x
  refine ⟨ρc x, ?_, hr⟩
  rcases hx with ⟨n, sz, i, k, e⟩ | ⟨sz, es, i, k, e⟩ <;> rw [e] at hr <;> (cases hv : ρc x <;> rw [hv] at hr <;> try (cases hr; done)) <;> cases hr <;> simp [execOp, ho, hv]
theorem aBM (s d : TypeId) (x : Operand) (rs rd : jS) (k k' : IntKind) (n : Int) (ho : o.op = .convert s d x) (hs : gH P s = some rs) (hd : gH P d = some rd) (hk' : rd.d = .int k')
  (hx : ρ x = .int k n) (hk : K (.int k' (k'.wrap n)) h) : lU P o ρ h K :=
 bU hk fun E w ρc R hρ => by
  have hv := jI (hx ▸ hρ x)
  obtain ⟨u, hu, hud, hrun⟩ := bN (w := w) hs
  obtain ⟨u', hu', hud', hrun'⟩ := bN (w := w) hd
  obtain rfl := aNY (hud'.trans hk')
  exact ⟨.int k' (k'.wrap n), by simp [execOp, ho, convert, hv, hrun, hrun', Conv.intToInt], .int _ _⟩
theorem x7 {E : Env} {w : World} {ρc : Operand → Value} (hρ : ∀ x, dY E h w (ρ x) (ρc x)) : ∀ (l : List Operand), cX E h w (l.map ρ) (l.map ρc)
 | [] => trivial
 |x :: l => ⟨hρ x, x7 hρ l⟩
theorem aGU (fn : Fn) (fs cs : Array Operand) (ho : o.op = .makeFunc fn fs cs) (hk : K (.fn fn (fs.toList.map ρ) (cs.toList.map ρ)) h) : lU P o ρ h K :=
 bU hk fun E w ρc R hρ => by
  refine ⟨.func fn (fs.map ρc) (cs.map ρc), by simp [execOp, ho, Instr.makeFunc], ?_⟩
  have h1 := x7 hρ fs.toList
  have h2 := x7 hρ cs.toList
  have := dY.fn (E := E) (h := h) (w := w) fn _ _ _ _ h1.length h1.get h2.length h2.get
  have e : ∀ (a : Array Operand), (a.toList.map ρc).toArray = a.map ρc := fun a => by cases a; simp
  rwa [e, e] at this
end
section
variable {P : Program} {o : Oper} {ρ : Operand → aD} {h : aB} {K : aD → aB → Prop}
theorem x8 (op : BinOp) (t ty : TypeId) (x y : Operand) (r : jS) (a b : Bool) (v : aD) (ho : o.op = .binOp op t x y ty) (ht : gH P t = some r) (hd : r.d = .bool) (hx : ρ x = .bool a) (hy : ρ y = .bool b)
  (hop : (op = .eql ∧ v = .bool (a == b)) ∨ (op = .neq ∧ v = .bool (a != b))) (hk : K v h) : lU P o ρ h K :=
 bU hk fun E w ρc R hρ => by
  have hxv := rZ (hx ▸ hρ x)
  have hyv := rZ (hy ▸ hρ y)
  obtain ⟨u, hu, hud, hrun⟩ := bN (w := w) ht
  obtain rfl := aRX (hud.trans hd)
  have hg : (eqGuard op t x y (.bool a) (.bool b)).run P w = .ok () w := by
   cases op <;> simp [eqGuard]
  have hq : (Op.equal t (.bool a) (.bool b)).run P w = .ok (a == b) w := run_equalIn_bool' w 9999 t a b hu
  rcases hop with ⟨rfl, rfl⟩ | ⟨rfl, rfl⟩
  ·exact ⟨.bool (a == b), by simp only [execOp, ho, Sem.run_bind, hxv, hyv, hg, Result.andThen_ok, binOp, hq, Sem.run_pure], .bool _⟩
  ·exact ⟨.bool (a != b), by simp only [execOp, ho, Sem.run_bind, hxv, hyv, hg, Result.andThen_ok, binOp, hq, Sem.run_pure]; rfl, .bool _⟩
theorem aNZ (op : BinOp) (t ty : TypeId) (x y : Operand) (k : IntKind) (a b : Int) (v : aD) (ho : o.op = .binOp op t x y ty) (hx : ρ x = .int k a) (hy : ρ y = .int k b) (hb : b ≠ 0)
  (hop : (op = .quo ∧ v = .int k (k.wrap (a.tdiv b))) ∨ (op = .rem ∧ v = .int k (a.tmod b))) (hk : K v h) : lU P o ρ h K :=
 bU hk fun E w ρc R hρ => by
  have hxv := jI (hx ▸ hρ x)
  have hyv := jI (hy ▸ hρ y)
  rcases hop with ⟨rfl, rfl⟩ | ⟨rfl, rfl⟩
  ·exact ⟨.int k (k.wrap (a.tdiv b)), by simp [execOp, ho, hxv, hyv, eqGuard, binOp, Op.intDiv, hb], .int _ _⟩
  ·exact ⟨.int k (a.tmod b), by simp [execOp, ho, hxv, hyv, eqGuard, binOp, Op.intDiv, hb], .int _ _⟩
theorem aFL (op : BinOp) (t ty : TypeId) (x y : Operand) (k k' : IntKind) (a b : Int) (v : aD) (ho : o.op = .binOp op t x y ty) (hx : ρ x = .int k a) (hy : ρ y = .int k' b) (hb : 0 ≤ b)
  (hop : (op = .shl ∧ v = .int k (k.wrap (a * 2 ^ (min b.toNat k.bits)))) ∨ (op = .shr ∧ v = .int k (a.fdiv (2 ^ (min b.toNat k.bits))))) (hk : K v h) : lU P o ρ h K :=
 bU hk fun E w ρc R hρ => by
  have hxv := jI (hx ▸ hρ x)
  have hyv := jI (hy ▸ hρ y)
  have hb' : ¬ b < 0 := by omega
  rcases hop with ⟨rfl, rfl⟩ | ⟨rfl, rfl⟩
  ·exact ⟨_, by simp only [execOp, ho, hxv, hyv, eqGuard, binOp, Op.shift, hb', if_false]; simp, .int _ _⟩
  ·exact ⟨_, by simp only [execOp, ho, hxv, hyv, eqGuard, binOp, Op.shift, hb', if_false]; simp, .int _ _⟩
theorem aVV (x y : Operand) (ats : Array TypeId) (k : IntKind) (a b : Int) (ho : o.op = .call { callee := .builtin .max, args := #[x, y], argTypes := ats }) (hx : ρ x = .int k a) (hy : ρ y = .int k b)
  (hk : K (.int k (max a b)) h) : lU P o ρ h K :=
 bU hk fun E w ρc R hρ => by
  have hxv := jI (hx ▸ hρ x)
  have hyv := jI (hy ▸ hρ y)
  have e : (if b > a then b else a) = max a b := by rw [Int.max_def]; split <;> split <;> omega
  exact ⟨.int k (max a b), by simp [execOp, ho, resolve, invoke, builtin, Builtin.max_, hxv, hyv, Builtin.max2, e], .int _ _⟩
def iF (d : Nat) : Option aD → Option Int
 |none => some d
 |some (.int _ n) => some n
 | _ => none
theorem lN {w : World} {k : IntKind} {i : Int} {y : Nat} {code : BoundsCode} (h0 : 0 ≤ i) (h1 : i ≤ y) : (Instr.sliceBound (.int k i) y code).run P w = .ok i.toNat w := by
 simp [Instr.sliceBound, asIntOf, h0, h1]
theorem p2 {w : World} {E : Env} (R : Rel E h w) {ρc : Operand → Value} (hρ : ∀ x, dY E h w (ρ x) (ρc x)) (isS : Bool) (len cap : Nat) (lo hi mx : Option Operand) (l r m : Int)
  (hl : iF 0 (lo.map ρ) = some l) (hh : iF len (hi.map ρ) = some r) (hm : iF cap (mx.map ρ) = some m) (hmh : mx.isSome = true → hi.isSome = true)
  (h0 : 0 ≤ l) (h1 : l ≤ r) (h2 : r ≤ m) (h3 : m ≤ cap) :
  (Instr.sliceBounds isS len cap (lo.map ρc) (hi.map ρc) (mx.map ρc)).run P w = .ok (l.toNat, r.toNat, m.toNat) w := by
 have hint : ∀ (x : Operand) (d : Nat) (z : Int), iF d (some (ρ x)) = some z → ∃ k, ρc x = .int k z := by
  intro x d z hz
  have hr := hρ x
  generalize ρ x = v at *
  cases v <;> simp [iF] at hz
  subst hz
  exact ⟨_, jI hr⟩
 have hbn : ∀ d : Nat, iF d none = some (d : Int) := fun _ => rfl
 cases mx with
 |none =>
  obtain rfl : (cap : Int) = m := by simpa [iF] using hm
  cases hi with
  |none =>
   obtain rfl : (len : Int) = r := by simpa [iF] using hh
   cases lo with
   |none => obtain rfl : (0 : Int) = l := by simpa [iF] using hl
            simp [Instr.sliceBounds]
   |some x =>
    obtain ⟨k, hx⟩ := hint x _ _ hl
    simp [Instr.sliceBounds, hx, lN h0 h1]
  |some y =>
   obtain ⟨k', hy⟩ := hint y _ _ hh
   have e : ((r.toNat : Nat) : Int) = r := by omega
   cases lo with
   |none => obtain rfl : (0 : Int) = l := by simpa [iF] using hl
            simp [Instr.sliceBounds, hy, lN (show 0 ≤ r by omega) h2]
   |some x =>
    obtain ⟨k, hx⟩ := hint x _ _ hl
    simp [Instr.sliceBounds, hx, hy, lN (show 0 ≤ r by omega) h2, lN h0 (show l ≤ (r.toNat : Nat) by omega)]
 |some z =>
  obtain ⟨kz, hz⟩ := hint z _ _ hm
  cases hi with
  |none => simp at hmh
  |some y =>
   obtain ⟨k', hy⟩ := hint y _ _ hh
   cases lo with
   |none => obtain rfl : (0 : Int) = l := by simpa [iF] using hl
            simp [Instr.sliceBounds, hy, hz, lN (show 0 ≤ m by omega) h3, lN (show 0 ≤ r by omega) (show r ≤ (m.toNat : Nat) by omega)]
   |some x =>
    obtain ⟨k, hx⟩ := hint x _ _ hl
    simp [Instr.sliceBounds, hx, hy, hz, lN (show 0 ≤ m by omega) h3, lN (show 0 ≤ r by omega) (show r ≤ (m.toNat : Nat) by omega), lN h0 (show l ≤ (r.toNat : Nat) by omega)]
theorem aE3 (t : TypeId) (x : Operand) (lo hi : Option Operand) (r : jS) (s : List UInt8) (l m : Int) (ho : o.op = .slice t x lo hi none) (ht : gH P t = some r) (hd : r.d = .str) (hx : ρ x = .str s)
  (hl : iF 0 (lo.map ρ) = some l) (hh : iF s.length (hi.map ρ) = some m) (h0 : 0 ≤ l) (h1 : l ≤ m) (h2 : m ≤ s.length) (hk : K (.str ((s.take m.toNat).drop l.toNat)) h) : lU P o ρ h K :=
 bU hk fun E w ρc R hρ => by
  obtain ⟨hv, hmax⟩ := qT (hx ▸ hρ x)
  obtain ⟨u, hu, hud, hrun⟩ := bN (w := w) ht
  obtain rfl := xZ (hud.trans hd)
  have hb := p2 (P := P) R hρ false s.length s.length lo hi none l m s.length hl hh rfl (by simp) h0 h1 h2 (by omega)
  refine ⟨.string ⟨((s.take m.toNat).drop l.toNat).toArray⟩, ?_, .str _ (by simp; omega)⟩
  have hsz : (⟨s.toArray⟩ : ByteArray).size = s.length := by simp [ByteArray.size]
  have hex : (⟨s.toArray⟩ : ByteArray).extract l.toNat m.toNat = ⟨((s.take m.toNat).drop l.toNat).toArray⟩ := by
   apply ByteArray.ext
   rw [ByteArray.data_extract]
   simp [List.extract_eq_take_drop, List.drop_take]
  simp only [Option.map_none] at hb
  simp [execOp, ho, Instr.sliceAt, Instr.slice, hrun, hv, hsz, hb, hex]
theorem aGV (t et : TypeId) (x : Operand) (lo hi : Option Operand) (r re : jS) (sz : Nat) (es : List (List aD)) (tg : Bool) (l m : Int) (ho : o.op = .slice t x lo hi none) (ht : gH P t = some r) (hd : r.d = .slice et)
  (he : gH P et = some re) (hsz : re.sz = sz) (hx : ρ x = .sl sz es tg)
  (hl : iF 0 (lo.map ρ) = some l) (hh : iF es.length (hi.map ρ) = some m) (h0 : 0 ≤ l) (h1 : l ≤ m) (h2 : m ≤ es.length)
  (hk : K (.sl sz ((es.take m.toNat).drop l.toNat) (tg && decide (m = es.length))) h) : lU P o ρ h K :=
 bU hk fun E w ρc R hρ => by
  have hr := hρ x
  rw [hx] at hr
  obtain ⟨u, hu, hud, hrun⟩ := bN (w := w) ht
  obtain rfl := fU (hud.trans hd)
  have hsize := fJ (w := w) he
  have hml : maxLen = 9223372036854775807 := rfl
  have key : ∀ (a : Option Addr) (cap : Nat), ρc x = .slice a es.length cap → es.length ≤ cap →
    (execOp ρc o).run P w = .ok (.value (.slice (if cap = l.toNat then a else a.map (·.add (l.toNat * sz))) (m.toNat - l.toNat) (cap - l.toNat))) w := by
   intro a cap hv hc
   have hb := p2 (P := P) R hρ true es.length cap lo hi none l m cap hl hh rfl (by simp) h0 h1 (by omega) (by omega)
   simp only [Option.map_none] at hb
   have e : ((cap : Int)).toNat = cap := by omega
   simp [execOp, ho, Instr.sliceAt, Instr.slice, hrun, hv, hb, hsize, hsz, e]
  cases hv : ρc x <;> rw [hv] at hr <;> try (cases hr; done)
  cases hr with
  |wW _ _ _ _ htt hmax ha =>
   have hl0 : l = 0 := by simp at h2; omega
   have hm0 : m = 0 := by simp at h2; omega
   subst hl0 hm0
   refine ⟨_, key _ _ (by simpa using hv) (by simp), ?_⟩
   simp only [Int.toNat_zero, List.take_zero, List.drop_nil, Nat.sub_zero, Nat.zero_mul, Nat.sub_self, List.length_nil]
   exact .wW sz _ _ _ (fun e => htt (by simp at e; exact e)) hmax trivial
  |sl _ _ _ b o' cap cv hI hcap hmax htt hs hc h1' hrr =>
   rename_i cap
   refine ⟨_, key _ cap hv hcap, ?_⟩
   have hlen : ((es.take m.toNat).drop l.toNat).length = m.toNat - l.toNat := by simp; omega
   by_cases hemp : m.toNat = l.toNat
   ·have e1 : (es.take m.toNat).drop l.toNat = [] := List.drop_eq_nil_of_le (by simp; omega)
    rw [e1, hemp, Nat.sub_self]
    refine .wW sz _ _ _ (fun e => ?_) (by omega) trivial
    simp at e; have := htt e.1; omega
   ·have hne : ¬ cap = l.toNat := by omega
    rw [if_neg hne, ← hlen]
    simp only [Option.map_some, j7]
    have hat : ∀ i j y, gO ((es.take m.toNat).drop l.toNat) i j = some y → gO es (l.toNat + i) j = some y := by
     intro i j y hy
     obtain ⟨e, h1, h2⟩ := jH hy
     rw [List.getElem?_drop] at h1
     have hlt : l.toNat + i < m.toNat := by have := (List.getElem?_eq_some_iff.1 h1).1; simp at this; omega
     rw [List.getElem?_take_of_lt hlt] at h1
     simp [gO, h1, h2]
    refine .sl sz _ _ b (o' + l.toNat * sz) (cap - l.toNat) (fun i j => cv (l.toNat + i) j) hI (by omega) (by omega) (fun e => ?_) ?_ ?_ ?_ ?_
    ·simp at e; have := htt e.1; omega
    ·intro e he
     exact hs e (List.mem_of_mem_take (List.mem_of_mem_drop he))
    ·intro i j y hy
     rw [← hc _ _ _ (hat i j y hy)]; congr 2; rw [Nat.add_mul]; omega
    ·intro i j y hy; exact h1' _ _ _ (hat i j y hy)
    ·intro i j y hy; exact hrr _ _ _ (hat i j y hy)
end
theorem x9 {α : Type} (l : List α) (hl : 0 < l.length) : ∀ (c k : Nat), k < c * l.length → (List.replicate c l).flatten[k]? = l[k % l.length]?
 |0, k, hk => by simp at hk
 |c + 1, k, hk => by
  rw [List.replicate_succ, List.flatten_cons]
  by_cases h : k < l.length
  ·rw [List.getElem?_append_left h, Nat.mod_eq_of_lt h]
  ·rw [List.getElem?_append_right (by omega), x9 l hl c (k - l.length) (by rw [Nat.succ_mul] at hk; omega)]
   congr 1
   rw [Nat.mod_eq_sub_mod (Nat.le_of_not_lt h)]
theorem aQF (z : Array Value) (hz : 0 < z.size) (c k : Nat) (hk : k < c * z.size) : ((Array.range (c * z.size)).map (fun i => z[i % z.size]!)).toList[k]? = z.toList[k % z.size]? := by
 have hm : k % z.size < z.size := Nat.mod_lt _ hz
 simp only [Array.toList_map, Array.toList_range, List.getElem?_map, List.getElem?_range hk, Option.map_some]
 rw [getElem!_pos z _ hm, Array.getElem?_toList, Array.getElem?_eq_getElem hm]
theorem cX.aRZ {E : Env} {h : aB} {w : World} {xs : List aD} {z : Array Value} (hL : cX E h w xs z.toList) (hx : 0 < xs.length) (c : Nat) :
  cX E h w (List.replicate c xs).flatten ((Array.range (c * z.size)).map (fun i => z[i % z.size]!)).toList := by
 have hsz : z.size = xs.length := by have := hL.length; simp at this; omega
 refine cX.mk (by simp [hsz]) ?_
 intro k x v hkx hkv
 have hk : k < c * xs.length := by have := (List.getElem?_eq_some_iff.1 hkx).1; simpa using this
 rw [x9 xs hx c k hk] at hkx
 rw [aQF z (by omega) c k (by rw [hsz]; exact hk), hsz] at hkv
 exact hL.get _ _ _ hkx hkv
section
variable {P : Program} {o : Oper} {ρ : Operand → aD} {h : aB} {K : aD → aB → Prop}
theorem aE4 (t et : TypeId) (l c : Operand) (r re : jS) (k k' : IntKind) (a b : Int) (ho : o.op = .makeSlice t l c) (ht : gH P t = some r) (hd : r.d = .slice et) (he : gH P et = some re)
  (hz : re.zero.length = re.sz) (hz0 : 0 < re.sz) (hf : re.zero.all aD.flat = true) (hl : ρ l = .int k a) (hc : ρ c = .int k' b) (h0 : 0 ≤ a) (hab : a ≤ b) (hb : b ≤ 281474976710656) (hbb : re.bytes * b ≤ 281474976710656)
  (hk : ∀ n, h n = none → K (.os n re.sz 0 a.toNat) (a5 h n (.row re.sz ((List.replicate b.toNat re.zero).map (List.map .v))))) : lU P o ρ h K := by
 refine rM re.sz a.toNat (List.replicate b.toNat re.zero) (fun e he => by rw [List.eq_of_mem_replicate he, hz]) hk ?_
 intro E w ρc R hρ
 have hal := jI (hl ▸ hρ l)
 have hac := jI (hc ▸ hρ c)
 obtain ⟨u, hu, hud, hrun⟩ := bN (w := w) ht
 obtain rfl := fU (hud.trans hd)
 have hsize := fJ (w := w) he
 obtain ⟨z, hzr, hzz⟩ := mO (w := w) he (by intro e; rw [e] at hz; simp at hz; omega)
 obtain ⟨i, u', hi, hu', hsz, hby, _⟩ := oN he
 have hL : cX E h w re.zero z.cells.toList := by rw [← hzz]; exact nA E h w _
 have hzs : z.cells.size = re.sz := by have := hL.length; simp at this; omega
 have wa : IntKind.i64.wrap a = a := IntWalk.i64_in a (by omega)
 have wb : IntKind.i64.wrap b = b := IntWalk.i64_in b (by omega)
 refine ⟨(Array.range (b.toNat * z.cells.size)).map (fun i => z.cells[i % z.cells.size]!), et, w.drawn, b.toNat, _, [], ?_, by omega, by unfold maxLen; omega, by simp [hzs], by simp, hL.aRZ (by omega) b.toNat, ?_⟩
 ·have hti : (typeInfo et).run P w = .ok i w := by simp [typeInfo, hi]
  have n1 : ¬ (b < 0) := by omega
  have n2 : ¬ (281474976710656 < (i.bytes : Int) * b) := by rw [← hby]; omega
  have n3 : ¬ (a < 0) := by omega
  have n4 : ¬ (b < a) := by omega
  simp only [execOp, ho, Instr.makeSlice, Sem.run_bind, hrun, Result.andThen_ok, asInt, hal, hac, asIntOf, Sem.run_pure, hti, wa, wb]
  by_cases hbz : b.toNat = 0
  ·simp [n1, n2, n3, n4, hsize, hzs, hbz, newRow, mP]
   have e0 : Array.range 0 = #[] := by simp
   simp only [e0, Array.map_empty]; rfl
  ·simp [n1, n2, n3, n4, hsize, hzs, hbz, newRow, mP, hzr]
   rw [if_neg (Nat.mul_ne_zero hbz (by omega))]
   rfl
 ·exact (hL.aRZ (by omega) b.toNat).m8 (by
   rw [List.all_eq_true]
   intro x hx
   obtain ⟨l, hl, hx⟩ := List.mem_flatten.1 hx
   rw [List.eq_of_mem_replicate hl] at hx
   exact List.all_eq_true.1 hf x hx)
end
theorem Ev.p0 {E : Env} {h : aB} {w : World} (o : Obj) (d : Nat) : Ev E h w E h (p0 w o d) :=
 ⟨by rw [jJ]; omega, fun b hb => ⟨k9 w o d b hb.1, ⟨by have := hb.1; rw [jJ]; omega, hb.2⟩⟩, fun b hb => by simp only [World.shape?, k9 w o d b hb], fun _ hn => ⟨rfl, hn⟩, rfl, rfl⟩
theorem Rel.p0 {E : Env} {h : aB} {w : World} (R : Rel E h w) (o : Obj) (d : Nat) : Rel E h (p0 w o d) :=
 ⟨R.fin, R.dom, fun n x b hn hx hb => by have := R.lt n x b hn hx hb; rw [jJ]; omega, R.apart,
  fun n x hn => (R.obj n x hn).ev (Ev.p0 o d) rfl rfl fun c hx hc => k9 w o d c (R.lt n x c hn hx hc), R.laid.ev (Ev.p0 o d)⟩
theorem aN0 {E : Env} {h : aB} {w : World} (R : Rel E h w) (o : Obj) (d : Nat) : mH E h (Hl.p0 w o d) w.heap.size :=
 ⟨by rw [jJ]; omega, fun n x hn hx hf => by have := R.lt n x _ hn hx hf; omega⟩
theorem aN1 {E : Env} {h : aB} {w : World} (R : Rel E h w) {sz : Nat} {es : List (List aD)} (hs : ∀ e ∈ es, e.length = sz) {cs : Array Value} {t : TypeId} {d : Nat} {vs rest : List Value} (hcs : cs.toList = vs ++ rest) (hL : cX E h w es.flatten vs) (h1 : ∀ c ∈ vs, c.oneCell' = true) :
  ∃ cv : Nat → Nat → Value, (∀ i j x, gO es i j = some x → (Hl.p0 w (.cells cs t) d).cell? ⟨w.heap.size, 0 + i * sz + j, none⟩ = some (cv i j)) ∧ (∀ i j x, gO es i j = some x → (cv i j).oneCell' = true) ∧ (∀ i j x, gO es i j = some x → dY E h (Hl.p0 w (.cells cs t) d) x (cv i j)) := by
 have hlen : vs.length = es.length * sz := by rw [← hL.length, length_flatten es hs]
 refine ⟨fun i j => (vs[i * sz + j]?).getD undef, fun i j x hx => ?_, fun i j x hx => ?_, fun i j x hx => ?_⟩ <;>
  (have hlt := qW hs hx
   have hk : i * sz + j < vs.length := by omega
   have hv : vs[i * sz + j]? = some vs[i * sz + j] := List.getElem?_eq_getElem hk)
 ·simp only [World.cell?, qU, Nat.zero_add]
  rw [← Array.getElem?_toList, hcs, List.getElem?_append_left hk, hv]; simp
 ·simp only [hv]; exact h1 _ (List.getElem_mem hk)
 ·simp only [hv]; exact (hL.get _ _ _ (qV es hs i j x hx) hv).ev (Ev.p0 _ _)
section
variable {P : Program} {o : Oper} {ρ : Operand → aD} {h : aB} {K : aD → aB → Prop}
theorem aI6 (t : TypeId) (x : Operand) (ho : o.op = .box t x) (hf : (ρ x).cells.all aD.flat = true) (hk : K (.ip (ρ x).cells.length [(ρ x).cells] 0 0) h) : lU P o ρ h K := by
 intro E w ρc R hρ
 obtain ⟨hL, h1⟩ := (hρ x).zX hf
 have hs : ∀ e ∈ [(ρ x).cells], e.length = (ρ x).cells.length := by simp
 obtain ⟨cv, c1, c2, c3⟩ := aN1 (t := t) (d := w.drawn) R hs (cs := (ρc x).cells) (vs := (ρc x).cells.toList) (rest := []) (by simp) (by simpa using hL) h1
 refine .hH (v := .pointer (some ⟨w.heap.size, 0, none⟩)) (w' := Hl.p0 w (.cells (ρc x).cells t) w.drawn) ?_ ⟨_, h, E, hk, Ev.p0 _ _, R.p0 _ _, ?_⟩
 ·simp only [execOp, ho, Instr.box, newVar, newRow, Sem.run_bind, run_newObj, Result.andThen_ok, Sem.run_pure, mP]
 ·have := dY.ip (E := E) (h := h) (w := Hl.p0 w (.cells (ρc x).cells t) w.drawn) (ρ x).cells.length [(ρ x).cells] 0 0 w.heap.size 0 cv (aN0 R _ _) hs c1 c2 c3
  simpa using this
def p3 (es : List (List aD)) : List (Nat × aD) → List (List aD)
 | [] => es
 |(i, v) :: r => p3 (es.set i v.cells) r
def nU (len sz : Nat) : List (Nat × aD) → Bool
 | [] => true
 |(i, v) :: r => decide (i < len) && decide (v.cells.length = sz) && v.cells.all aD.flat && nU len sz r
theorem s7 : ∀ (ps : List (Nat × aD)) (es : List (List aD)), (p3 es ps).length = es.length
 | [], _ => rfl
 |(i, v) :: r, es => by simp [p3, s7 r]
theorem s8 {sz len : Nat} : ∀ (ps : List (Nat × aD)) (es : List (List aD)), nU len sz ps = true → (∀ e ∈ es, e.length = sz) → ∀ e ∈ p3 es ps, e.length = sz
 | [], _, _, h => h
 |(i, v) :: r, es, hf, h => by
  simp only [nU, Bool.and_eq_true, decide_eq_true_eq] at hf
  refine s8 r _ hf.2 fun e he => ?_
  rcases List.mem_or_eq_of_mem_set he with h1 | h1
  ·exact h e h1
  ·rw [h1]; exact hf.1.1.2
theorem uI (vs : Array Value) (off : Nat) (cs : Array Value) (k : Nat) (hle : off + vs.size ≤ cs.size) :
  (vs.zipIdx.foldl (fun cs (cj : Value × Nat) => cs.setIfInBounds (off + cj.2) cj.1) cs)[k]? = if off ≤ k ∧ k < off + vs.size then vs[k - off]? else cs[k]? := by
 have key : ∀ (l : List Value) (n : Nat) (cs : Array Value), off + n + l.length ≤ cs.size →
   ((l.zipIdx n).foldl (fun cs (cj : Value × Nat) => cs.setIfInBounds (off + cj.2) cj.1) cs)[k]? = if off + n ≤ k ∧ k < off + n + l.length then l[k - (off + n)]? else cs[k]? := by
  intro l
  induction l with
  |nil => intro n cs _; rw [if_neg (by simp)]; rfl
  |cons v l ih =>
   intro n cs hl
   simp only [List.zipIdx_cons, List.foldl_cons]
   rw [ih (n + 1) _ (by rw [Array.size_setIfInBounds]; simp at hl; omega)]
   simp only [List.length_cons] at hl ⊢
   by_cases h1 : off + (n + 1) ≤ k ∧ k < off + (n + 1) + l.length
   ·rw [if_pos h1, if_pos (by omega), show k - (off + n) = (k - (off + (n + 1))) + 1 by omega]; simp
   ·rw [if_neg h1]
    by_cases h2 : k = off + n
    ·subst h2
     have hlt : off + n < cs.size := by omega
     rw [if_pos (by omega)]; simp [Array.getElem?_setIfInBounds, hlt]
    ·rw [if_neg (by omega), Array.getElem?_setIfInBounds_ne (by omega)]
 have := key vs.toList 0 cs (by simpa using hle)
 rw [← Array.foldl_toList, Array.toList_zipIdx]
 simpa using this
theorem r6 (vs : Array Value) (off : Nat) (cs : Array Value) : (vs.zipIdx.foldl (fun cs (cj : Value × Nat) => cs.setIfInBounds (off + cj.2) cj.1) cs).size = cs.size := by
 have key : ∀ (l : List (Value × Nat)) (cs : Array Value), (l.foldl (fun cs (cj : Value × Nat) => cs.setIfInBounds (off + cj.2) cj.1) cs).size = cs.size := by
  intro l
  induction l with
  |nil => intro cs; rfl
  |cons v l ih => intro cs; simp only [List.foldl_cons]; rw [ih]; simp
 rw [← Array.foldl_toList]
 exact key _ cs
theorem r7 {α : Type} {sz : Nat} : ∀ (es : List (List α)), (∀ e ∈ es, e.length = sz) → ∀ k, k < es.length * sz → es.flatten[k]? = gO es (k / sz) (k % sz)
 | [], _, k, hk => by simp at hk
 |e :: es, hs, k, hk => by
  have he := hs e (by simp)
  have hs' := fun e he => hs e (List.mem_cons_of_mem _ he)
  have hsz : 0 < sz := by
   rcases Nat.eq_zero_or_pos sz with h | h
   ·subst h; simp at hk
   ·exact h
  rw [List.flatten_cons]
  by_cases h : k < sz
  ·rw [List.getElem?_append_left (by omega), Nat.div_eq_of_lt h, Nat.mod_eq_of_lt h]; simp [gO]
  ·rw [List.getElem?_append_right (by omega), he, r7 es hs' (k - sz) (by simp [Nat.succ_mul] at hk; omega)]
   have h1 : k / sz = (k - sz) / sz + 1 := by rw [Nat.div_eq_sub_div hsz (by omega)]
   have h2 : k % sz = (k - sz) % sz := Nat.mod_eq_sub_mod (by omega)
   rw [h1, h2]; simp [gO]
theorem aI7 {E : Env} {w : World} {sz len : Nat} {ρc : Operand → Value} (hρ : ∀ x, dY E h w (ρ x) (ρc x)) : ∀ (ps : List (Nat × Operand)) (es : List (List aD)) (cs : Array Value), nU len sz (ps.map fun p => (p.1, ρ p.2)) = true → es.length = len → (∀ e ∈ es, e.length = sz) →
  cX E h w es.flatten cs.toList → (∀ c ∈ cs.toList, c.oneCell' = true) →
  ∃ cs', Instr.fill (fun i => some (i * sz, sz)) cs (ps.map fun p => (p.1, ρc p.2)) = some cs' ∧ cX E h w (p3 es (ps.map fun p => (p.1, ρ p.2))).flatten cs'.toList ∧ ∀ c ∈ cs'.toList, c.oneCell' = true
 | [], es, cs, _, _, _, hL, h1 => ⟨cs, rfl, hL, h1⟩
 |(i, x) :: ps, es, cs, hf, hlen, hs, hL, h1 => by
  simp only [List.map_cons, nU, Bool.and_eq_true, decide_eq_true_eq] at hf
  obtain ⟨⟨⟨hi, hsz⟩, hfl⟩, hf⟩ := hf
  obtain ⟨hcL, hc1⟩ := (hρ x).zX hfl
  have hvs : (ρc x).cells.size = sz := by have := hcL.length; simp at this; omega
  have hcsz : cs.size = es.length * sz := by have := hL.length; rw [length_flatten es hs] at this; simpa using this.symm
  have hfit : i * sz + sz ≤ cs.size := by
   rw [hcsz, hlen]
   have := Nat.mul_le_mul_right sz (Nat.succ_le_of_lt hi)
   rw [Nat.succ_mul] at this; exact this
  have hget := fun k => uI (ρc x).cells (i * sz) cs k (by rw [hvs]; exact hfit)
  have hsize := r6 (ρc x).cells (i * sz) cs
  have hs' : ∀ e ∈ es.set i (ρ x).cells, e.length = sz := fun e he => by
   rcases List.mem_or_eq_of_mem_set he with h1 | h1
   ·exact hs e h1
   ·rw [h1]; exact hsz
  have hin : i * sz ≤ i * sz := Nat.le_refl _
  obtain ⟨cs', r1, r2, r3⟩ := aI7 hρ ps (es.set i (ρ x).cells) hf (by simpa using hlen) hs' (cs := (ρc x).cells.zipIdx.foldl (fun cs (cj : Value × Nat) => cs.setIfInBounds (i * sz + cj.2) cj.1) cs) (by
   refine cX.mk (by rw [length_flatten _ hs', List.length_set, ← hcsz, ← hsize]; rfl) ?_
   intro k y v hy hv
   rw [Array.getElem?_toList, hget k] at hv
   have hk : k < es.length * sz := by have := (List.getElem?_eq_some_iff.1 hy).1; rw [length_flatten _ hs'] at this; simpa using this
   have bA6 : 0 < sz := by
    rcases Nat.eq_zero_or_pos sz with h | h
    ·subst h; simp at hk
    ·exact h
   rw [r7 _ hs' k (by simpa using hk)] at hy
   by_cases hr : i * sz ≤ k ∧ k < i * sz + (ρc x).cells.size
   ·rw [if_pos hr] at hv
    have hd : k / sz = i := by
     rw [hvs] at hr
     exact Nat.div_eq_of_lt_le (by rw [Nat.mul_comm] at hr ⊢; omega) (by rw [Nat.succ_mul]; omega)
    have hm : k % sz = k - i * sz := by
     have := Nat.div_add_mod k sz
     rw [hd, Nat.mul_comm] at this; omega
    rw [hd, hm] at hy
    unfold gO at hy
    rw [List.getElem?_set_self (by rw [hlen]; exact hi)] at hy
    exact hcL.get _ _ _ (by simpa using hy) (by simpa using hv)
   ·rw [if_neg hr] at hv
    have hd : k / sz ≠ i := by
     intro e
     have hdm := Nat.div_add_mod k sz
     have := Nat.mod_lt k bA6
     rw [e, Nat.mul_comm] at hdm
     rw [hvs] at hr; omega
    unfold gO at hy
    rw [List.getElem?_set_ne (Ne.symm hd)] at hy
    exact hL.get k _ _ (by rw [r7 es hs k hk]; exact hy) (by simpa using hv)) (by
   intro c hc
   obtain ⟨k, hk⟩ := List.getElem?_of_mem hc
   rw [Array.getElem?_toList, hget k] at hk
   split at hk
   ·exact hc1 c (by rw [← Array.getElem?_toList] at hk; exact List.mem_of_getElem? hk)
   ·exact h1 c (by rw [← Array.getElem?_toList] at hk; exact List.mem_of_getElem? hk))
  refine ⟨cs', ?_, r2, r3⟩
  simp only [List.map_cons, Instr.fill, hvs]
  rw [if_neg (by simp; omega)]
  exact r1
theorem u1 {E : Env} {w : World} {ρc : Operand → Value} (hρ : ∀ x, dY E h w (ρ x) (ρc x)) (t et : TypeId) (len : Nat) (ps : Array (Nat × Operand)) (r re : jS) (ho : o.op = .buildSlice t len ps) (ht : gH P t = some r) (hd : r.d = .slice et) (he : gH P et = some re)
  (hz : re.zero.length = re.sz) (hz0 : 0 < re.sz) (hf : re.zero.all aD.flat = true) (hlen : len * re.sz ≤ 16777216) (hfill : nU len re.sz (ps.toList.map fun p => (p.1, ρ p.2)) = true) :
  ∃ (cs : Array Value), (execOp ρc o).run P w = .ok (.value (.slice (some ⟨w.heap.size, 0, none⟩) len len)) (p0 w (.cells cs et) w.drawn) ∧
   cX E h w (p3 (List.replicate len re.zero) (ps.toList.map fun p => (p.1, ρ p.2))).flatten cs.toList ∧ ∀ c ∈ cs.toList, c.oneCell' = true := by
 obtain ⟨u, hu, hud, hrun⟩ := bN (w := w) ht
 obtain rfl := fU (hud.trans hd)
 have hsize := fJ (w := w) he
 obtain ⟨z, hzr, hzz⟩ := mO (w := w) he (by intro e; rw [e] at hz; simp at hz; omega)
 have hL : cX E h w re.zero z.cells.toList := by rw [← hzz]; exact nA E h w _
 have hzs : z.cells.size = re.sz := by have := hL.length; simp at this; omega
 have hflat := hL.aRZ (by omega) len
 have hone := hflat.m8 (by
  rw [List.all_eq_true]
  intro x hx
  obtain ⟨l, hl, hx⟩ := List.mem_flatten.1 hx
  rw [List.eq_of_mem_replicate hl] at hx
  exact List.all_eq_true.1 hf x hx)
 have hs : ∀ e ∈ List.replicate len re.zero, e.length = re.sz := fun e he => by rw [List.eq_of_mem_replicate he, hz]
 obtain ⟨cs, h1, h2, h3⟩ := aI7 hρ ps.toList (List.replicate len re.zero) _ hfill (by simp) hs hflat hone
 refine ⟨cs, ?_, h2, h3⟩
 have hmap : (ps.map fun (i, x) => (i, ρc x)).toList = ps.toList.map fun p => (p.1, ρc p.2) := by simp
 rw [hzs] at h1
 have n1 : ¬ (len * re.sz > 2 ^ 24) := by simp; omega
 simp only [execOp, ho, Instr.buildSlice, Sem.run_bind, hrun, Result.andThen_ok, hsize, hmap, if_neg n1, Sem.run_ite]
 by_cases hl0 : len * re.sz = 0
 ·have aR0 : len = 0 := by
   rcases Nat.mul_eq_zero.1 hl0 with h | h
   ·exact h
   ·omega
  subst aR0
  simp only [Nat.zero_mul] at h1 ⊢
  have e0 : Array.range 0 = #[] := by simp
  simp only [e0, Array.map_empty] at h1 ⊢
  simp [h1, newRow, mP]
  rfl
 ·simp only [hl0, if_false, Sem.run_bind, hzr, Result.andThen_ok, Sem.run_pure, hzs]
  simp [h1, newRow, mP]
  rfl
theorem aCM (t et : TypeId) (len : Nat) (ps : Array (Nat × Operand)) (r re : jS) (ho : o.op = .buildSlice t len ps) (ht : gH P t = some r) (hd : r.d = .slice et) (he : gH P et = some re)
  (hz : re.zero.length = re.sz) (hz0 : 0 < re.sz) (hf : re.zero.all aD.flat = true) (hlen : len * re.sz ≤ 16777216) (hfill : nU len re.sz (ps.toList.map fun p => (p.1, ρ p.2)) = true)
  (hk : ∀ n, h n = none → K (.os n re.sz 0 len) (a5 h n (.row re.sz ((p3 (List.replicate len re.zero) (ps.toList.map fun p => (p.1, ρ p.2))).map (List.map .v))))) : lU P o ρ h K := by
 have hs : ∀ e ∈ List.replicate len re.zero, e.length = re.sz := fun e he => by rw [List.eq_of_mem_replicate he, hz]
 refine rM re.sz len (p3 (List.replicate len re.zero) (ps.toList.map fun p => (p.1, ρ p.2))) (s8 _ _ hfill hs) hk ?_
 intro E w ρc R hρ
 obtain ⟨cs, h1, h2, h3⟩ := u1 (P := P) hρ t et len ps r re ho ht hd he hz hz0 hf hlen hfill
 have hcs : cs.size = len * re.sz := by
  have := h2.length
  rw [length_flatten _ (s8 _ _ hfill hs), s7] at this
  simpa using this.symm
 have : len ≤ len * re.sz := Nat.le_mul_of_pos_right len hz0
 exact ⟨cs, et, w.drawn, len, cs.toList, [], h1, Nat.le_refl _, by unfold maxLen; omega, by omega, by simp, h2, h3⟩
theorem wZ (t et : TypeId) (len : Nat) (ps : Array (Nat × Operand)) (r re : jS) (ho : o.op = .buildSlice t len ps) (ht : gH P t = some r) (hd : r.d = .slice et) (he : gH P et = some re)
  (hz : re.zero.length = re.sz) (hz0 : 0 < re.sz) (hf : re.zero.all aD.flat = true) (hlen : len * re.sz ≤ 16777216) (hfill : nU len re.sz (ps.toList.map fun p => (p.1, ρ p.2)) = true)
  (hk : K (.sl re.sz (p3 (List.replicate len re.zero) (ps.toList.map fun p => (p.1, ρ p.2))) true) h) : lU P o ρ h K := by
 have hs : ∀ e ∈ List.replicate len re.zero, e.length = re.sz := fun e he => by rw [List.eq_of_mem_replicate he, hz]
 have hs' := s8 (sz := re.sz) _ _ hfill hs
 intro E w ρc R hρ
 obtain ⟨cs, h1, h2, h3⟩ := u1 (P := P) hρ t et len ps r re ho ht hd he hz hz0 hf hlen hfill
 obtain ⟨cv, c1, c2, c3⟩ := aN1 (t := et) (d := w.drawn) R hs' (cs := cs) (vs := cs.toList) (rest := []) (by simp) h2 h3
 refine .hH h1 ⟨_, h, E, hk, Ev.p0 _ _, R.p0 _ _, ?_⟩
 have hl : (p3 (List.replicate len re.zero) (ps.toList.map fun p => (p.1, ρ p.2))).length = len := by rw [s7, List.length_replicate]
 have : len ≤ len * re.sz := Nat.le_mul_of_pos_right len hz0
 have := dY.sl (E := E) (h := h) (w := Hl.p0 w (.cells cs et) w.drawn) re.sz _ true w.heap.size 0 len cv (aN0 R _ _) (by omega) (by unfold maxLen; omega) (fun _ => hl.symm) hs' c1 c2 c3
 rw [hl] at this
 exact this
end
def pP : List (List Cell) → Option (List (List aD))
 | [] => some []
 |e :: es => match uY e, pP es with
  |some x, some xs => some (x :: xs)
  | _, _ => none
theorem wQ : ∀ {es : List (List Cell)} {xs : List (List aD)}, pP es = some xs → es = xs.map (List.map .v)
 | [], xs, h => by simp [pP] at h; subst h; rfl
 |e :: es, xs, h => by
  unfold pP at h
  split at h
  ·rename_i x xs' hx hxs
   obtain rfl := Option.some.inj h
   simp [wX hx, wQ hxs]
  ·simp at h
def qX (h : aB) (sz : Nat) : aD → Option (List (List aD))
 | .sl sz' ys _ => if sz' = sz then some ys else none
 | .bO => some []
 | .str s => if sz = 1 then some (s.map fun c => [.int .u8 c.toNat]) else none
 | .os m sz' j k => match h m with
  |some (.row sz'' es) => if sz' = sz ∧ sz'' = sz ∧ j + k ≤ es.length then pP ((es.drop j).take k) else none
  | _ => none
 | _ => none
theorem aCN {E : Env} {h : aB} {w : World} {b o sz : Nat} {es : List (List aD)} (hs : ∀ e ∈ es, e.length = sz) {cv : Nat → Nat → Value}
  (hc : ∀ i j x, gO es i j = some x → w.cell? ⟨b, o + i * sz + j, none⟩ = some (cv i j)) (h1 : ∀ i j x, gO es i j = some x → (cv i j).oneCell' = true) (hr : ∀ i j x, gO es i j = some x → dY E h w x (cv i j)) :
  ∃ vs : List Value, cX E h w es.flatten vs ∧ (∀ c ∈ vs, c.oneCell' = true) ∧ ∀ j v, vs[j]? = some v → w.cell? ((⟨b, o, none⟩ : Addr).add j) = some v := by
 have hlen := length_flatten es hs
 refine ⟨(List.range (es.length * sz)).map fun k => cv (k / sz) (k % sz), ?_, ?_, ?_⟩
 ·refine cX.mk (by simp [hlen]) ?_
  intro k x v hx hv
  have hk : k < es.length * sz := by rw [← hlen]; exact (List.getElem?_eq_some_iff.1 hx).1
  rw [List.getElem?_map, List.getElem?_range hk] at hv
  obtain rfl := Option.some.inj hv
  rw [r7 es hs k hk] at hx
  exact hr _ _ _ hx
 ·intro c hc'
  obtain ⟨k, hk, rfl⟩ := List.mem_map.1 hc'
  have hk : k < es.length * sz := by simpa using hk
  have hx : es.flatten[k]? = some (es.flatten[k]'(by omega)) := List.getElem?_eq_getElem (by omega)
  rw [r7 es hs k hk] at hx
  exact h1 _ _ _ hx
 ·intro k v hv
  have hk : k < es.length * sz := by have := (List.getElem?_eq_some_iff.1 hv).1; simpa using this
  rw [List.getElem?_map, List.getElem?_range hk] at hv
  obtain rfl := Option.some.inj hv
  have hx : es.flatten[k]? = some (es.flatten[k]'(by omega)) := List.getElem?_eq_getElem (by omega)
  rw [r7 es hs k hk] at hx
  rw [j7, ← hc _ _ _ hx]
  congr 2
  have := Nat.div_add_mod k sz
  rw [Nat.mul_comm] at this; omega
theorem w5 {w w' : World} (h : w'.heap = w.heap) (a : Addr) : w'.cell? a = w.cell? a := by simp only [World.cell?, h]
def aR1 (P : Program) (E : Env) (h : aB) (w : World) (sz : Nat) (ys : List (List aD)) (v : Value) : Prop :=
  ∃ news : List Value, (∀ e ∈ ys, e.length = sz) ∧ (∀ w', (Builtin.lenOf v).run P w' = .ok ys.length w') ∧ (∀ w', w'.heap = w.heap → (Builtin.firstCells sz ys.length v).run P w' = .ok news.toArray w') ∧
   cX E h w ys.flatten news ∧ (∀ c ∈ news, c.oneCell' = true) ∧ ys.length ≤ maxLen
theorem aBW {P : Program} {E : Env} {h : aB} {w : World} (R : Rel E h w) {sz : Nat} {x : aD} {v : Value} {ys : List (List aD)} (hx : qX h sz x = some ys) (r : dY E h w x v) : aR1 P E h w sz ys v := by
 unfold qX at hx
 have slices : ∀ (b o len cap : Nat) (cv : Nat → Nat → Value), v = .slice (some ⟨b, o, none⟩) len cap → len = ys.length → len ≤ maxLen → (∀ e ∈ ys, e.length = sz) → (∀ i j x, gO ys i j = some x → w.cell? ⟨b, o + i * sz + j, none⟩ = some (cv i j)) →
   (∀ i j x, gO ys i j = some x → (cv i j).oneCell' = true) → (∀ i j x, gO ys i j = some x → dY E h w x (cv i j)) → aR1 P E h w sz ys v := by
  intro b o len cap cv hv hl hmax hs hc h1 hr
  obtain ⟨vs, hL, hone, hcell⟩ := aCN hs hc h1 hr
  refine ⟨vs, hs, fun w' => by rw [hv, ← hl]; simp [Builtin.lenOf], fun w' hw => ?_, hL, hone, by omega⟩
  rw [hv]
  refine run_firstCells_some w' sz ys.length _ _ _ vs (by rw [← hL.length, length_flatten ys hs]) fun j u hu => ?_
  rw [w5 hw]; exact hcell j u hu
 split at hx
 ·rename_i sz' ys' t
  split at hx
  ·rename_i e
   subst e
   obtain rfl := Option.some.inj hx
   cases r with
   |wW _ _ a cap ht hmax ha =>
    refine ⟨[], by simp, fun w' => by simp [Builtin.lenOf], fun w' hw => ?_, trivial, by simp, by simp⟩
    cases a with
    |none => simp [Builtin.firstCells]
    |some a => simp [Builtin.firstCells, loadCells, loadCellsFrom]
   |sl _ _ _ b o cap cv hi hcap hmax ht hs hc h1 hr => exact slices b o _ _ cv rfl rfl (by omega) hs hc h1 hr
  ·simp at hx
 ·obtain rfl := Option.some.inj hx
  cases r
  exact ⟨[], by simp, fun w' => by simp [Builtin.lenOf], fun w' hw => by simp [Builtin.firstCells], trivial, by simp, by simp⟩
 ·rename_i s
  split at hx
  ·rename_i e
   subst e
   obtain rfl := Option.some.inj hx
   cases r with
   |str _ hl =>
    refine ⟨s.map fun c => .int .u8 c.toNat, by simp, fun w' => by simp [Builtin.lenOf, ByteArray.size], fun w' hw => ?_, ?_, by simp [Value.oneCell'], by simpa using hl⟩
    ·simp only [Builtin.firstCells, List.length_map]
     have : (ByteArray.mk s.toArray).extract 0 s.length = ⟨s.toArray⟩ := by
      apply ByteArray.ext
      rw [ByteArray.data_extract]; simp
     rw [this]; simp
    ·refine cX.mk (by rw [length_flatten (sz := 1) _ (by simp)]; simp) ?_
     have : ∀ (s : List UInt8), (s.map fun c => [aD.int .u8 c.toNat]).flatten = s.map fun c => aD.int .u8 c.toNat := fun s => by
      induction s with
      |nil => rfl
      |cons c s ih => simp [ih]
     rw [this]
     intro i x v hx hv
     rw [List.getElem?_map] at hx hv
     obtain ⟨c, hc, rfl⟩ := Option.map_eq_some_iff.1 hx
     rw [hc] at hv
     obtain rfl := Option.some.inj hv
     exact .int _ _
  ·simp at hx
 ·rename_i m sz' j k
  split at hx
  ·rename_i sz'' es hm
   split at hx
   ·rename_i e
    obtain ⟨rfl, rfl, hjk⟩ := e
    have hpl := wQ hx
    have hlen : ys.length = k := by have := congrArg List.length hpl; simp at this; omega
    cases r with
    |os0 _ _ hd hl =>
     have : ys = [] := List.length_eq_zero_iff.1 hlen
     subst this
     exact ⟨[], by simp, fun w' => by simp [Builtin.lenOf], fun w' hw => by simp [Builtin.firstCells], trivial, by simp, by simp⟩
    |os _ _ _ _ b o cap t mm hd hl hlc hmax hsh hm' =>
     obtain ⟨b', o', hl', hbS, hs, cs, ct, cv, T, hh, hmm, hT, hD, hc, hrr⟩ := uZ R hm (.inr ⟨_, hl⟩)
     rw [hl] at hl'
     obtain ⟨rfl, rfl⟩ := Prod.mk.inj (Option.some.inj hl')
     have hat : ∀ i' j' y, gO ys i' j' = some y → gO es (j + i') j' = some (.v y) := by
      intro i' j' y hy
      have h1 : gO (ys.map (List.map Cell.v)) i' j' = some (.v y) := by rw [m7, hy]; rfl
      rw [← hpl] at h1
      obtain ⟨e, h2, h3⟩ := jH h1
      have hlt : i' < k := by have := (List.getElem?_eq_some_iff.1 h2).1; simp at this; omega
      rw [List.getElem?_take_of_lt hlt, List.getElem?_drop] at h2
      simp [gO, h2, h3]
     refine slices b _ k cap (fun i' j' => cv (j + i') j') rfl hlen.symm (by omega) ?_ ?_ ?_ ?_
     ·intro e he
      have : e.map Cell.v ∈ (es.drop j).take k := by rw [hpl]; exact List.mem_map.2 ⟨e, he, rfl⟩
      have := hs _ (List.mem_of_mem_drop (List.mem_of_mem_take this))
      simpa using this
     ·intro i' j' y hy
      have := hc _ _ _ (hat i' j' y hy)
      simp only [World.cell?, hh, Option.isSome_none, Bool.false_eq_true, if_false]
      rw [← this]; congr 1; rw [Nat.add_mul]; omega
     ·intro i' j' y hy; exact (hrr _ _ _ (hat i' j' y hy)).one
     ·intro i' j' y hy
      have := hrr _ _ _ (hat i' j' y hy)
      generalize cv (j + i') j' = c at this
      generalize T (j + i') j' = S at this
      cases this with
      |v _ _ _ _ hx => exact hx
   ·simp at hx
  ·simp at hx
 ·simp at hx
def a02 (P : Program) (t : TypeId) : Option TyD := (gH P t).map (·.d)
def u3 (P : Program) (t : Option TypeId) : Bool :=
 match t with
 |some t => match a02 P t with
  |some (.slice _) => true
  |some .str => true
  | _ => false
 |none => false
theorem z3 {P : Program} {w : World} {t : Option TypeId} (h : u3 P t = true) :
  ∃ t', t = some t' ∧ ((∃ e, (underlying t').run P w = .ok (.slice e) w) ∨ (underlying t').run P w = .ok .string w) := by
 unfold u3 at h
 cases t with
 |none => simp at h
 |some t =>
  refine ⟨t, rfl, ?_⟩
  simp only [a02] at h
  cases hr : gH P t with
  |none => simp [hr] at h
  |some r =>
   simp only [hr, Option.map_some] at h
   obtain ⟨u, hu, hud, hrun⟩ := bN (w := w) hr
   split at h
   ·rename_i e he
    obtain rfl := fU (hud.trans (Option.some.inj he))
    exact .inl ⟨e, hrun⟩
   ·rename_i he
    obtain rfl := xZ (hud.trans (Option.some.inj he))
    exact .inr hrun
   ·simp at h
section
variable {P : Program} {o : Oper} {ρ : Operand → aD} {h : aB} {K : aD → aB → Prop}
theorem u4 {w : World} {t et : TypeId} {t1 : Option TypeId} {r re : jS} (ht : gH P t = some r) (hd : r.d = .slice et) (he : gH P et = some re) (h1 : u3 P t1 = true) (ats : Array TypeId) (a0 : ats[0]? = some t) (a1 : ats[1]? = t1) (ty : TypeId)
  {base : Option Addr} {sLen sCap n : Nat} {v : Value} {olds news : List Value} {z : Value} (hz : (∀ w, (zeroValue et).run P w = .ok z w)) (hlen : ∀ w', (Builtin.lenOf v).run P w' = .ok n w')
  (hold : ∀ w', w'.heap = w.heap → (Builtin.firstCells re.sz sLen (.slice base sLen sCap)).run P w' = .ok olds.toArray w') (hnew : ∀ w', w'.heap = w.heap → (Builtin.firstCells re.sz n v).run P w' = .ok news.toArray w')
  (hg : sCap < sLen + n) (hb : (sLen + n) * re.bytes ≤ 140737488355328) (hmax : sLen + n ≤ maxLen) :
  ∃ cap d, sLen + n ≤ cap ∧ cap ≤ maxLen ∧ (Builtin.append_ ats ty #[.slice base sLen sCap, v]).run P w =
   .ok (.slice (some ⟨w.heap.size, 0, none⟩) (sLen + n) cap) (p0 w (.cells ((olds ++ news).toArray ++ Builtin.zeroCells z.cells (cap - (sLen + n))) et) d) := by
 obtain ⟨u, hu, hud, hrun⟩ := bN (w := w) ht
 obtain rfl := fU (hud.trans hd)
 have hsize : ∀ w, (sizeOf et).run P w = .ok re.sz w := fun w => fJ he
 obtain ⟨i, u', hi, hu', hsz, hby, _⟩ := oN he
 obtain ⟨t', rfl, hu1⟩ := z3 (w := w) h1
 have hti : ∀ w, (typeInfo et).run P w = .ok i w := fun w => by simp [typeInfo, hi]
 have hge := grownCap_ge w (sLen + n) sCap et
 have hcm := grownCap_le_maxLen w (sLen + n) sCap et hmax
 refine ⟨grownCap w (sLen + n) sCap et, w.drawn + 1, hge, hcm, ?_⟩
 have hml : maxLen = 9223372036854775807 := rfl
 have n1 : ¬ (sLen + n ≤ sCap) := by omega
 have n3 : ¬ (281474976710656 < Builtin.nextslicecap (sLen + n) sCap * i.bytes) := by
  have := growslice_fits hg (by rw [← hby]; exact hb : (sLen + n) * i.bytes ≤ 140737488355328)
  omega
 have n2 : ¬ (9223372036854775807 < ((sLen : Int) + (n : Int))) := by omega
 have hw : (w.drew).heap = w.heap := rfl
 have hassoc : ∀ zc : Array Value, olds.toArray ++ (news.toArray ++ zc) = (olds ++ news).toArray ++ zc := fun zc => by apply Array.ext'; simp
 rcases hu1 with ⟨e, hu1⟩ | hu1
 ·simp [Builtin.append_, a0, a1, hrun, hsize, hu1, hlen, n1, n2, n3, hti, Question.forced, grownCap, hold _ hw, hnew _ hw, hz, newRow, hassoc]
  rfl
 ·simp [Builtin.append_, a0, a1, hrun, hsize, hu1, hlen, n1, n2, n3, hti, Question.forced, grownCap, hold _ hw, hnew _ hw, hz, newRow, hassoc]
  rfl
end
section
variable {P : Program} {o : Oper} {ρ : Operand → aD} {h : aB} {K : aD → aB → Prop}
theorem mQ {ρc : Operand → Value} {w : World} (x y : Operand) (ats : Array TypeId) (ho : o.op = .call { callee := .builtin .append, args := #[x, y], argTypes := ats }) :
  (execOp ρc o).run P w = ((Builtin.append_ ats o.type #[ρc x, ρc y]).run P w).andThen fun v w' => .ok (.value v) w' := by
 simp [execOp, ho, resolve, invoke, builtin]
def yA (sz : Nat) : aD → Option (List (List aD))
 | .bO => some []
 | .sl sz' es true => if sz' = sz then some es else none
 | _ => none
theorem w6 (z : Array Value) (n : Nat) : (Builtin.zeroCells z n).size = n * z.size := by simp [Builtin.zeroCells]
theorem aCO (x y : Operand) (ats : Array TypeId) (t et : TypeId) (r re : jS) (olds ys : List (List aD)) (ho : o.op = .call { callee := .builtin .append, args := #[x, y], argTypes := ats })
  (a0 : ats[0]? = some t) (ht : gH P t = some r) (hd : r.d = .slice et) (he : gH P et = some re) (hz : re.zero.length = re.sz) (hz0 : 0 < re.sz) (h1 : u3 P ats[1]? = true)
  (hx : yA re.sz (ρ x) = some olds) (hy : qX h re.sz (ρ y) = some ys) (hne : ys ≠ []) (hb : (olds.length + ys.length) * re.bytes ≤ 140737488355328) (hmax : olds.length + ys.length ≤ 9223372036854775807)
  (hk : ∀ n, h n = none → K (.os n re.sz 0 (olds.length + ys.length)) (a5 h n (.row re.sz ((olds ++ ys).map (List.map .v))))) : lU P o ρ h K := by
 have hml : maxLen = 9223372036854775807 := rfl
 have aR0 : 0 < ys.length := List.length_pos_iff.2 hne
 have dst : ∀ E w v, dY E h w (ρ x) v → ∃ (base : Option Addr) (cap : Nat) (vs : List Value), v = .slice base olds.length cap ∧ cap < olds.length + ys.length ∧ (∀ e ∈ olds, e.length = re.sz) ∧ cX E h w olds.flatten vs ∧ (∀ c ∈ vs, c.oneCell' = true) ∧
   ∀ w', w'.heap = w.heap → (Builtin.firstCells re.sz olds.length (.slice base olds.length cap)).run P w' = .ok vs.toArray w' := by
  intro E w v hr
  unfold yA at hx
  split at hx
  ·rename_i hxv
   obtain rfl := Option.some.inj hx
   rw [hxv] at hr
   cases hr
   exact ⟨none, 0, [], rfl, by simpa using aR0, by simp, trivial, by simp, fun w' _ => by simp [Builtin.firstCells]⟩
  ·rename_i sz' es hxv
   split at hx
   ·rename_i e
    obtain rfl := Option.some.inj hx
    rw [hxv] at hr
    cases hr with
    |wW _ _ a cap htt hm ha =>
     have := htt rfl
     refine ⟨_, _, [], rfl, by simp; omega, by simp, trivial, by simp, fun w' _ => ?_⟩
     cases a <;> simp [Builtin.firstCells, loadCells, loadCellsFrom]
    |sl _ _ _ b o' cap cv hI hcap hm htt hs hc hone hrr =>
     have := htt rfl
     subst e
     obtain ⟨vs, hL, qY, hcell⟩ := aCN hs hc hone hrr
     refine ⟨_, _, vs, rfl, by omega, hs, hL, qY, fun w' hw => ?_⟩
     refine run_firstCells_some w' _ _ _ _ _ vs (by rw [← hL.length, length_flatten _ hs]) fun j u hu => ?_
     rw [w5 hw]; exact hcell j u hu
   ·simp at hx
  ·simp at hx

 intro E w ρc R hρ
 obtain ⟨base, cap, vs, hv, hcap, hso, hLo, qY, hfo⟩ := dst E w _ (hρ x)
 obtain ⟨news, hsn, hlen, hfn, hLn, w7, _⟩ := aBW (P := P) R hy (hρ y)
 have hs : ∀ e ∈ olds ++ ys, e.length = re.sz := fun e he => by
  rcases List.mem_append.1 he with h | h
  ·exact hso e h
  ·exact hsn e h
 refine rM re.sz (olds.length + ys.length) (olds ++ ys) hs hk ?_ E w ρc R hρ
 intro E w ρc R hρ
 obtain ⟨base, cap, vs, hv, hcap, hso, hLo, qY, hfo⟩ := dst E w _ (hρ x)
 obtain ⟨news, hsn, hlen, hfn, hLn, w7, _⟩ := aBW (P := P) R hy (hρ y)
 obtain ⟨z, hzr, hzz⟩ := mO (w := w) he (by intro e; rw [e] at hz; simp at hz; omega)
 have hzr' : ∀ w, (zeroValue et).run P w = .ok z w := by
  intro w'
  obtain ⟨z', hzr', hzz'⟩ := mO (w := w') he (by intro e; rw [e] at hz; simp at hz; omega)
  have : z' = z := by
   obtain ⟨i, u, hi, _⟩ := oN he
   simp only [zeroValue, typeInfo, Sem.run_bind, run_program, Result.andThen_ok, hi, Sem.run_pure] at hzr hzr'
   cases hiz : i.zero with
   |none => simp [hiz] at hzr
   |some z0 => simp [hiz] at hzr hzr'; rw [← hzr, ← hzr']
  rw [← this]; exact hzr'
 have hzs : z.cells.size = re.sz := by have := congrArg List.length hzz; simp [hz] at this; exact this
 obtain ⟨ncap, d, g1, g2, grun⟩ := u4 (w := w) (t1 := ats[1]?) ht hd he h1 ats a0 rfl o.type (base := base) (sLen := olds.length) (sCap := cap) (n := ys.length) (v := ρc y) (olds := vs) (news := news) (z := z) hzr' hlen hfo hfn hcap hb (by omega)
 refine ⟨(vs ++ news).toArray ++ Builtin.zeroCells z.cells (ncap - (olds.length + ys.length)), et, d, ncap, vs ++ news, (Builtin.zeroCells z.cells (ncap - (olds.length + ys.length))).toList, ?_, g1, g2, ?_, by simp, by rw [List.flatten_append]; exact hLo.append hLn, fun c hc => ?_⟩
 ·rw [mQ x y ats ho, hv, grun]; rfl
 ·have e1 := hLo.length
  have e2 := hLn.length
  rw [length_flatten _ hso] at e1
  rw [length_flatten _ hsn] at e2
  rw [Array.size_append, w6, hzs, List.size_toArray, List.length_append, ← e1, ← e2, ← Nat.add_mul, ← Nat.add_mul]
  have : olds.length + ys.length + (ncap - (olds.length + ys.length)) = ncap := by omega
  rw [this]; exact Nat.le_refl _
 ·rcases List.mem_append.1 hc with h | h
  ·exact qY c h
  ·exact w7 c h
theorem aBN (x y : Operand) (ats : Array TypeId) (t et : TypeId) (r re : jS) (ho : o.op = .call { callee := .builtin .append, args := #[x, y], argTypes := ats })
  (a0 : ats[0]? = some t) (ht : gH P t = some r) (hd : r.d = .slice et) (he : gH P et = some re) (h1 : u3 P ats[1]? = true)
  (hx : (yA re.sz (ρ x)).isSome = true) (hy : qX h re.sz (ρ y) = some []) (hk : K (ρ x) h) : lU P o ρ h K :=
 bU hk fun E w ρc R hρ => by
  obtain ⟨news, hsn, hlen, hfn, hLn, w7, _⟩ := aBW (P := P) R hy (hρ y)
  have hnil : news = [] := by have := hLn.length; simp at this; exact List.length_eq_zero_iff.1 this.symm
  subst hnil
  obtain ⟨u, hu, hud, hrun⟩ := bN (w := w) ht
  obtain rfl := fU (hud.trans hd)
  have hsize : ∀ w, (sizeOf et).run P w = .ok re.sz w := fun w => fJ he
  have dst : ∃ (base : Option Addr) (n cap : Nat), ρc x = .slice base n cap ∧ n ≤ cap := by
   have hr := hρ x
   unfold yA at hx
   split at hx
   ·rename_i e; rw [e] at hr; generalize ρc x = v at hr ⊢; cases hr; exact ⟨none, 0, 0, rfl, Nat.le_refl _⟩
   ·rename_i e; rw [e] at hr; generalize ρc x = v at hr ⊢
    cases hr with
    |wW => exact ⟨_, _, _, rfl, Nat.zero_le _⟩
    |sl => exact ⟨_, _, _, rfl, by assumption⟩
   ·cases hx
  obtain ⟨base, n, cap, hv, hc⟩ := dst
  obtain ⟨t', ht', hu1⟩ := z3 (w := w) h1
  refine ⟨ρc x, ?_, hρ x⟩
  have hfn' := hfn w rfl
  have hlen' := hlen w
  simp only [List.length_nil] at hfn' hlen'
  rw [mQ x y ats ho, hv]
  rcases hu1 with ⟨e, hu1⟩ | hu1
  ·cases base <;> simp [Builtin.append_, a0, ht', hrun, hsize, hu1, hlen', hc, hfn', storeCells]
  ·cases base <;> simp [Builtin.append_, a0, ht', hrun, hsize, hu1, hlen', hc, hfn', storeCells]
end
def Env.mv (E : Env) (b : Nat) (l : Option (Nat × Nat)) (S : Nat → Prop) : Env where
 loc := fun m => if m = b then l else E.loc m
 fp := fun m c => if m = b then S c else E.fp m c
 used := fun m => m = b ∨ E.used m
theorem Ev.mv {E : Env} {h : aB} {w w' : World} (R : Rel E h w) {n : Nat} {x : bL} (hn : h n = some x) (hx : x.live) {b : Nat} (hb : ¬ E.used b) (l : Option (Nat × Nat)) (S : Nat → Prop) (x' : bL)
  (hS : ∀ c, S c → E.fp n c ∨ w.heap.size ≤ c) (hsize : w.heap.size ≤ w'.heap.size) (hheap : ∀ c, c < w.heap.size → ¬ E.fp n c → w'.heap[c]? = w.heap[c]?) (hsh : ∀ c, c < w.heap.size → w'.shape? c = w.shape? c) (hos : w'.os = w.os) (hout : w'.output = w.output) :
  Ev E h w (E.mv b l S) (a5 (a5 h n .gone) b x') w' := by
 have hnb : n ≠ b := fun e => hb (e ▸ R.dom n (by simp [hn]))
 refine ⟨hsize, fun c hc => ⟨hheap c hc.1 (hc.2 n x hn hx), ⟨by have := hc.1; omega, ?_⟩⟩, hsh, fun m hm => ?_, hos, hout⟩
 ·intro m y hm hy hf
  by_cases e : m = b
  ·subst e
   have hf : S c := by simpa [Env.mv] using hf
   rcases hS c hf with h1 | h1
   ·exact hc.2 n x hn hx h1
   ·have := hc.1; omega
  ·rw [aF _ _ _ _ e] at hm
   have hf : E.fp m c := by simpa [Env.mv, e] using hf
   by_cases e2 : m = n
   ·subst e2; rw [aH] at hm; obtain rfl := Option.some.inj hm; exact hy.elim
   ·rw [aF _ _ _ _ e2] at hm; exact hc.2 m y hm hy hf
 ·have e : m ≠ b := fun e => hb (e ▸ hm)
  exact ⟨by simp [Env.mv, e], .inr hm⟩
theorem Rel.mv {E : Env} {h : aB} {w w' : World} (R : Rel E h w) {n : Nat} {x : bL} (hn : h n = some x) (hx : x.live) {b : Nat} (hb : ¬ E.used b) (l : Option (Nat × Nat)) (S : Nat → Prop) (x' : bL)
  (hS : ∀ c, S c → E.fp n c ∨ w.heap.size ≤ c) (hS' : ∀ c, S c → c < w'.heap.size) (hsize : w.heap.size ≤ w'.heap.size) (hheap : ∀ c, c < w.heap.size → ¬ E.fp n c → w'.heap[c]? = w.heap[c]?) (hsh : ∀ c, c < w.heap.size → w'.shape? c = w.shape? c) (hos : w'.os = w.os) (hout : w'.output = w.output)
  (hO : xX (E.mv b l S) (a5 (a5 h n .gone) b x') w' b x') : Rel (E.mv b l S) (a5 (a5 h n .gone) b x') w' := by
 have ev := Ev.mv R hn hx hb l S x' hS hsize hheap hsh hos hout
 have hnb : n ≠ b := fun e => hb (e ▸ R.dom n (by simp [hn]))
 have hcase : ∀ m y, a5 (a5 h n .gone) b x' m = some y → y.live → (m = b ∧ y = x') ∨ (m ≠ b ∧ m ≠ n ∧ h m = some y) := by
  intro m y hm hy
  by_cases e : m = b
  ·subst e; rw [aH] at hm; exact .inl ⟨rfl, (Option.some.inj hm).symm⟩
  ·rw [aF _ _ _ _ e] at hm
   by_cases e2 : m = n
   ·subst e2; rw [aH] at hm; obtain rfl := Option.some.inj hm; exact hy.elim
   ·rw [aF _ _ _ _ e2] at hm; exact .inr ⟨e, e2, hm⟩
 refine ⟨?_, ?_, ?_, ?_, ?_, R.laid.ev ev⟩
 ·obtain ⟨N, hN⟩ := R.fin
  exact ⟨max N (b + 1), fun m hm => by rintro (e | e); · omega
                                       · exact hN m (by omega) e⟩
 ·intro m hm
  by_cases e : m = b
  ·exact .inl e
  ·rw [aF _ _ _ _ e] at hm
   by_cases e2 : m = n
   ·subst e2; exact .inr (R.dom m (by simp [hn]))
   ·rw [aF _ _ _ _ e2] at hm; exact .inr (R.dom m hm)
 ·intro m y c hm hy hf
  rcases hcase m y hm hy with ⟨rfl, rfl⟩ | ⟨e, e2, hm'⟩
  ·exact hS' c (by simpa [Env.mv] using hf)
  ·have := R.lt m y c hm' hy (by simpa [Env.mv, e] using hf); omega
 ·intro m y m' y' c hm hy hm' hy' hf hf'
  rcases hcase m y hm hy with ⟨rfl, rfl⟩ | ⟨e, e2, h1⟩ <;> rcases hcase m' y' hm' hy' with ⟨rfl, rfl⟩ | ⟨e', e2', h1'⟩
  ·rfl
  ·have hf : S c := by simpa [Env.mv] using hf
   have hf' : E.fp m' c := by simpa [Env.mv, e'] using hf'
   rcases hS c hf with h2 | h2
   ·exact absurd (R.apart n x m' y' c hn hx h1' hy' h2 hf').symm e2'
   ·have := R.lt m' y' c h1' hy' hf'; omega
  ·have hf' : S c := by simpa [Env.mv] using hf'
   have hf : E.fp m c := by simpa [Env.mv, e] using hf
   rcases hS c hf' with h2 | h2
   ·exact absurd (R.apart n x m y c hn hx h1 hy h2 hf).symm e2
   ·have := R.lt m y c h1 hy hf; omega
  ·exact R.apart m y m' y' c h1 hy h1' hy' (by simpa [Env.mv, e] using hf) (by simpa [Env.mv, e'] using hf')
 ·intro m y hm
  by_cases e : m = b
  ·subst e; rw [aH] at hm; obtain rfl := Option.some.inj hm; exact hO
  ·rw [aF _ _ _ _ e] at hm
   by_cases e2 : m = n
   ·subst e2; rw [aH] at hm; obtain rfl := Option.some.inj hm; trivial
   ·rw [aF _ _ _ _ e2] at hm
    refine (R.obj m y hm).ev ev (by simp [Env.mv, e]) (by funext c; simp [Env.mv, e]) fun c hy hc => hheap c (R.lt m y c hm hy hc) fun hf => e2 (R.apart m y n x c hm hy hn hx hc hf)
theorem aCP {α : Type} {a b : List (List α)} {i j : Nat} {x : α} (h : gO (a ++ b) i j = some x) : (i < a.length ∧ gO a i j = some x) ∨ (a.length ≤ i ∧ gO b (i - a.length) j = some x) := by
 unfold gO at *
 by_cases hi : i < a.length
 ·rw [List.getElem?_append_left hi] at h; exact .inl ⟨hi, h⟩
 ·rw [List.getElem?_append_right (by omega)] at h; exact .inr ⟨by omega, h⟩
theorem aFO {α : Type} {es : List (List α)} {i len k j : Nat} {x : α} (h : gO ((es.drop i).take len) k j = some x) : k < len ∧ gO es (i + k) j = some x := by
 obtain ⟨e, h1, h2⟩ := jH h
 have hlt : k < len := by have := (List.getElem?_eq_some_iff.1 h1).1; simp at this; omega
 rw [List.getElem?_take_of_lt hlt, List.getElem?_drop] at h1
 exact ⟨hlt, by simp [gO, h1, h2]⟩
theorem aI8 {ys : List (List aD)} {i j : Nat} {x : Cell} (h : gO (ys.map (List.map Cell.v)) i j = some x) : ∃ y, gO ys i j = some y ∧ x = .v y := by
 rw [m7] at h
 obtain ⟨y, hy, rfl⟩ := Option.map_eq_some_iff.1 h
 exact ⟨y, hy, rfl⟩
theorem aN2 {E : Env} {h : aB} {w : World} {ys : List (List aD)} {sz : Nat} (hs : ∀ e ∈ ys, e.length = sz) {vs : List Value} (hL : cX E h w ys.flatten vs) (h1 : ∀ c ∈ vs, c.oneCell' = true) {i j : Nat} {y : aD} (hy : gO ys i j = some y) :
  ∃ c, vs[i * sz + j]? = some c ∧ dY E h w y c ∧ c.oneCell' = true := by
 have hlt := qW hs hy
 have hlen : vs.length = ys.length * sz := by rw [← hL.length, length_flatten ys hs]
 have hv : vs[i * sz + j]? = some (vs[i * sz + j]'(by omega)) := List.getElem?_eq_getElem (by omega)
 exact ⟨_, hv, hL.get _ _ _ (qV ys hs i j y hy) hv, h1 _ (List.getElem_mem _)⟩
theorem s9 {E E' : Env} {h h' : aB} {w w' : World} (ev : Ev E h w E' h' w') {b₀ sz i len : Nat} {es : List (List Cell)} {S : Nat → Prop} (hs : ∀ e ∈ es, e.length = sz) {cv : Nat → Nat → Value} {T : Nat → Nat → Nat → Prop}
  (hT : ∀ i j c, T i j c → S c ∧ c ≠ b₀) (hD : ∀ i j i' j' c, T i j c → T i' j' c → i = i' ∧ j = j') (hrr : ∀ i j x, gO es i j = some x → rK E h w x (cv i j) (T i j)) (hle : i + len ≤ es.length)
  {ys : List (List aD)} (hsn : ∀ e ∈ ys, e.length = sz) {news : List Value} (hLn : cX E h w ys.flatten news) (w7 : ∀ c ∈ news, c.oneCell' = true)
  {blk o : Nat} {S' : Nat → Prop} {cs : Array Value} {ct : TypeId} (hb : S' blk) (hS' : ∀ c, S c → c ≠ b₀ → S' c ∧ c ≠ blk) (hkeep : ∀ c, S c → c ≠ b₀ → w'.heap[c]? = w.heap[c]?) (hh : w'.heap[blk]? = some (.cells cs ct (0, 0))) (hm : o + (len + ys.length) * sz ≤ cs.size)
  (hold : ∀ k j x, k < len → gO es (i + k) j = some x → cs[o + k * sz + j]? = some (cv (i + k) j)) (hnew : ∀ k, k < ys.length * sz → cs[o + len * sz + k]? = news[k]?) :
  aCH E' h' w' blk o sz ((es.drop i).take len ++ ys.map (List.map .v)) S' := by
 have hlen : ((es.drop i).take len).length = len := by simp; omega
 have hnl : news.length = ys.length * sz := by rw [← hLn.length, length_flatten ys hsn]
 refine ⟨hb, ?_, cs, ct, fun k j => if k < len then cv (i + k) j else (news[(k - len) * sz + j]?).getD undef, fun k j c => k < len ∧ T (i + k) j c, hh, ?_, ?_, ?_, ?_, ?_⟩
 ·intro e he
  rcases List.mem_append.1 he with h1 | h1
  ·exact hs e (List.mem_of_mem_drop (List.mem_of_mem_take h1))
  ·obtain ⟨e', he', rfl⟩ := List.mem_map.1 h1
   simpa using hsn e' he'
 ·simpa [hlen] using hm
 ·intro k j c ⟨_, hc⟩
  obtain ⟨h1, h2⟩ := hT _ _ c hc
  exact hS' c h1 h2
 ·intro k j k' j' c ⟨_, hc⟩ ⟨_, hc'⟩
  have := hD _ _ _ _ c hc hc'
  exact ⟨by omega, this.2⟩
 ·intro k j x hx
  rcases aCP hx with ⟨h1, h2⟩ | ⟨h1, h2⟩
  ·obtain ⟨h3, h4⟩ := aFO h2
   simp only [if_pos h3]; exact hold k j x h3 h4
  ·rw [hlen] at h1 h2
   obtain ⟨y, hy, rfl⟩ := aI8 h2
   simp only [if_neg (show ¬ k < len by omega)]
   obtain ⟨c, hc, _, _⟩ := aN2 hsn hLn w7 hy
   have hlt := qW hsn hy
   have := hnew ((k - len) * sz + j) hlt
   rw [hc] at this ⊢
   rw [Option.getD_some, ← this]
   congr 1
   have : k * sz = len * sz + (k - len) * sz := by rw [← Nat.add_mul]; congr 1; omega
   omega
 ·intro k j x hx
  rcases aCP hx with ⟨h1, h2⟩ | ⟨h1, h2⟩
  ·obtain ⟨h3, h4⟩ := aFO h2
   simp only [if_pos h3]
   refine ((hrr _ _ _ h4).ev ev fun c hc => ?_).mono fun c hc => ⟨h3, hc⟩
   obtain ⟨h5, h6⟩ := hT _ _ c hc
   exact hkeep c h5 h6
  ·rw [hlen] at h1 h2
   obtain ⟨y, hy, rfl⟩ := aI8 h2
   simp only [if_neg (show ¬ k < len by omega)]
   obtain ⟨c, hc, hr, hone⟩ := aN2 hsn hLn w7 hy
   rw [hc]
   exact .v _ _ _ hone (hr.ev ev)
section
variable {P : Program} {o : Oper} {ρ : Operand → aD} {h : aB} {K : aD → aB → Prop}
theorem aE5 (x y : Operand) (ats : Array TypeId) (t et : TypeId) (r re : jS) (n sz i len : Nat) (es : List (List Cell)) (ys : List (List aD)) (ho : o.op = .call { callee := .builtin .append, args := #[x, y], argTypes := ats })
  (a0 : ats[0]? = some t) (ht : gH P t = some r) (hd : r.d = .slice et) (he : gH P et = some re) (hz : re.zero.length = re.sz) (hz0 : 0 < re.sz) (h1 : u3 P ats[1]? = true)
  (hx : ρ x = .os n sz i len) (hsz : re.sz = sz) (hn : h n = some (.row sz es)) (hle : i + len ≤ es.length) (hy : qX h sz (ρ y) = some ys) (hb : (len + ys.length) * re.bytes ≤ 140737488355328) (hmax : len + ys.length ≤ 9223372036854775807)
  (hk : ∀ b, h b = none → K (.os b sz 0 (len + ys.length)) (a5 (a5 h n .gone) b (.row sz ((es.drop i).take len ++ ys.map (List.map .v))))) : lU P o ρ h K := by
 have hml : maxLen = 9223372036854775807 := rfl
 subst hsz
 intro E w ρc R hρ
 obtain ⟨news, hsn, hlen, hfn, hLn, w7, _⟩ := aBW (P := P) R hy (hρ y)
 have hnl : news.length = ys.length * re.sz := by rw [← hLn.length, length_flatten ys hsn]
 obtain ⟨b, hbu⟩ := R.fresh
 have hK := hk b (R.none hbu)
 obtain ⟨u, hu, hud, hrun⟩ := bN (w := w) ht
 obtain rfl := fU (hud.trans hd)
 have hsize : ∀ w, (sizeOf et).run P w = .ok re.sz w := fun w => fJ he
 obtain ⟨t', ht', hu1⟩ := z3 (w := w) h1
 obtain ⟨z, hzr, hzz⟩ := mO (w := w) he (by intro e; rw [e] at hz; simp at hz; omega)
 have hzr' : ∀ w, (zeroValue et).run P w = .ok z w := by
  intro w'
  obtain ⟨z', hzr', hzz'⟩ := mO (w := w') he (by intro e; rw [e] at hz; simp at hz; omega)
  have : z' = z := by
   obtain ⟨i, u, hi, _⟩ := oN he
   simp only [zeroValue, typeInfo, Sem.run_bind, run_program, Result.andThen_ok, hi, Sem.run_pure] at hzr hzr'
   cases hiz : i.zero with
   |none => simp [hiz] at hzr
   |some z0 => simp [hiz] at hzr hzr'; rw [← hzr, ← hzr']
  rw [← this]; exact hzr'
 have hzs : z.cells.size = re.sz := by have := congrArg List.length hzz; simp [hz] at this; exact this
 have hr := hρ x
 rw [hx] at hr
 cases hv : ρc x <;> rw [hv] at hr <;> try (cases hr; done)
 cases hr with
 |os0 _ _ hd0 hl0 =>
  have hes : es = [] := by
   rcases R.obj n _ hn with ⟨b0, o0, h0, _⟩ | ⟨h0, _⟩
   ·rw [hl0] at h0; simp at h0
   ·exact h0
  subst hes
  by_cases hys : ys = []
  ·subst hys
   have hnn : news = [] := List.length_eq_zero_iff.1 (by simpa using hnl)
   have hrunA : (execOp ρc o).run P w = .ok (.value (.slice none 0 0)) w := by
    rw [mQ x y ats ho, hv]
    have c7 := hfn w rfl
    have hl0 := hlen w
    simp only [List.length_nil] at c7 hl0
    rcases hu1 with ⟨e, hu1⟩ | hu1 <;> simp [Builtin.append_, a0, ht', hrun, hsize, hu1, hl0, c7, storeCells]
   have evm := Ev.mv R hn trivial hbu none (fun _ => False) (.row re.sz []) (fun _ hf => hf.elim) (Nat.le_refl _) (fun _ _ _ => rfl) (fun _ _ => rfl) rfl rfl
   have Rm := Rel.mv R hn trivial hbu none (fun _ => False) (.row re.sz []) (fun _ hf => hf.elim) (fun _ hf => hf.elim) (Nat.le_refl _) (fun _ _ _ => rfl) (fun _ _ => rfl) rfl rfl (.inr ⟨rfl, by simp [Env.mv]⟩)
   refine .hH hrunA ⟨_, _, E.mv b none (fun _ => False), hK, ?_, ?_, ?_⟩
   ·exact evm
   ·exact Rm
   ·exact .os0 b re.sz (.inl rfl) (by simp [Env.mv])
  ·have hpos : 0 < ys.length := List.length_pos_iff.2 hys
   obtain ⟨ncap, d, g1, g2, grun⟩ := u4 (w := w) (t1 := ats[1]?) ht hd he h1 ats a0 rfl o.type (base := none) (sLen := 0) (sCap := 0) (n := ys.length) (v := ρc y) (olds := []) (news := news) (z := z) hzr' hlen
    (fun w' _ => by simp [Builtin.firstCells]) hfn (by omega) (by simpa using hb) (by omega)
   have hrunA : (execOp ρc o).run P w = .ok (.value (.slice (some ⟨w.heap.size, 0, none⟩) (0 + ys.length) ncap)) (p0 w (.cells (([] ++ news).toArray ++ Builtin.zeroCells z.cells (ncap - (0 + ys.length))) et) d) := by
    rw [mQ x y ats ho, hv, grun]; rfl
   have hcs : (([] ++ news).toArray ++ Builtin.zeroCells z.cells (ncap - (0 + ys.length))).size = ncap * re.sz := by
    rw [Array.size_append, w6, hzs, List.size_toArray, List.length_append, hnl, List.length_nil, Nat.zero_add, ← Nat.add_mul]; congr 1; omega
   have evm := Ev.mv (w' := p0 w (.cells (([] ++ news).toArray ++ Builtin.zeroCells z.cells (ncap - (0 + ys.length))) et) d) R hn trivial hbu (some (w.heap.size, 0)) (fun c => c = w.heap.size) (.row re.sz ((([] : List (List Cell)).drop 0).take 0 ++ ys.map (List.map .v))) (fun c hc => .inr (by omega)) (by rw [jJ]; omega)
    (fun c hc _ => k9 _ _ _ c hc) (fun c hc => by simp only [World.shape?, k9 _ _ _ c hc]) rfl rfl
   have Rm := Rel.mv (w' := p0 w (.cells (([] ++ news).toArray ++ Builtin.zeroCells z.cells (ncap - (0 + ys.length))) et) d) R hn trivial hbu (some (w.heap.size, 0)) (fun c => c = w.heap.size) (.row re.sz ((([] : List (List Cell)).drop 0).take 0 ++ ys.map (List.map .v))) (fun c hc => .inr (by omega)) (fun c hc => by rw [jJ]; omega) (by rw [jJ]; omega)
    (fun c hc _ => k9 _ _ _ c hc) (fun c hc => by simp only [World.shape?, k9 _ _ _ c hc]) rfl rfl
    (.inl ⟨w.heap.size, 0, by simp [Env.mv], by
     have hfp : (E.mv b (some (w.heap.size, 0)) (fun c => c = w.heap.size)).fp b = (fun c => c = w.heap.size) := by funext c; simp [Env.mv]
     rw [hfp]
     exact s9 evm (b₀ := w.heap.size) (i := 0) (len := 0) (es := []) (S := fun _ => False) (cv := fun _ _ => undef) (T := fun _ _ _ => False) (by simp) (fun _ _ _ hf => hf.elim) (fun _ _ _ _ _ hf => hf.elim) (fun i j x hx => by simp [gO] at hx) (by simp) hsn hLn w7 rfl (fun _ hf => hf.elim) (fun _ hf => hf.elim) (qU _ _ _)
      (by rw [hcs]; simp only [Nat.zero_add]; exact Nat.mul_le_mul_right _ (by omega)) (fun k j x hk => by omega) (fun k hk => by
       simp only [Nat.zero_add, Nat.zero_mul]
       rw [Array.getElem?_append_left (by simp; omega)]; simp)⟩)
   refine .hH hrunA ⟨_, _, _, hK, evm, Rm, ?_⟩
   have := dY.os (E := E.mv b (some (w.heap.size, 0)) (fun c => c = w.heap.size)) (h := a5 (a5 h n .gone) b (.row re.sz ((([] : List (List Cell)).drop 0).take 0 ++ ys.map (List.map .v)))) (w := p0 w (.cells (([] ++ news).toArray ++ Builtin.zeroCells z.cells (ncap - (0 + ys.length))) et) d)
    b re.sz 0 (0 + ys.length) w.heap.size 0 ncap et (ncap * re.sz) (.inl rfl) (by simp [Env.mv]) (by omega) g2 (by simp only [World.shape?, qU, hcs]) (by simp)
   simpa using this
 |os _ _ _ _ b₀ o₀ cap' tt mm hd0 hl0 hlc hcm hsh hmm =>
  rename_i cap
  obtain ⟨b1, o1, hl1, hbS, hs, cur, ct, cv, T, hh, hmr, hT, hD, hc, hrr⟩ := uZ R hn (.inr ⟨_, hl0⟩)
  rw [hl0] at hl1
  obtain ⟨rfl, rfl⟩ := Prod.mk.inj (Option.some.inj hl1)
  have hcsz : cur.size = mm := by rw [kX hh] at hsh; exact (Prod.mk.inj (Option.some.inj hsh)).2
  have hb0 : b₀ < w.heap.size := aCJ hsh
  have hfplt : ∀ c, E.fp n c → c < w.heap.size := fun c hc => R.lt n _ c hn trivial hc
  have hrow : ∀ k j, k < len → j < re.sz → ∃ y, gO es (i + k) j = some y := fun k j hk hj => by
   have hlt : i + k < es.length := by omega
   have hel := hs es[i + k] (List.getElem_mem hlt)
   exact ⟨es[i + k][j], by simp [gO, List.getElem?_eq_getElem hlt, List.getElem?_eq_getElem (show j < es[i + k].length by omega)]⟩
  by_cases hroom : len + ys.length ≤ cap
  ·
   have hbase : (⟨b₀, o₀ + i * re.sz, none⟩ : Addr).add (len * re.sz) = ⟨b₀, o₀ + i * re.sz + len * re.sz, none⟩ := j7 _ _ _
   have hspace : o₀ + i * re.sz + len * re.sz + news.length ≤ cur.size := by
    have : o₀ + (i + (len + ys.length)) * re.sz ≤ o₀ + (i + cap) * re.sz := by
     have := Nat.mul_le_mul_right re.sz (show i + (len + ys.length) ≤ i + cap by omega)
     omega
    rw [hnl]; simp only [Nat.add_mul] at *; omega
   have hst := run_storeCells_at P b₀ (o₀ + i * re.sz + len * re.sz) ct news 0 cur w hh (by simpa using hspace) w7
   simp only [Nat.add_zero] at hst
   generalize hcs' : (cur.toList.take (o₀ + i * re.sz + len * re.sz) ++ news ++ cur.toList.drop (o₀ + i * re.sz + len * re.sz + news.length)).toArray = cs' at hst
   have hcs'sz : cs'.size = cur.size := by rw [← hcs']; simp; omega
   have hrunA : (execOp ρc o).run P w = .ok (.value (.slice (some ⟨b₀, o₀ + i * re.sz, none⟩) (len + ys.length) cap)) (w.setRow b₀ cs') := by
    rw [mQ x y ats ho, hv]
    have c7 := hfn w rfl
    rcases hu1 with ⟨e, hu1⟩ | hu1 <;> simp [Builtin.append_, a0, ht', hrun, hsize, hu1, hlen, c7, hroom, hbase, hst]
   have hheap' : (w.setRow b₀ cs').heap[b₀]? = some (.cells cs' ct (0, 0)) := setRow_heap w b₀ cur cs' ct (0, 0) hh
   have hoth : ∀ c, c ≠ b₀ → (w.setRow b₀ cs').heap[c]? = w.heap[c]? := fun c hc => setRow_other w b₀ c cs' hc
   have hshape : ∀ c, c < w.heap.size → (w.setRow b₀ cs').shape? c = w.shape? c := fun c _ => by
    by_cases e : c = b₀
    ·subst e; rw [kX hheap', kX hh, hcs'sz]
    ·simp only [World.shape?, hoth c e]
   have hkp : ∀ c, c < w.heap.size → ¬ E.fp n c → (w.setRow b₀ cs').heap[c]? = w.heap[c]? := fun c _ hf => hoth c fun e => hf (e ▸ hbS)
   have evm := Ev.mv (w' := w.setRow b₀ cs') R hn trivial hbu (some (b₀, o₀ + i * re.sz)) (E.fp n) (.row re.sz ((es.drop i).take len ++ ys.map (List.map .v))) (fun c hc => .inl hc) (by simp) hkp hshape rfl rfl
   have hfp : (E.mv b (some (b₀, o₀ + i * re.sz)) (E.fp n)).fp b = E.fp n := by funext c; simp [Env.mv]
   have Rm := Rel.mv (w' := w.setRow b₀ cs') R hn trivial hbu (some (b₀, o₀ + i * re.sz)) (E.fp n) (.row re.sz ((es.drop i).take len ++ ys.map (List.map .v))) (fun c hc => .inl hc) (fun c hc => by rw [setRow_size]; exact hfplt c hc) (by simp) hkp hshape rfl rfl
    (.inl ⟨b₀, o₀ + i * re.sz, by simp [Env.mv], by
     rw [hfp]
     refine s9 evm (b₀ := b₀) hs hT hD hrr hle hsn hLn w7 hbS (fun c hc hne => ⟨hc, hne⟩) (fun c _ hne => hoth c hne) hheap' ?_ ?_ ?_
     ·rw [hcs'sz]; rw [hnl] at hspace; simp only [Nat.add_mul] at *; omega
     ·intro k j x hk hx
      have hj := aBU hs hx
      have hin := wY hk hj
      rw [← hcs']
      simp only [List.getElem?_toArray]
      rw [List.append_assoc, List.getElem?_append_left (by simp; omega), List.getElem?_take_of_lt (by omega), Array.getElem?_toList]
      rw [← hc _ _ _ hx]; congr 1; simp only [Nat.add_mul]; omega
     ·intro k hk
      rw [← hcs']
      simp only [List.getElem?_toArray]
      have hl1 : (cur.toList.take (o₀ + i * re.sz + len * re.sz)).length = o₀ + i * re.sz + len * re.sz := by simp; omega
      rw [List.append_assoc, List.getElem?_append_right (by rw [hl1]; omega), hl1, List.getElem?_append_left (by omega)]
      congr 1; omega⟩)
   refine .hH hrunA ⟨_, _, _, hK, evm, Rm, ?_⟩
   have := dY.os (E := E.mv b (some (b₀, o₀ + i * re.sz)) (E.fp n)) (h := a5 (a5 h n .gone) b (.row re.sz ((es.drop i).take len ++ ys.map (List.map .v)))) (w := w.setRow b₀ cs')
    b re.sz 0 (len + ys.length) b₀ (o₀ + i * re.sz) cap ct cur.size (.inl rfl) (by simp [Env.mv]) hroom hcm (by rw [kX hheap', hcs'sz]) (by rw [hcsz]; simp only [Nat.add_mul] at *; omega)
   simpa using this
  ·
   have holds : ∀ k, k < len * re.sz → ∃ y, gO es (i + k / re.sz) (k % re.sz) = some y := fun k hk => by
    have h1 : k / re.sz < len := by rw [Nat.div_lt_iff_lt_mul hz0]; exact hk
    exact hrow _ _ h1 (Nat.mod_lt _ hz0)
   generalize hod : (List.range (len * re.sz)).map (fun k => cv (i + k / re.sz) (k % re.sz)) = olds
   have hol : olds.length = len * re.sz := by rw [← hod]; simp
   have hog : ∀ k, k < len * re.sz → olds[k]? = some (cv (i + k / re.sz) (k % re.sz)) := fun k hk => by rw [← hod, List.getElem?_map, List.getElem?_range hk]; rfl
   obtain ⟨ncap, d, g1, g2, grun⟩ := u4 (w := w) (t1 := ats[1]?) ht hd he h1 ats a0 rfl o.type (base := some ⟨b₀, o₀ + i * re.sz, none⟩) (sLen := len) (sCap := cap) (n := ys.length) (v := ρc y) (olds := olds) (news := news) (z := z) hzr' hlen
    (fun w' hw' => run_firstCells_some w' _ _ _ _ _ olds hol fun k v hv => by
     have hk : k < len * re.sz := by have := (List.getElem?_eq_some_iff.1 hv).1; omega
     rw [hog k hk] at hv
     obtain rfl := Option.some.inj hv
     obtain ⟨y, hy⟩ := holds k hk
     rw [w5 hw', j7]
     simp only [World.cell?, hh, Option.isSome_none, Bool.false_eq_true, if_false]
     rw [← hc _ _ _ hy]; congr 1
     have := Nat.div_add_mod k re.sz
     rw [Nat.mul_comm] at this
     simp only [Nat.add_mul]; omega) hfn (by omega) hb (by omega)
   generalize hcs' : (olds ++ news).toArray ++ Builtin.zeroCells z.cells (ncap - (len + ys.length)) = cs' at grun
   have hcs'sz : cs'.size = ncap * re.sz := by
    rw [← hcs', Array.size_append, w6, hzs, List.size_toArray, List.length_append, hnl, hol, ← Nat.add_mul, ← Nat.add_mul]; congr 1; omega
   have hrunA : (execOp ρc o).run P w = .ok (.value (.slice (some ⟨w.heap.size, 0, none⟩) (len + ys.length) ncap)) (p0 w (.cells cs' et) d) := by
    rw [mQ x y ats ho, hv, grun]; rfl
   have evm := Ev.mv (w' := p0 w (.cells cs' et) d) R hn trivial hbu (some (w.heap.size, 0)) (fun c => c = w.heap.size ∨ (E.fp n c ∧ c ≠ b₀)) (.row re.sz ((es.drop i).take len ++ ys.map (List.map .v)))
    (fun c hc => by rcases hc with h | h; exact .inr (by omega); exact .inl h.1) (by rw [jJ]; omega) (fun c hc _ => k9 _ _ _ c hc) (fun c hc => by simp only [World.shape?, k9 _ _ _ c hc]) rfl rfl
   have hfp : (E.mv b (some (w.heap.size, 0)) (fun c => c = w.heap.size ∨ (E.fp n c ∧ c ≠ b₀))).fp b = (fun c => c = w.heap.size ∨ (E.fp n c ∧ c ≠ b₀)) := by funext c; simp [Env.mv]
   have Rm := Rel.mv (w' := p0 w (.cells cs' et) d) R hn trivial hbu (some (w.heap.size, 0)) (fun c => c = w.heap.size ∨ (E.fp n c ∧ c ≠ b₀)) (.row re.sz ((es.drop i).take len ++ ys.map (List.map .v)))
    (fun c hc => by rcases hc with h | h; exact .inr (by omega); exact .inl h.1) (fun c hc => by rw [jJ]; rcases hc with h | h; omega; have := hfplt c h.1; omega) (by rw [jJ]; omega) (fun c hc _ => k9 _ _ _ c hc) (fun c hc => by simp only [World.shape?, k9 _ _ _ c hc]) rfl rfl
    (.inl ⟨w.heap.size, 0, by simp [Env.mv], by
     rw [hfp]
     refine s9 evm (b₀ := b₀) hs hT hD hrr hle hsn hLn w7 (.inl rfl) (fun c hc hne => ⟨.inr ⟨hc, hne⟩, by have := hfplt c hc; omega⟩) (fun c hc _ => k9 _ _ _ c (hfplt c hc)) (qU _ _ _) ?_ ?_ ?_
     ·rw [hcs'sz, Nat.zero_add]; exact Nat.mul_le_mul_right _ g1
     ·intro k j x hk hx
      have hj := aBU hs hx
      have hin := wY hk hj
      rw [← hcs', Array.getElem?_append_left (by simp; omega)]
      simp only [List.getElem?_toArray, Nat.zero_add]
      rw [List.getElem?_append_left (by omega), hog _ hin]
      congr 2
      ·rw [Nat.mul_comm, Nat.mul_add_div hz0, Nat.div_eq_of_lt hj]; rfl
      ·rw [Nat.mul_comm, Nat.mul_add_mod, Nat.mod_eq_of_lt hj]
     ·intro k hk
      rw [← hcs', Array.getElem?_append_left (by simp; omega)]
      simp only [List.getElem?_toArray, Nat.zero_add]
      rw [List.getElem?_append_right (by omega), hol]
      congr 1; omega⟩)
   refine .hH hrunA ⟨_, _, _, hK, evm, Rm, ?_⟩
   have := dY.os (E := E.mv b (some (w.heap.size, 0)) (fun c => c = w.heap.size ∨ (E.fp n c ∧ c ≠ b₀))) (h := a5 (a5 h n .gone) b (.row re.sz ((es.drop i).take len ++ ys.map (List.map .v)))) (w := p0 w (.cells cs' et) d)
    b re.sz 0 (len + ys.length) w.heap.size 0 ncap et (ncap * re.sz) (.inl rfl) (by simp [Env.mv]) g1 g2 (by simp only [World.shape?, qU, hcs'sz]) (by simp)
   simpa using this
end
end Go.Hl

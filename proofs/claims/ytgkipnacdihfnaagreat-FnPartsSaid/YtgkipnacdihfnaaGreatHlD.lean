/-
  Contracts of functions and laws of the layer over the walk.
-/
import Derived.Test.YtgkipnacdihfnaaGreatHlC
namespace Go.Hl
set_option linter.unusedVariables false
set_option linter.unusedSimpArgs false
inductive OV where
 |v (x : aD)
 |nil (sz : Nat)
 |sl (n sz : Nat) (es : List (List OV))
def OV.val : OV → aD
 | .v x => x
 | .nil sz => .sl sz [] true
 | .sl n sz es => .os n sz 0 es.length
mutual
def OV.qW : OV → aD
 | .v x => x
 | .nil sz => .sl sz [] false
 | .sl n sz es => .sl sz (OV.k7 es) false
def OV.k7 : List (List OV) → List (List aD)
 | [] => []
 |e :: es => OV.aKS e :: OV.k7 es
def OV.aKS : List OV → List aD
 | [] => []
 |x :: e => x.qW :: OV.aKS e
end
theorem OV.wY : ∀ (e : List OV), OV.aKS e = e.map OV.qW
 | [] => rfl
 |x :: e => by rw [OV.aKS, OV.wY e]; rfl
theorem OV.nL : ∀ (es : List (List OV)), OV.k7 es = es.map (List.map OV.qW)
 | [] => rfl
 |e :: es => by rw [OV.k7, OV.nL es, OV.wY]; rfl
def OV.cells (es : List (List OV)) : List (List Cell) := es.map (List.map fun c => Cell.v c.val)
mutual
def OV.rows : OV → List (Nat × bP)
 | .v _ => []
 | .nil _ => []
 | .sl n sz es => (n, .row sz (OV.cells es)) :: OV.b6 es
def OV.b6 : List (List OV) → List (Nat × bP)
 | [] => []
 |e :: es => OV.bT e ++ OV.b6 es
def OV.bT : List OV → List (Nat × bP)
 | [] => []
 |x :: e => x.rows ++ OV.bT e
end
theorem OV.aAL : ∀ {es : List (List OV)} {e : List OV} {p : Nat × bP}, e ∈ es → p ∈ OV.bT e → p ∈ OV.b6 es
 |y :: es, e, p, he, hp => by
  rw [OV.b6]
  rcases List.mem_cons.1 he with rfl | he
  ·exact List.mem_append_left _ hp
  ·exact List.mem_append_right _ (OV.aAL he hp)
def qN (h : aB) (l : List (Nat × bP)) : Prop := ∀ p ∈ l, h p.1 = some p.2
def k8 (h : aB) (S : List Nat) : aB := fun m => if m ∈ S then (h m).map fun _ => .gone else h m
theorem s5 {h : aB} {S : List Nat} {m : Nat} {o : bP} (hm : m ∈ S) (ho : k8 h S m = some o) : o = .gone := by
 simp only [k8, if_pos hm, Option.map_eq_some_iff] at ho
 obtain ⟨_, _, rfl⟩ := ho; rfl
theorem mR {h : aB} {S : List Nat} {m : Nat} (hm : m ∉ S) : k8 h S m = h m := by simp only [k8, if_neg hm]
theorem qX {E : Env} {h : aB} {w : World} (S : List Nat) (b : Nat) (i : o7 E h w b) : o7 E (k8 h S) w b :=
 ⟨i.1, fun m o hm ho => by
  by_cases e : m ∈ S
  ·rw [s5 e hm] at ho; exact ho.elim
  ·rw [mR e] at hm; exact i.2 m o hm ho⟩
theorem aKT {E : Env} {h : aB} {w : World} (R : Rel E h w) {S : List Nat} {n : Nat} (hS : n ∈ S) {x : bP} (hn : h n = some x) (hx : x.live) (b : Nat) (hb : E.fp n b) : o7 E (k8 h S) w b :=
 ⟨R.lt n x b hn hx hb, fun m o hm ho hf => by
  by_cases e : m ∈ S
  ·rw [s5 e hm] at ho; exact ho.elim
  ·rw [mR e] at hm
   have := R.apart m o n x b hm ho hn hx hf hb
   exact e (this ▸ hS)⟩
theorem Rel.k8 {E : Env} {h : aB} {w : World} (R : Rel E h w) (S : List Nat) : Rel E (k8 h S) w := by
 refine ⟨R.fin, fun m hm => ?_, ?_, ?_, ?_, R.laid.qR (qX S)⟩
 ·by_cases e : m ∈ S
  ·refine R.dom m fun q => hm ?_
   simp only [Hl.k8, if_pos e, q, Option.map_none]
  ·rw [mR e] at hm; exact R.dom m hm
 ·intro m o b hm ho
  by_cases e : m ∈ S
  ·rw [s5 e hm] at ho; exact ho.elim
  ·rw [mR e] at hm; exact R.lt m o b hm ho
 ·intro m o m' o' b hm ho hm' ho'
  by_cases e : m ∈ S
  ·rw [s5 e hm] at ho; exact ho.elim
  ·by_cases e' : m' ∈ S
   ·rw [s5 e' hm'] at ho'; exact ho'.elim
   ·rw [mR e] at hm; rw [mR e'] at hm'; exact R.apart m o m' o' b hm ho hm' ho'
 ·intro m o hm
  by_cases e : m ∈ S
  ·rw [s5 e hm]; trivial
  ·rw [mR e] at hm; exact (R.obj m o hm).qR fun b => qX S b
theorem Ev.k8 {E : Env} {h : aB} {w : World} (S : List Nat) : Ev E h w E (k8 h S) w :=
 ⟨Nat.le_refl _, fun b hb => ⟨rfl, qX S b hb⟩, fun _ _ => rfl, fun _ hn => ⟨rfl, hn⟩, rfl, rfl⟩
mutual
theorem fD.aET {E : Env} {h : aB} {w : World} (R : Rel E h w) {S : List Nat} : ∀ (x : OV), qN h x.rows → (∀ p ∈ x.rows, p.1 ∈ S) → ∀ v, fD E h w x.val v → fD E (Hl.k8 h S) w x.qW v
 | .v x, _, _, v, r => fD.qR (fun b => qX S b) r
 | .nil sz, _, _, v, r => Sub.loose sz [] true _ _ _ _ (fD.qR (fun b => qX S b) (show fD E h w (.sl sz [] true) v from r))
 | .sl n sz es, ho, hS, v, r => by
  have hn : h n = some (.row sz (OV.cells es)) := ho (n, _) (by rw [OV.rows]; exact List.mem_cons_self)
  have hnS : n ∈ S := hS (n, _) (by rw [OV.rows]; exact List.mem_cons_self)
  simp only [OV.val] at r
  simp only [OV.qW]
  have hcells : ∀ i j y, iZ (OV.cells es) i j = some y → ∃ c, iZ es i j = some c ∧ y = .v c.val := by
   intro i j y hy
   rw [OV.cells, p0] at hy
   obtain ⟨c, hc, rfl⟩ := Option.map_eq_some_iff.1 hy
   exact ⟨c, hc, rfl⟩
  have hdat : ∀ i j y, iZ (OV.k7 es) i j = some y → ∃ c, iZ es i j = some c ∧ y = c.qW := by
   intro i j y hy
   rw [OV.nL, p0] at hy
   obtain ⟨c, hc, rfl⟩ := Option.map_eq_some_iff.1 hy
   exact ⟨c, hc, rfl⟩
  have hlen : (OV.k7 es).length = es.length := by rw [OV.nL, List.length_map]
  have key : ∀ L, L = es.length → fD E h w (.os n sz 0 L) v → fD E (Hl.k8 h S) w (.sl sz (OV.k7 es) false) v := by
   intro L hL r
   cases r with
   |os0 _ _ hd hl =>
    have : es = [] := List.eq_nil_of_length_eq_zero hL.symm
    subst this
    exact .sl0 sz false none 0 (fun _ => rfl) (by simp [maxLen]) trivial
   |os _ _ _ _ b o cap t m hd hl hlc hmax hsh hm =>
    obtain ⟨b', o', hl', hbS, hs, cs, ct, cv, T, hh, hm', hT, hD, hc, hrr⟩ := yI R hn (.inr ⟨_, hl⟩)
    rw [hl] at hl'
    obtain ⟨rfl, rfl⟩ := Prod.mk.inj (Option.some.inj hl')
    have himm : ∀ c, E.fp n c → o7 E (Hl.k8 h S) w c := fun c hc => aKT R hnS hn trivial c hc
    have hcs : ∀ i j y, iZ (OV.k7 es) i j = some y → ∃ c, iZ es i j = some c ∧ y = c.qW ∧ cs[o + i * sz + j]? = some (cv i j) ∧ (cv i j).oneCell' = true ∧ fD E h w c.val (cv i j) := by
     intro i j y hy
     obtain ⟨c, hc1, rfl⟩ := hdat i j y hy
     have hcell : iZ (OV.cells es) i j = some (.v c.val) := by rw [OV.cells, p0, hc1]; rfl
     have h2 := hrr i j _ hcell
     cases h2 with
     |v x c' S' h1 hx => exact ⟨c, hc1, rfl, hc i j _ hcell, h1, hx⟩
    have := fD.sl (E := E) (h := Hl.k8 h S) (w := w) sz (OV.k7 es) false b (o + 0 * sz) cap cv (himm b hbS) (by rw [hlen, ← hL]; exact hlc) hmax (fun e => by simp at e)
     (fun e he => by
      rw [OV.nL, List.mem_map] at he
      obtain ⟨e', he', rfl⟩ := he
      have := hs (e'.map fun c => Cell.v c.val) (List.mem_map.2 ⟨e', he', rfl⟩)
      simpa using this)
     (fun i j y hy => by
      obtain ⟨c, _, _, h1, _, _⟩ := hcs i j y hy
      simp only [World.cell?, hh]
      rw [← h1]
      simp)
     (fun i j y hy => by obtain ⟨c, _, _, _, h1, _⟩ := hcs i j y hy; exact h1)
     (fun i j y hy => by
      obtain ⟨c, hc1, rfl, _, _, h1⟩ := hcs i j y hy
      obtain ⟨e, he, hj⟩ := kX hc1
      exact aDT R es (fun p hp => ho p (by rw [OV.rows]; exact List.mem_cons_of_mem _ hp)) (fun p hp => hS p (by rw [OV.rows]; exact List.mem_cons_of_mem _ hp)) e (List.mem_of_getElem? he) c (List.mem_of_getElem? hj) _ h1)
    rw [hlen, ← hL] at this
    exact this
  exact key _ rfl r
theorem aDT {E : Env} {h : aB} {w : World} (R : Rel E h w) {S : List Nat} : ∀ (es : List (List OV)), qN h (OV.b6 es) → (∀ p ∈ OV.b6 es, p.1 ∈ S) → ∀ e ∈ es, ∀ c ∈ e, ∀ v, fD E h w c.val v → fD E (Hl.k8 h S) w c.qW v
 | [], _, _, e, he, _, _, _, _ => by simp at he
 |a :: es, ho, hS, e, he, c, hc, v, r => by
  rcases List.mem_cons.1 he with h1 | h1
  ·rw [h1] at hc
   exact aOH R a (fun p hp => ho p (by rw [OV.b6]; exact List.mem_append_left _ hp)) (fun p hp => hS p (by rw [OV.b6]; exact List.mem_append_left _ hp)) c hc v r
  ·exact aDT R es (fun p hp => ho p (by rw [OV.b6]; exact List.mem_append_right _ hp)) (fun p hp => hS p (by rw [OV.b6]; exact List.mem_append_right _ hp)) e h1 c hc v r
theorem aOH {E : Env} {h : aB} {w : World} (R : Rel E h w) {S : List Nat} : ∀ (e : List OV), qN h (OV.bT e) → (∀ p ∈ OV.bT e, p.1 ∈ S) → ∀ c ∈ e, ∀ v, fD E h w c.val v → fD E (Hl.k8 h S) w c.qW v
 | [], _, _, c, hc, _, _ => by simp at hc
 |a :: e, ho, hS, c, hc, v, r => by
  rcases List.mem_cons.1 hc with h1 | h1
  ·rw [h1] at r ⊢
   exact fD.aET R a (fun p hp => ho p (by rw [OV.bT]; exact List.mem_append_left _ hp)) (fun p hp => hS p (by rw [OV.bT]; exact List.mem_append_left _ hp)) v r
  ·exact aOH R e (fun p hp => ho p (by rw [OV.bT]; exact List.mem_append_right _ hp)) (fun p hp => hS p (by rw [OV.bT]; exact List.mem_append_right _ hp)) c h1 v r
end
mutual
def aD.gP : aD → Bool
 | .any | .bool _ | .int _ _ | .str _ | .jV | .bH | .sG | .lT | .oS => true
 | .os _ _ _ _ | .op _ _ _ _ | .mp _ => true
 | .sl _ es _ => es.isEmpty
 | .agg cs => aD.aDU cs
 | .iI cs => aD.aDU cs
 | _ => false
def aD.aDU : List aD → Bool
 | [] => true
 |x :: xs => x.gP && aD.aDU xs
end
theorem aD.aAY : ∀ {l : List aD}, aD.aDU l = true → ∀ (i : Nat) x, l[i]? = some x → x.gP = true
 |y :: l, h, 0, x, hx => by simp only [aD.aDU, Bool.and_eq_true] at h; simp at hx; subst hx; exact h.1
 |y :: l, h, i + 1, x, hx => by simp only [aD.aDU, Bool.and_eq_true] at h; exact aD.aAY h.2 i x (by simpa using hx)
 | [], _, i, x, hx => by simp at hx
def Cell.gP : Cell → Bool
 | .v x => x.gP
 | .own _ _ => false
def bP.gP : bP → Bool
 | .row _ es => es.all fun e => e.all Cell.gP
 | .map _ _ _ => false
 | .raw _ _ => true
 | .abs _ => true
 | .gone => true
theorem fD.gP {E E' : Env} {h h' : aB} {w w' : World} (hl : ∀ n, E.used n → E'.loc n = E.loc n ∧ E'.used n) (hs : ∀ b, b < w.heap.size → w'.shape? b = w.shape? b) {x : aD} {v : Value} (r : fD E h w x v) (hx : x.gP = true) : fD E' h' w' x v := by
 induction r with
 |any v => exact .any v
 |bool b => exact .bool b
 |int k n => exact .int k n
 |str s hl => exact .str s hl
 |jV => exact .jV
 |bH => exact .bH
 |sG => exact .sG
 |lT => exact .lT
 |oS => exact .oS
 |sl0 sz t a cap ht hmax ha => exact .sl0 sz t a cap ht hmax ha
 |sl sz es t b o cap cv hi hcap hmax ht hs' hc h1 hr ih =>
  simp only [aD.gP, List.isEmpty_iff] at hx
  subst hx
  exact .sl0 sz t _ cap (fun e => by have := ht e; simpa using this) hmax trivial
 |ip sz es i off b o cv hi hs' hc h1 hr ih => simp [aD.gP] at hx
 |os n sz i len b o cap t m hd hl' hlc hmax hsh hm => exact .os n sz i len b o cap t m (hl n hd).2 ((hl n hd).1.trans hl') hlc hmax ((hs b (aF9 hsh)).trans hsh) hm
 |os0 n sz hd hl' => exact .os0 n sz (hl n hd).2 ((hl n hd).1.trans hl')
 |op n sz i off b o hd hl' => exact .op n sz i off b o (hl n hd).2 ((hl n hd).1.trans hl')
 |agg cs vs hle hr ih => exact .agg cs vs hle fun i x v a b => ih i x v a b (aD.aAY (by simpa only [aD.gP] using hx) i x a)
 |iI cs vs hle hr ih => exact .iI cs vs hle fun i x v a b => ih i x v a b (aD.aAY (by simpa only [aD.gP] using hx) i x a)
 |fn f cs ds vs us hle hr hle' hr' ih ih' => simp [aD.gP] at hx
 |iface t x v hr ih => simp [aD.gP] at hx
 |mp n b o hd hl' => exact .mp n b o (hl n hd).2 ((hl n hd).1.trans hl')
theorem aBH.gP {E E' : Env} {h h' : aB} {w w' : World} (hl : ∀ n, E.used n → E'.loc n = E.loc n ∧ E'.used n) (hs : ∀ b, b < w.heap.size → w'.shape? b = w.shape? b) {n : Nat} {o : bP} (hn : E'.loc n = E.loc n) (hfp : E'.fp n = E.fp n)
  (hm : ∀ b, E.fp n b → w'.heap[b]? = w.heap[b]?) (ho : o.gP = true) (r : aBH E h w n o) : aBH E' h' w' n o := by
 cases o with
 |gone => trivial
 |raw t cs => obtain ⟨b, hb, hf, hr⟩ := r; exact ⟨b, hn.trans hb, by rw [hfp]; exact hf, (hm b hf).trans hr⟩
 |abs Q => obtain ⟨b, hb, hf, w0, hq, ha⟩ := r; exact ⟨b, hn.trans hb, by rw [hfp]; exact hf, w0, by rw [hfp]; exact hq, fun c hc => by rw [hfp] at hc; exact (hm c hc).trans (ha c hc)⟩
 |map _ _ _ => simp [bP.gP] at ho
 |row sz es =>
  rcases r with ⟨b, o', h1, h2⟩ | ⟨h1, h2⟩
  ·refine .inl ⟨b, o', hn.trans h1, ?_⟩
   obtain ⟨hb, hsz, cs, t, cv, T, hh, hle, hT, hD, hc, hr⟩ := h2
   rw [hfp]
   refine ⟨hb, hsz, cs, t, cv, T, (hm b hb).trans hh, hle, hT, hD, hc, fun i j x hx => ?_⟩
   have hsx : x.gP = true := by
    obtain ⟨e, he, hj⟩ := kX hx
    have h3 := List.all_eq_true.1 ho e (List.mem_of_getElem? he)
    exact List.all_eq_true.1 h3 x (List.mem_of_getElem? hj)
   have hx' := hr i j x hx
   cases x with
   |own _ _ => simp [Cell.gP] at hsx
   |v y =>
    generalize cv i j = cc at hx'
    cases hx' with
    |v _ _ _ h1' hy => exact .v y _ _ h1' (hy.gP hl hs hsx)
  ·exact .inr ⟨h1, hn.trans h2⟩
def OR {α : Type} (R : α → List OV → Prop) : List α → List (List OV) → Prop
 | [], [] => True
 |x :: l, e :: es => R x e ∧ OR R l es
 | _, _ => False
def OS {α : Type} (R : α → List OV → Prop) (sz : Nat) (l : List α) (y : OV) : Prop := (y = .nil sz ∧ l = []) ∨ ∃ n es, y = .sl n sz es ∧ OR R l es
def oP {α : Type} (c : α → aD) (x : α) (e : List OV) : Prop := e = [.v (c x)]
theorem OR.length {α : Type} {R : α → List OV → Prop} : ∀ {l : List α} {es : List (List OV)}, OR R l es → l.length = es.length
 | [], [], _ => rfl
 |x :: l, e :: es, h => by simpa using OR.length h.2
 | [], _ :: _, h => h.elim
 | _ :: _, [], h => h.elim
theorem OR.get {α : Type} {R : α → List OV → Prop} : ∀ {l : List α} {es : List (List OV)}, OR R l es → ∀ (i : Nat) x e, l[i]? = some x → es[i]? = some e → R x e
 |x :: l, e :: es, h, 0, y, d, hy, hd => by simp at hy hd; subst hy; subst hd; exact h.1
 |x :: l, e :: es, h, i + 1, y, d, hy, hd => OR.get h.2 i y d (by simpa using hy) (by simpa using hd)
 | [], [], _, i, y, d, hy, _ => by simp at hy
 | [], _ :: _, h, _, _, _, _, _ => h.elim
 | _ :: _, [], h, _, _, _, _, _ => h.elim
theorem OR.append {α : Type} {R : α → List OV → Prop} : ∀ {l l' : List α} {es es' : List (List OV)}, OR R l es → OR R l' es' → OR R (l ++ l') (es ++ es')
 | [], _, [], _, _, h => h
 |x :: l, _, e :: es, _, a, h => ⟨a.1, OR.append a.2 h⟩
 | [], _, _ :: _, _, a, _ => a.elim
 | _ :: _, _, [], _, a, _ => a.elim
theorem OR.qW {α : Type} {R : α → List OV → Prop} {c : α → List aD} (hR : ∀ x e, R x e → e.map OV.qW = c x) : ∀ {l : List α} {es : List (List OV)}, OR R l es → OV.k7 es = l.map c
 | [], [], _ => rfl
 |x :: l, e :: es, h => by rw [OV.k7, OR.qW hR h.2, OV.wY, hR x e h.1]; rfl
 | [], _ :: _, h => h.elim
 | _ :: _, [], h => h.elim
theorem OS.qW {α : Type} {R : α → List OV → Prop} {c : α → List aD} {sz : Nat} {l : List α} {y : OV} (hR : ∀ x e, R x e → e.map OV.qW = c x) (h : OS R sz l y) : y.qW = .sl sz (l.map c) false := by
 rcases h with ⟨rfl, rfl⟩ | ⟨n, es, rfl, h⟩
 ·rfl
 ·simp only [OV.qW, OR.qW hR h]
def bE (l : List (Nat × bP)) : List Nat := l.map (·.1)
def a8K (S : List Nat) (h h' : aB) : Prop := ∀ m, m ∉ S → h' m = h m
open Go.ChangeShapes Go.WideShapes
set_option linter.unusedVariables false
set_option linter.unusedSimpArgs false
def qM {α : Type} (s : α → Nat) (l : List α) : Nat := l.length + (l.map s).sum
theorem kT {α : Type} (s : α → Nat) (l : List α) : qM s l = l.length + (l.map s).sum := rfl
set_option linter.unusedVariables false
set_option linter.unusedSimpArgs false
theorem OV.p7 : ∀ (a b : List OV), OV.bT (a ++ b) = OV.bT a ++ OV.bT b
 | [], b => rfl
 |x :: a, b => by rw [List.cons_append, OV.bT, OV.p7 a b, OV.bT, List.append_assoc]
theorem OV.sB : ∀ (a b : List (List OV)), OV.b6 (a ++ b) = OV.b6 a ++ OV.b6 b
 | [], b => rfl
 |x :: a, b => by rw [List.cons_append, OV.b6, OV.sB a b, OV.b6, List.append_assoc]
theorem dN (a b : List (Nat × bP)) : bE (a ++ b) = bE a ++ bE b := List.map_append
theorem dD {l : List (Nat × bP)} {m : Nat} : m ∈ bE l ↔ ∃ o, (m, o) ∈ l := by
 simp [bE]
structure eU (h : aB) (l : List (Nat × bP)) (h' : aB) : Prop where
 nodup : (bE l).Nodup
 fresh : ∀ m ∈ bE l, h m = none
 oV : qN h' l
 upto : a8K (bE l) h h'
theorem eU.nil (h : aB) : eU h [] h := ⟨List.nodup_nil, by simp [bE], by simp [qN], fun m _ => rfl⟩
theorem eU.one {h : aB} {n : Nat} {o : bP} (hn : h n = none) : eU h [(n, o)] (aR h n o) :=
 ⟨by simp [bE], by simpa [bE] using hn, by simp [qN], fun m hm => aA _ _ _ _ (by simpa [bE] using hm)⟩
theorem eU.append {h h1 h2 : aB} {a b : List (Nat × bP)} (x : eU h a h1) (y : eU h1 b h2) : eU h (a ++ b) h2 := by
 have dis : ∀ m ∈ bE a, m ∉ bE b := fun m hm hb => by
  obtain ⟨o, ho⟩ := dD.1 hm
  have := y.fresh m hb
  rw [x.oV _ ho] at this; cases this
 refine ⟨?_, ?_, ?_, ?_⟩
 ·rw [dN]
  exact List.nodup_append.2 ⟨x.nodup, y.nodup, fun p hp q hq e => dis p hp (e ▸ hq)⟩
 ·intro m hm
  rw [dN, List.mem_append] at hm
  by_cases hb : m ∈ bE a
  ·exact x.fresh m hb
  ·rcases hm with hm | hm
   ·exact absurd hm hb
   ·rw [← x.upto m hb]; exact y.fresh m hm
 ·intro p hp
  rcases List.mem_append.1 hp with hp | hp
  ·have : p.1 ∈ bE a := dD.2 ⟨p.2, hp⟩
   rw [y.upto p.1 (dis _ this)]; exact x.oV p hp
  ·exact y.oV p hp
 ·intro m hm
  rw [dN, List.mem_append] at hm
  rw [y.upto m fun q => hm (.inr q), x.upto m fun q => hm (.inl q)]
theorem eU.perm {h h' : aB} {a b : List (Nat × bP)} (x : eU h a h') (p : a.Perm b) : eU h b h' :=
 ⟨(p.map _).nodup_iff.1 x.nodup, fun m hm => x.fresh m (((p.map (·.1)).mem_iff).2 hm), fun q hq => x.oV q (p.mem_iff.2 hq), fun m hm => x.upto m fun q => hm (((p.map (·.1)).mem_iff).1 q)⟩
theorem eU.set {h h' : aB} {n : Nat} {o o' : bP} {l : List (Nat × bP)} (x : eU h ((n, o) :: l) h') : eU h ((n, o') :: l) (aR h' n o') := by
 have hnd := x.nodup
 have hn : n ∉ bE l := by
  have : (bE ((n, o) :: l)).Nodup := hnd
  simp only [bE, List.map_cons, List.nodup_cons] at this
  exact this.1
 refine ⟨hnd, x.fresh, ?_, fun m hm => ?_⟩
 ·intro p hp
  rcases List.mem_cons.1 hp with rfl | hp
  ·exact aG _ _ _
  ·have : p.1 ≠ n := fun e => hn (e ▸ dD.2 ⟨p.2, hp⟩)
   rw [aA _ _ _ _ this]; exact x.oV p (List.mem_cons_of_mem _ hp)
 ·have : m ≠ n := fun e => hm (by subst e; simp [bE])
  rw [aA _ _ _ _ this]; exact x.upto m hm
def qP (h : aB) (S : List Nat) : aB := fun m => if m ∈ S then none else h m
theorem aG5 (h : aB) (S : List Nat) : (qP h S).le h := fun m => by
 by_cases e : m ∈ S
 ·exact .inl (if_pos e)
 ·exact .inr (if_neg e)
theorem eU.drop {h h' : aB} {a b : List (Nat × bP)} (x : eU h (a ++ b) h') : eU h b (qP h' (bE a)) := by
 have hnd := x.nodup
 rw [dN] at hnd
 obtain ⟨_, nb, dis⟩ := List.nodup_append.1 hnd
 refine ⟨nb, fun m hm => x.fresh m (by rw [dN]; exact List.mem_append_right _ hm), fun p hp => ?_, fun m hm => ?_⟩
 ·have : p.1 ∉ bE a := fun q => dis _ q _ (dD.2 ⟨p.2, hp⟩) rfl
  simp only [qP, if_neg this]
  exact x.oV p (List.mem_append_right _ hp)
 ·by_cases e : m ∈ bE a
  ·simp only [qP, if_pos e]
   exact (x.fresh m (by rw [dN]; exact List.mem_append_left _ e)).symm
  ·simp only [qP, if_neg e]
   exact x.upto m (by rw [dN]; simp [e, hm])
theorem aXA {P : Program} {f : FuncId} {args : List aD} {r : aD} {K : aD → aB → Prop} (h : aB) (a : iH P f args h K)
  (hk : ∀ r' h', K r' h' → ∃ l, eU h l h' ∧ ∀ E w v, Rel E h' w → fD E h' w r' v → fD E (k8 h' (bE l)) w r v) : iH P f args h fun r' h' => r' = r ∧ h' = h :=
 ⟨a.1, fun E w vs R hv => Calls.mono (a.2 E w vs R hv) fun e w' he => by
  cases e <;> try exact he
  obtain ⟨r', h', E', k, ev, R', rx⟩ := he
  obtain ⟨l, nw, hr⟩ := hk r' h' k
  have hle : h.le (k8 h' (bE l)) := fun m => by
   by_cases e : m ∈ bE l
   ·exact .inl (nw.fresh m e)
   ·rw [mR e, nw.upto m e]; exact .inr rfl
  refine ⟨r, h, E', ⟨rfl, rfl⟩, ev.trans ((Ev.k8 _).forget hle), (R'.k8 _).forget hle, ?_⟩
  refine fD.qR (fun b hb => o7.le hle hb) (hr E' w' _ R' rx)⟩
theorem dV.aET {E : Env} {h : aB} {w : World} (R : Rel E h w) {S : List Nat} : ∀ (e : List OV) (vs : List Value), qN h (OV.bT e) → (∀ p ∈ OV.bT e, p.1 ∈ S) → dV E h w (e.map OV.val) vs → dV E (k8 h S) w (e.map OV.qW) vs
 | [], [], _, _, _ => trivial
 |x :: e, v :: vs, ho, hS, hr => ⟨fD.aET R x (fun p hp => ho p (by rw [OV.bT]; exact List.mem_append_left _ hp)) (fun p hp => hS p (by rw [OV.bT]; exact List.mem_append_left _ hp)) v hr.1,
   dV.aET R e vs (fun p hp => ho p (by rw [OV.bT]; exact List.mem_append_right _ hp)) (fun p hp => hS p (by rw [OV.bT]; exact List.mem_append_right _ hp)) hr.2⟩
 | [], _ :: _, _, _, hr => hr.elim
 | _ :: _, [], _, _, hr => hr.elim
theorem fD.aG6 {E : Env} {h : aB} {w : World} (R : Rel E h w) {S : List Nat} (e : List OV) (v : Value) (ho : qN h (OV.bT e)) (hS : ∀ p ∈ OV.bT e, p.1 ∈ S) (hr : fD E h w (.agg (e.map OV.val)) v) : fD E (k8 h S) w (.agg (e.map OV.qW)) v := by
 cases hr with
 |agg _ vs hl hr =>
  have := dV.aET R e vs ho hS (dV.mk hl hr)
  exact .agg _ vs this.length this.get
theorem yW {α : Type} {c : α → aD} {x : α} {e : List OV} (h : oP c x e) : e.map OV.qW = [c x] := by
 unfold oP at h; subst h; rfl
set_option linter.unusedVariables false
set_option linter.unusedSimpArgs false
structure aDV (h : aB) (T : List Nat) (l : List (Nat × bP)) (h' : aB) : Prop where
 nodup : (T ++ bE l).Nodup
 fresh : ∀ m ∈ T ++ bE l, h m = none
 there : ∀ m ∈ T, h' m ≠ none
 oV : qN h' l
 upto : a8K (T ++ bE l) h h'
theorem aDV.bFK {h h' : aB} {l : List (Nat × bP)} (x : aDV h [] l h') : eU h l h' := ⟨x.nodup, x.fresh, x.oV, x.upto⟩
theorem eU.toT {h h' : aB} {l : List (Nat × bP)} (x : eU h l h') : aDV h [] l h' := ⟨x.nodup, x.fresh, by simp, x.oV, x.upto⟩
theorem aDV.drop {h h' : aB} {T : List Nat} {l : List (Nat × bP)} (x : aDV h T l h') : eU h l (qP h' T) := by
 obtain ⟨_, nb, dis⟩ := List.nodup_append.1 x.nodup
 refine ⟨nb, fun m hm => x.fresh m (List.mem_append_right _ hm), fun p hp => ?_, fun m hm => ?_⟩
 ·have : p.1 ∉ T := fun q => dis _ q _ (dD.2 ⟨p.2, hp⟩) rfl
  simp only [qP, if_neg this]
  exact x.oV p hp
 ·by_cases e : m ∈ T
  ·simp only [qP, if_pos e]
   exact (x.fresh m (List.mem_append_left _ e)).symm
  ·simp only [qP, if_neg e]
   exact x.upto m (by simp [e, hm])
theorem aDV.some {h h' : aB} {T : List Nat} {l : List (Nat × bP)} (x : aDV h T l h') {m : Nat} (hm : m ∈ T ++ bE l) : h' m ≠ none := by
 rcases List.mem_append.1 hm with hm | hm
 ·exact x.there m hm
 ·obtain ⟨o, ho⟩ := dD.1 hm
  rw [x.oV _ ho]; simp
theorem aDV.row {h h' : aB} {T : List Nat} {l : List (Nat × bP)} (x : aDV h T l h') {n : Nat} {o : bP} (hn : h' n = none) : aDV h T ((n, o) :: l) (aR h' n o) := by
 have hn1 : n ∉ T ++ bE l := fun q => x.some q hn
 have nd := List.nodup_append.1 x.nodup
 refine ⟨List.nodup_append.2 ⟨nd.1, ?_, ?_⟩, ?_, ?_, fun p hp => ?_, fun m hm => ?_⟩
 ·show (n :: bE l).Nodup
  exact List.nodup_cons.2 ⟨fun q => hn1 (List.mem_append_right _ q), nd.2.1⟩
 ·intro a ha b hb e
  have hb' : b ∈ n :: bE l := hb
  rcases List.mem_cons.1 hb' with rfl | hb'
  ·exact hn1 (e ▸ List.mem_append_left _ ha)
  ·exact nd.2.2 a ha b hb' e
 ·intro m hm
  rcases List.mem_append.1 hm with hm | hm
  ·exact x.fresh m (List.mem_append_left _ hm)
  ·have hm' : m ∈ n :: bE l := hm
   rcases List.mem_cons.1 hm' with rfl | hm'
   ·rw [← x.upto m hn1]; exact hn
   ·exact x.fresh m (List.mem_append_right _ hm')
 ·intro m hm
  have : m ≠ n := fun e => hn1 (e ▸ List.mem_append_left _ hm)
  rw [aA _ _ _ _ this]; exact x.there m hm
 ·rcases List.mem_cons.1 hp with rfl | hp
  ·exact aG _ _ _
  ·have : p.1 ≠ n := fun e => hn1 (e ▸ List.mem_append_right _ (dD.2 ⟨p.2, hp⟩))
   rw [aA _ _ _ _ this]; exact x.oV p hp
 ·have h1 : m ≠ n := fun e => hm (e ▸ List.mem_append_right _ (by simp [bE]))
  rw [aA _ _ _ _ h1]
  refine x.upto m fun q => hm ?_
  rcases List.mem_append.1 q with q | q
  ·exact List.mem_append_left _ q
  ·exact List.mem_append_right _ (List.mem_cons_of_mem _ q)
theorem eU.keep {h h' : aB} {l : List (Nat × bP)} (x : eU h l h') {n : Nat} {o : bP} (hn : h n = some o) : h' n = some o := by
 rw [x.upto n fun q => by rw [x.fresh n q] at hn; cases hn]; exact hn
theorem aDV.set {h h' : aB} {T : List Nat} {n : Nat} {o o' : bP} {l : List (Nat × bP)} (x : aDV h T ((n, o) :: l) h') : aDV h T ((n, o') :: l) (aR h' n o') := by
 have nd := List.nodup_append.1 x.nodup
 have nd2 : (n :: bE l).Nodup := nd.2.1
 refine ⟨x.nodup, x.fresh, fun m hm => ?_, fun p hp => ?_, fun m hm => ?_⟩
 ·by_cases e : m = n
  ·subst e; simp
  ·rw [aA _ _ _ _ e]; exact x.there m hm
 ·rcases List.mem_cons.1 hp with rfl | hp
  ·exact aG _ _ _
  ·have : p.1 ≠ n := fun e => (List.nodup_cons.1 nd2).1 (e ▸ dD.2 ⟨p.2, hp⟩)
   rw [aA _ _ _ _ this]; exact x.oV p (List.mem_cons_of_mem _ hp)
 ·have h1 : m ≠ n := fun e => hm (e ▸ List.mem_append_right _ (by simp [bE]))
  rw [aA _ _ _ _ h1]; exact x.upto m hm
theorem uZ {α : Type} {c : α → aD} : ∀ (l : List α), OR (oP c) l (l.map fun x => [.v (c x)])
 | [] => trivial
 |x :: l => ⟨rfl, uZ l⟩
theorem mS {α : Type} (c : α → aD) (l : List α) : OV.cells (l.map fun x => [OV.v (c x)]) = (l.map fun x => [c x]).map (List.map .v) := by
 simp [OV.cells, OV.val]
theorem oW {α : Type} (c : α → aD) : ∀ (l : List α), OV.b6 (l.map fun x => [OV.v (c x)]) = []
 | [] => rfl
 |x :: l => by rw [List.map_cons, OV.b6, oW c l]; rfl
theorem OV.jH (x : aD) : (OV.v x).val = x := rfl
theorem OS.flat {α : Type} {R : α → List OV → Prop} {sz : Nat} {l : List α} {y : OV} (h : OS R sz l y) : y.val.flat = true := by
 rcases h with ⟨rfl, _⟩ | ⟨n, es, rfl, _⟩ <;> rfl
theorem OS.one {α : Type} {R : α → List OV → Prop} {sz : Nat} {l : List α} {y : OV} (h : OS R sz l y) : y.val.cells = [y.val] := by
 rcases h with ⟨rfl, _⟩ | ⟨n, es, rfl, _⟩ <;> rfl
theorem aIV (es : List (List OV)) (e : List OV) : OV.b6 (es ++ [e]) = OV.b6 es ++ OV.bT e := by
 rw [OV.sB]; simp only [OV.b6, List.append_nil]
set_option linter.unusedVariables false
set_option linter.unusedSimpArgs false
def x9 (P : Program) (f : FuncId) (args : List aD) (Q : aD → List (Nat × bP) → Prop) : Prop := ∀ h : aB, iH P f args h fun r h' => ∃ l, Q r l ∧ eU h l h'
theorem eU.under {g h' : aB} {n : Nat} {o : bP} {l : List (Nat × bP)} (hg : g n = none) (x : eU (aR g n o) l h') : ∃ g', h' = aR g' n o ∧ eU g l g' ∧ g' n = none := by
 have hn : n ∉ bE l := fun q => by have := x.fresh n q; simp at this
 have hk : h' n = some o := x.keep (aG _ _ _)
 refine ⟨qP h' [n], ?_, ⟨x.nodup, fun m hm => ?_, fun p hp => ?_, fun m hm => ?_⟩, by simp [qP]⟩
 ·funext m
  by_cases e : m = n
  ·subst e; rw [aG, hk]
  ·rw [aA _ _ _ _ e]; simp [qP, e]
 ·have e : m ≠ n := fun e => hn (e ▸ hm)
  have := x.fresh m hm
  rwa [aA _ _ _ _ e] at this
 ·have e : p.1 ≠ n := fun e => hn (e ▸ dD.2 ⟨p.2, hp⟩)
  have : qP h' [n] p.1 = h' p.1 := by simp [qP, e]
  rw [this]; exact x.oV p hp
 ·by_cases e : m = n
  ·subst e; rw [hg]; simp [qP]
  ·have : qP h' [n] m = h' m := by simp [qP, e]
   rw [this, x.upto m hm, aA _ _ _ _ e]
theorem eU.yX {g h' : aB} {n m : Nat} {x y : bP} {l : List (Nat × bP)} (hn : g n = none) (hm : aR g n x m = none) (q : eU (aR (aR g n x) m y) l h') : ∃ g', h' = aR (aR g' n x) m y ∧ eU g l g' ∧ g' n = none ∧ aR g' n x m = none := by
 obtain ⟨g1, rfl, q1, h1⟩ := q.under hm
 obtain ⟨g2, rfl, q2, h2⟩ := q1.under hn
 exact ⟨g2, rfl, q2, h2, h1⟩
theorem eU.aKU {g h' : aB} {n m k : Nat} {x y z : bP} {l : List (Nat × bP)} (hn : g n = none) (hm : aR g n x m = none) (hk : aR (aR g n x) m y k = none) (q : eU (aR (aR (aR g n x) m y) k z) l h') :
  ∃ g', h' = aR (aR (aR g' n x) m y) k z ∧ eU g l g' ∧ g' n = none ∧ aR g' n x m = none ∧ aR (aR g' n x) m y k = none := by
 obtain ⟨g1, rfl, q1, h1⟩ := q.under hk
 obtain ⟨g2, rfl, q2, h2, h3⟩ := q1.yX hn hm
 exact ⟨g2, rfl, q2, h2, h3, h1⟩
section
variable {P : Program} {f : FuncId} {args : List aD} {Q : aD → List (Nat × bP) → Prop} {K : aD → aB → Prop} {t : Tag K}
end
theorem yA {P : Program} {f : FuncId} {fn : Func} {c : Code} (N : Nat) (keep ib : List Nat) (mk : Marks) {args : List aD} {Q : aD → List (Nat × bP) → Prop} (hmix : P.follows .mixedOrders = true) (hf : P.funcs[f]? = some fn) (hb : fn.body = some c)
  (hck : (mI P f && decide (fn.ntmps = N) && j6 N mk c) = true) (hl : args.length ≤ N)
  (hw : ∀ h, rO P N keep ib mk c (fun τ h' => tG P fn.results (fun r h' => ∃ r1 g l, Shift r h' r1 g ∧ Q r1 l ∧ eU h l g) () .normal τ h') (tG P fn.results (fun r h' => ∃ r1 g l, Shift r h' r1 g ∧ Q r1 l ∧ eU h l g) ()) (tD 0 args) h ()) : x9 P f args Q := by
 intro h
 have h1 : iH P f args h (fun r h' => ∃ r1 g l, Shift r h' r1 g ∧ Q r1 l ∧ eU h l g) :=
  iH.mono (aDS (K := fun r h' => ∃ r1 g l, Shift r h' r1 g ∧ Q r1 l ∧ eU h l g) N keep ib mk hmix hf hb hck hl (by
   have := hw h
   refine Eq.mp ?_ this
   have e : (fun r h' => ∃ r1 g l, Shift r h' r1 g ∧ Q r1 l ∧ eU h l g) = (fun r h' => ∃ g' : aB, g'.le h' ∧ ∃ r1 g l, Shift r g' r1 g ∧ Q r1 l ∧ eU h l g) := by
    funext r h'
    refine propext ⟨fun ⟨r1, g, l, s, q⟩ => ⟨h', aB.le_refl _, r1, g, l, s, q⟩, fun ⟨g', hl, r1, g, l, s, q⟩ => ⟨r1, g, l, (Shift.of (Sub.refl _) hl).trans s, q⟩⟩
   rw [e])) fun r h' q => q
 exact tF (fn := fn) (c := c) (N := N) h1 fun r h' ⟨r1, g, l, s, q, n⟩ => ⟨r1, g, s, l, q, n⟩
theorem x9.eQ {P : Program} {f : FuncId} {args : List aD} {Q : aD → List (Nat × bP) → Prop} {r : aD} (a : x9 P f args Q)
  (hk : ∀ r' l, Q r' l → ∀ E w v h', qN h' l → Rel E h' w → fD E h' w r' v → fD E (k8 h' (bE l)) w r v) : fL P f args r := fun h =>
 aXA h (a h) fun r' h' ⟨l, q, hn⟩ => ⟨l, hn, fun E w v R rx => hk r' l q E w v h' hn.oV R rx⟩
theorem x9.sub {P : Program} {f : FuncId} {xs ys : List aD} {Q : aD → List (Nat × bP) → Prop} (s : gE xs ys) (a : x9 P f ys Q) : x9 P f xs Q := fun h => iH.sub s (a h)
def qQ (h : aB) : aB := fun m => (h m).map fun _ => .gone
theorem wZ {h : aB} {m : Nat} {o : bP} (ho : qQ h m = some o) : o = .gone := by
 simp only [qQ, Option.map_eq_some_iff] at ho
 obtain ⟨_, _, rfl⟩ := ho; rfl
theorem vT {E : Env} {h : aB} {w : World} {b : Nat} (hb : b < w.heap.size) : o7 E (qQ h) w b := ⟨hb, fun m o hm ho => by rw [wZ hm] at ho; exact ho.elim⟩
theorem Rel.qQ {E : Env} {h : aB} {w : World} (R : Rel E h w) : Rel E (qQ h) w := by
 refine ⟨R.fin, fun m hm => R.dom m fun q => hm (by simp [Hl.qQ, q]), ?_, ?_, ?_, R.laid.qR fun b hb => vT hb.1⟩
 ·intro m o b hm ho; rw [wZ hm] at ho; exact ho.elim
 ·intro m o m' o' b hm ho; rw [wZ hm] at ho; exact ho.elim
 ·intro m o hm; rw [wZ hm]; trivial
theorem iH.a52 {P : Program} {f : FuncId} {args args' : List aD} {h : aB} {K : aD → aB → Prop} {K' : aD → List (Nat × bP) → Prop}
  (hview : ∀ E w vs, Rel E h w → dV E h w args vs → dV E (qQ h) w args' vs) (a : iH P f args' (qQ h) K)
  (hK : ∀ r h', K r h' → ∃ l, K' r l ∧ eU (qQ h) l h' ∧ r.gP = true ∧ ∀ p ∈ l, p.2.gP = true) :
  iH P f args h fun r h' => ∃ l, K' r l ∧ eU h l h' := by
 refine ⟨a.1, fun E w vs R hv => Calls.mono (a.2 E w vs R.qQ (hview E w vs R hv)) fun e w' he => ?_⟩
 cases e <;> try exact he
 obtain ⟨r, h', E', k, ev, R', rx⟩ := he
 obtain ⟨l, k', nw, hr, hsol⟩ := hK r h' k
 have hnew : ∀ m ∈ bE l, h m = none := fun m hm => by
  have := nw.fresh m hm
  simpa [qQ] using this
 let h2 : aB := fun m => if m ∈ bE l then h' m else h m
 have e1 : ∀ m, m ∈ bE l → h2 m = h' m := fun m hm => if_pos hm
 have e2 : ∀ m, m ∉ bE l → h2 m = h m := fun m hm => if_neg hm
 let E2 : Env := { loc := E'.loc, fp := fun n => if n ∈ bE l then E'.fp n else E.fp n, used := E'.used }
 have f1 : ∀ m, m ∈ bE l → E2.fp m = E'.fp m := fun m hm => if_pos hm
 have f2 : ∀ m, m ∉ bE l → E2.fp m = E.fp m := fun m hm => if_neg hm
 have aQR : ∀ b, b < w.heap.size → o7 E (qQ h) w b := fun b hb => vT hb
 have solL : ∀ m o, m ∈ bE l → h' m = some o → o.gP = true := fun m o hm ho => by
  obtain ⟨o', ho'⟩ := dD.1 hm
  have := nw.oV _ ho'
  rw [ho] at this
  obtain rfl := Option.some.inj this
  exact hsol _ ho'
 have evA : Ev E h w E2 h2 w' := by
  refine ⟨ev.size, fun b hb => ?_, ev.shape, ev.loc, ev.os, ev.out⟩
  have h1 := ev.keep b (aQR b hb.1)
  refine ⟨h1.1, h1.2.1, fun m o hm ho hf => ?_⟩
  by_cases e : m ∈ bE l
  ·rw [e1 m e] at hm; rw [f1 m e] at hf; exact h1.2.2 m o hm ho hf
  ·rw [e2 m e] at hm; rw [f2 m e] at hf; exact hb.2 m o hm ho hf
 have R2 : Rel E2 h2 w' := by
  refine ⟨R'.fin, fun m hm => ?_, ?_, ?_, ?_, R.laid.ev evA⟩
  ·by_cases e : m ∈ bE l
   ·rw [e1 m e] at hm; exact R'.dom m hm
   ·rw [e2 m e] at hm; exact (ev.loc m (R.dom m hm)).2
  ·intro m o b hm ho hf
   by_cases e : m ∈ bE l
   ·rw [e1 m e] at hm; rw [f1 m e] at hf; exact R'.lt m o b hm ho hf
   ·rw [e2 m e] at hm; rw [f2 m e] at hf; exact Nat.lt_of_lt_of_le (R.lt m o b hm ho hf) ev.size
  ·intro m o m' o' b hm ho hm' ho' hf hf'
   by_cases e : m ∈ bE l
   ·rw [e1 m e] at hm; rw [f1 m e] at hf
    by_cases e' : m' ∈ bE l
    ·rw [e1 m' e'] at hm'; rw [f1 m' e'] at hf'; exact R'.apart m o m' o' b hm ho hm' ho' hf hf'
    ·rw [e2 m' e'] at hm'; rw [f2 m' e'] at hf'
     exact absurd hf ((ev.keep b (aQR b (R.lt m' o' b hm' ho' hf'))).2.2 m o hm ho)
   ·rw [e2 m e] at hm; rw [f2 m e] at hf
    by_cases e' : m' ∈ bE l
    ·rw [e1 m' e'] at hm'; rw [f1 m' e'] at hf'
     exact absurd hf' ((ev.keep b (aQR b (R.lt m o b hm ho hf))).2.2 m' o' hm' ho')
    ·rw [e2 m' e'] at hm'; rw [f2 m' e'] at hf'; exact R.apart m o m' o' b hm ho hm' ho' hf hf'
  ·intro m o hm
   by_cases e : m ∈ bE l
   ·rw [e1 m e] at hm
    exact aBH.gP (E := E') (E' := E2) (fun n hn => ⟨rfl, hn⟩) (fun _ _ => rfl) rfl (f1 m e) (fun _ _ => rfl) (solL m o e hm) (R'.obj m o hm)
   ·rw [e2 m e] at hm
    cases o with
    |gone => trivial
    |row sz es => exact (R.obj m _ hm).ev evA (ev.loc m (R.dom m (by simp [hm]))).1 (f2 m e) fun b _ hb => (ev.keep b (aQR b (R.lt m _ b hm trivial hb))).1
    |abs Q => exact (R.obj m _ hm).ev evA (ev.loc m (R.dom m (by simp [hm]))).1 (f2 m e) fun b _ hb => (ev.keep b (aQR b (R.lt m _ b hm trivial hb))).1
    |raw t cs => exact (R.obj m _ hm).ev evA (ev.loc m (R.dom m (by simp [hm]))).1 (f2 m e) fun b _ hb => (ev.keep b (aQR b (R.lt m _ b hm trivial hb))).1
    |map kt et l' => exact (R.obj m _ hm).ev evA (ev.loc m (R.dom m (by simp [hm]))).1 (f2 m e) fun b _ hb => (ev.keep b (aQR b (R.lt m _ b hm trivial hb))).1
 refine ⟨r, h2, E2, ⟨l, k', ⟨nw.nodup, hnew, fun p hp => ?_, fun m hm => e2 m hm⟩⟩, evA, R2, fD.gP (E := E') (E' := E2) (fun n hn => ⟨rfl, hn⟩) (fun _ _ => rfl) rx hr⟩
 rw [e1 p.1 (dD.2 ⟨p.2, hp⟩)]; exact nw.oV p hp
def View (h : aB) (x x' : aD) : Prop := ∀ E w v, Rel E h w → fD E h w x v → fD E (qQ h) w x' v
def p8 (h : aB) : List aD → List aD → Prop
 | [], [] => True
 |x :: xs, y :: ys => View h x y ∧ p8 h xs ys
 | _, _ => False
theorem a8L {E : Env} {h : aB} {w : World} {b : Nat} (i : o7 E h w b) : o7 E (qQ h) w b := vT i.1
theorem View.same (h : aB) (x : aD) : View h x x := fun E w v R r => r.qR fun b i => a8L i
theorem aG7 {E : Env} {h : aB} {w : World} {S : List Nat} : ∀ b, o7 E (Hl.k8 h S) w b → o7 E (qQ h) w b := fun b i => vT i.1
theorem View.ov {h : aB} (y : OV) (ho : qN h y.rows) : View h y.val y.qW := fun E w v R r =>
 (fD.aET R (S := bE y.rows) y ho (fun p hp => dD.2 ⟨p.2, hp⟩) v r).qR aG7
theorem View.op {h : aB} {n sz i off : Nat} (es : List (List OV)) (hn : h n = some (.row sz (OV.cells es))) (hne : es ≠ []) (ho : qN h (OV.b6 es)) : View h (.op n sz i off) (.ip sz (OV.k7 es) i off) := by
 intro E w v R r
 cases v <;> try (cases r; done)
 cases r with
 |op _ _ _ _ b o hd hl =>
  obtain ⟨b', o', hl', hbS, hs, cs, ct, cv, T, hh, hm', hT, hD, hc, hrr⟩ := yI R hn (.inr ⟨_, hl⟩)
  rw [hl] at hl'
  obtain ⟨rfl, rfl⟩ := Prod.mk.inj (Option.some.inj hl')
  have hcs : ∀ i j y, iZ (OV.k7 es) i j = some y → ∃ c, iZ es i j = some c ∧ y = c.qW ∧ cs[o + i * sz + j]? = some (cv i j) ∧ (cv i j).oneCell' = true ∧ fD E h w c.val (cv i j) := by
   intro i j y hy
   rw [OV.nL, p0] at hy
   obtain ⟨c, hc1, rfl⟩ := Option.map_eq_some_iff.1 hy
   have hcell : iZ (OV.cells es) i j = some (.v c.val) := by rw [OV.cells, p0, hc1]; rfl
   have h2 := hrr i j _ hcell
   generalize hcv : cv i j = z at h2
   cases h2 with
   |v x c' S' h1 hx => exact ⟨c, hc1, rfl, hcv ▸ hc i j _ hcell, h1, hx⟩
  refine .ip sz (OV.k7 es) i off b o cv (vT (R.lt n _ b hn trivial hbS)) ?_ ?_ ?_ ?_
  ·intro e he
   rw [OV.nL, List.mem_map] at he
   obtain ⟨e', he', rfl⟩ := he
   have := hs (e'.map fun c => Cell.v c.val) (List.mem_map.2 ⟨e', he', rfl⟩)
   simpa using this
  ·intro i j y hy
   obtain ⟨c, _, _, h1, _, _⟩ := hcs i j y hy
   simp only [World.cell?, hh]
   rw [← h1]
   simp
  ·intro i j y hy; obtain ⟨c, _, _, _, h1, _⟩ := hcs i j y hy; exact h1
  ·intro i j y hy
   obtain ⟨c, hc1, rfl, _, _, h1⟩ := hcs i j y hy
   obtain ⟨e, he, hj⟩ := kX hc1
   exact (aDT R (S := bE (OV.b6 es)) es ho (fun p hp => dD.2 ⟨p.2, hp⟩) e (List.mem_of_getElem? he) c (List.mem_of_getElem? hj) _ h1).qR aG7
theorem p8.aN7 {h : aB} : ∀ {xs ys : List aD}, p8 h xs ys → ∀ E w vs, Rel E h w → dV E h w xs vs → dV E (qQ h) w ys vs
 | [], [], _, E, w, [], R, r => trivial
 |x :: xs, y :: ys, hv, E, w, v :: vs, R, r => ⟨hv.1 E w v R r.1, p8.aN7 hv.2 E w vs R r.2⟩
 | [], [], _, E, w, _ :: _, R, r => r.elim
 |x :: xs, y :: ys, hv, E, w, [], R, r => r.elim
 | [], _ :: _, h, _, _, _, _, _ => h.elim
 | _ :: _, [], h, _, _, _, _, _ => h.elim
theorem p8.nil {h : aB} : p8 h [] [] := trivial
theorem p8.cons {h : aB} {x y : aD} {xs ys : List aD} (a : View h x y) (b : p8 h xs ys) : p8 h (x :: xs) (y :: ys) := ⟨a, b⟩
def aQS (Q : aD → List (Nat × bP) → Prop) : Prop := ∀ r l, Q r l → r.gP = true ∧ ∀ p ∈ l, p.2.gP = true
theorem x9.a8M {P : Program} {f : FuncId} {args args' : List aD} {Q : aD → List (Nat × bP) → Prop} {h : aB} (a : x9 P f args' Q) (hv : p8 h args args') (hQ : aQS Q) : iH P f args h fun r h' => ∃ l, Q r l ∧ eU h l h' :=
 iH.a52 hv.aN7 (a (qQ h)) fun r h' ⟨l, q, n⟩ => ⟨l, q, n, (hQ r l q).1, (hQ r l q).2⟩
theorem fL.a8M {P : Program} {f : FuncId} {args args' : List aD} {r : aD} {h : aB} (a : fL P f args' r) (hv : p8 h args args') (hr : r.gP = true) : iH P f args h fun r' h' => r' = r ∧ h' = h :=
 (iH.a52 (K' := fun r' l => r' = r ∧ l = []) hv.aN7 (a (qQ h)) fun r' h' ⟨e, e'⟩ => by
  subst e; subst e'; exact ⟨[], ⟨rfl, rfl⟩, .nil _, hr, by simp⟩).mono fun r' h' ⟨l, ⟨e1, e2⟩, n⟩ => by
  subst e2
  exact ⟨e1, funext fun m => n.upto m (by simp [bE])⟩
section
variable {P : Program} {f : FuncId} {args args' : List aD} {Q : aD → List (Nat × bP) → Prop} {K : aD → aB → Prop} {t : Tag K} {g : aB}
theorem aH.bFL {r : aD} (a : fL P f args' r) (hv : p8 g args args') (hr : r.gP = true) (k : K r g) : aH P f args g K t :=
 aH.fG (a.a8M hv hr) fun r' h' ⟨e, e'⟩ => by subst e; subst e'; exact k
end
mutual
def OV.sol : OV → Bool
 | .v x => x.gP
 | .nil _ => true
 | .sl _ _ es => OV.sN es
def OV.sN : List (List OV) → Bool
 | [] => true
 |e :: es => OV.u9 e && OV.sN es
def OV.u9 : List OV → Bool
 | [] => true
 |x :: e => x.sol && OV.u9 e
end
theorem OV.aJE : ∀ {x : OV}, x.sol = true → x.val.gP = true
 | .v x, h => by simpa only [OV.sol, OV.val] using h
 | .nil _, _ => by simp [OV.val, aD.gP]
 | .sl _ _ _, _ => by simp [OV.val, aD.gP]
theorem OV.aG8 : ∀ (e : List OV), OV.u9 e = e.all OV.sol
 | [] => rfl
 |x :: e => by rw [OV.u9, OV.aG8 e]; rfl
theorem OV.aEU : ∀ (es : List (List OV)), OV.sN es = es.all (fun e => e.all OV.sol)
 | [] => rfl
 |e :: es => by rw [OV.sN, OV.aEU es, OV.aG8]; rfl
theorem OV.aOI {sz : Nat} {es : List (List OV)} (h : OV.sN es = true) : (bP.row sz (OV.cells es)).gP = true := by
 rw [OV.aEU] at h
 simp only [bP.gP, OV.cells, List.all_map, List.all_eq_true, Function.comp_apply] at h ⊢
 intro e he c hc
 exact OV.aJE (h e he c hc)
mutual
theorem OV.aG9 : ∀ {x : OV}, x.sol = true → ∀ p ∈ x.rows, p.2.gP = true
 | .v _, _ => by simp [OV.rows]
 | .nil _, _ => by simp [OV.rows]
 | .sl n sz es, h => fun p hp => by
  rw [OV.rows] at hp
  rcases List.mem_cons.1 hp with rfl | hp
  ·exact OV.aOI (by simpa only [OV.sol] using h)
  ·exact OV.yY (by simpa only [OV.sol] using h) p hp
theorem OV.yY : ∀ {es : List (List OV)}, OV.sN es = true → ∀ p ∈ OV.b6 es, p.2.gP = true
 | [], _ => by simp [OV.b6]
 |e :: es, h => fun p hp => by
  simp only [OV.sN, Bool.and_eq_true] at h
  rw [OV.b6] at hp
  rcases List.mem_append.1 hp with hp | hp
  ·exact OV.aAM h.1 p hp
  ·exact OV.yY h.2 p hp
theorem OV.aAM : ∀ {e : List OV}, OV.u9 e = true → ∀ p ∈ OV.bT e, p.2.gP = true
 | [], _ => by simp [OV.bT]
 |x :: e, h => fun p hp => by
  simp only [OV.u9, Bool.and_eq_true] at h
  rw [OV.bT] at hp
  rcases List.mem_append.1 hp with hp | hp
  ·exact OV.aG9 h.1 p hp
  ·exact OV.aAM h.2 p hp
end
theorem a8N {α : Type} {c : α → aD} (hc : ∀ x, (c x).gP = true) {x : α} {e : List OV} (h : oP c x e) : OV.u9 e = true := by
 unfold oP at h; subst h; simp [OV.u9, OV.sol, hc]
set_option linter.unusedVariables false
set_option linter.unusedSimpArgs false
def QS (R : OV → Prop) (w : aD → aD := fun x => x) : aD → List (Nat × bP) → Prop := fun r l => ∃ y, R y ∧ r = w y.val ∧ l = y.rows
def QA (R : List OV → Prop) (w : aD → aD := fun x => x) : aD → List (Nat × bP) → Prop := fun r l => ∃ e, R e ∧ r = w (.agg (e.map OV.val)) ∧ l = OV.bT e
theorem eU.row {h h' : aB} {l : List (Nat × bP)} (x : eU h l h') {n : Nat} {o : bP} (hn : h' n = none) : eU h ((n, o) :: l) (aR h' n o) := (x.toT.row hn).bFK
theorem QS.gP {R : OV → Prop} {w : aD → aD} (hR : ∀ y, R y → y.sol = true) (hw : ∀ x : aD, x.gP = true → (w x).gP = true) : aQS (QS R w) := fun r l ⟨y, hy, e1, e2⟩ => by
 subst e1 e2
 exact ⟨hw _ (OV.aJE (hR y hy)), OV.aG9 (hR y hy)⟩
theorem QS.eQ {P : Program} {f : FuncId} {args : List aD} {R : OV → Prop} {d : aD} (a : x9 P f args (QS R)) (hd : ∀ y, R y → y.qW = d) : fL P f args d :=
 a.eQ fun r' l ⟨y, hy, e1, e2⟩ E w v h' ho R rx => by
  subst e1 e2
  rw [← hd y hy]
  exact fD.aET R y ho (fun p hp => dD.2 ⟨p.2, hp⟩) v rx
theorem QA.eQ {P : Program} {f : FuncId} {args : List aD} {R : List OV → Prop} {d : List aD} (a : x9 P f args (QA R)) (hd : ∀ e, R e → e.map OV.qW = d) : fL P f args (.agg d) :=
 a.eQ fun r' l ⟨y, hy, e1, e2⟩ E w v h' ho R rx => by
  subst e1 e2
  rw [← hd y hy]
  exact fD.aG6 R y v ho (fun p hp => dD.2 ⟨p.2, hp⟩) rx
theorem OS.nil {α : Type} {R : α → List OV → Prop} {sz : Nat} : OS R sz [] (.nil sz) := .inl ⟨rfl, rfl⟩
theorem OS.mk {α : Type} {R : α → List OV → Prop} {sz n : Nat} {l : List α} {es : List (List OV)} (h : OR R l es) : OS R sz l (.sl n sz es) := .inr ⟨n, es, rfl, h⟩
theorem OV.mJ (sz : Nat) : (OV.nil sz).rows = [] := by rw [OV.rows]
theorem OV.pD (x : aD) : (OV.v x).rows = [] := by rw [OV.rows]
theorem OV.iJ (n sz : Nat) (es : List (List OV)) : (OV.sl n sz es).rows = (n, .row sz (OV.cells es)) :: OV.b6 es := by rw [OV.rows]
theorem OV.hU : OV.bT [] = [] := by rw [OV.bT]
theorem OV.dQ (x : OV) (e : List OV) : OV.bT (x :: e) = x.rows ++ OV.bT e := by rw [OV.bT]
theorem OV.aKV (sz : Nat) : (OV.nil sz).val = .sl sz [] true := rfl
theorem OV.vA (n sz : Nat) (es : List (List OV)) : (OV.sl n sz es).val = .os n sz 0 es.length := rfl
theorem OV.b7 : List.map OV.val [] = [] := rfl
theorem OV.eN (x : OV) (e : List OV) : List.map OV.val (x :: e) = x.val :: e.map OV.val := rfl
set_option linter.unusedVariables false
set_option linter.unusedSimpArgs false
structure Chg (h h' : aB) (l l' : List (Nat × bP)) : Prop where
 names : bE l' = bE l
 oV : qN h' l'
 upto : a8K (bE l) h h'
theorem Chg.trans {h h1 h2 : aB} {a b c : List (Nat × bP)} (x : Chg h h1 a b) (y : Chg h1 h2 b c) : Chg h h2 a c :=
 ⟨y.names.trans x.names, y.oV, fun m hm => (y.upto m (by rw [x.names]; exact hm)).trans (x.upto m hm)⟩
theorem qN.left {h : aB} {a b : List (Nat × bP)} (o : qN h (a ++ b)) : qN h a := fun p hp => o p (List.mem_append_left _ hp)
theorem qN.right {h : aB} {a b : List (Nat × bP)} (o : qN h (a ++ b)) : qN h b := fun p hp => o p (List.mem_append_right _ hp)
theorem Chg.mid {h h' : aB} {a l l' b : List (Nat × bP)} (o : qN h (a ++ (l ++ b))) (nd : (bE (a ++ (l ++ b))).Nodup) (c : Chg h h' l l') : Chg h h' (a ++ (l ++ b)) (a ++ (l' ++ b)) := by
 have nd' := nd
 rw [dN, dN] at nd'
 obtain ⟨_, n2, d1⟩ := List.nodup_append.1 nd'
 obtain ⟨_, _, d2⟩ := List.nodup_append.1 n2
 refine ⟨by rw [dN, dN, dN, dN, c.names], fun p hp => ?_, fun m hm => c.upto m fun q => hm ?_⟩
 ·rcases List.mem_append.1 hp with hp | hp
  ·have hm : p.1 ∈ bE a := dD.2 ⟨p.2, hp⟩
   rw [c.upto p.1 fun q => d1 _ hm _ (List.mem_append_left _ q) rfl]
   exact o p (List.mem_append_left _ hp)
  ·rcases List.mem_append.1 hp with hp | hp
   ·exact c.oV p hp
   ·have hm : p.1 ∈ bE b := dD.2 ⟨p.2, hp⟩
    rw [c.upto p.1 fun q => d2 _ q _ hm rfl]
    exact o p (List.mem_append_right _ (List.mem_append_right _ hp))
 ·rw [dN, dN]
  exact List.mem_append_right _ (List.mem_append_left _ q)
theorem Chg.set {h : aB} {n : Nat} {o o' : bP} {l : List (Nat × bP)} (ow : qN h ((n, o) :: l)) (nd : (bE ((n, o) :: l)).Nodup) : Chg h (aR h n o') ((n, o) :: l) ((n, o') :: l) := by
 have hn : n ∉ bE l := (List.nodup_cons.1 (show (n :: bE l).Nodup from nd)).1
 refine ⟨rfl, fun p hp => ?_, fun m hm => ?_⟩
 ·rcases List.mem_cons.1 hp with rfl | hp
  ·exact aG _ _ _
  ·have : p.1 ≠ n := fun e => hn (e ▸ dD.2 ⟨p.2, hp⟩)
   rw [aA _ _ _ _ this]; exact ow p (List.mem_cons_of_mem _ hp)
 ·have : m ≠ n := fun e => hm (by rw [e]; exact List.mem_cons_self)
  exact aA _ _ _ _ this
theorem Chg.nodup {h h' : aB} {a b : List (Nat × bP)} (c : Chg h h' a b) (nd : (bE a).Nodup) : (bE b).Nodup := by rw [c.names]; exact nd
theorem eU.chg {h h1 h2 : aB} {l l' : List (Nat × bP)} (x : eU h l h1) (c : Chg h1 h2 l l') : eU h l' h2 :=
 ⟨c.nodup x.nodup, fun m hm => x.fresh m (c.names ▸ hm), c.oV, fun m hm => (c.upto m (c.names ▸ hm)).trans (x.upto m (c.names ▸ hm))⟩
theorem aU5 {a l b : List (Nat × bP)} (nd : (bE (a ++ (l ++ b))).Nodup) : (bE l).Nodup := by
 rw [dN, dN] at nd
 exact (List.nodup_append.1 (List.nodup_append.1 nd).2.1).1
theorem aKW (a b : List (List OV)) : OV.cells (a ++ b) = OV.cells a ++ OV.cells b := by simp [OV.cells]
theorem sO (a b : List (List OV)) : OV.b6 (a ++ b) = OV.b6 a ++ OV.b6 b := OV.sB a b
theorem oX (e : List OV) (b : List (List OV)) : OV.b6 (e :: b) = OV.bT e ++ OV.b6 b := by rw [OV.b6]
set_option linter.unusedVariables false
set_option linter.unusedSimpArgs false
theorem qN.up {g : aB} {l : List (Nat × bP)} {n : Nat} {o : bP} (ow : qN g l) (hn : g n = none) : qN (aR g n o) l := fun p hp => by
 have : p.1 ≠ n := fun e => by have := ow p hp; rw [e, hn] at this; cases this
 rw [aA _ _ _ _ this]; exact ow p hp
theorem eU.un0 {g h' : aB} {l : List (Nat × bP)}  (x : eU g l h') : ∃ g', h' = g' ∧ eU g l g' := by
 exact ⟨h', rfl, x⟩
theorem aH.wn0 {P : Program} {f : FuncId} {args : List aD} {Q : aD → List (Nat × bP) → Prop} {K : aD → aB → Prop} {t : Tag K} {g : aB} (a : x9 P f args Q)  (k : ∀ r l g', Q r l → eU g l g' → K r g') : aH P f args g K t :=
 aH.fG (a _) fun r h' ⟨l, q, hq⟩ => by
  obtain ⟨g', e0, q2⟩ := hq.un0; subst e0
  exact k r l _ q q2
theorem eU.un1 {g h' : aB} {n0 : Nat} {o0 : bP} {l : List (Nat × bP)} (h0 : g n0 = none) (x : eU (aR g n0 o0) l h') : ∃ g', h' = (aR g' n0 o0) ∧ eU g l g' ∧ g' n0 = none := by
 exact x.under h0
theorem aH.wn1 {P : Program} {f : FuncId} {args : List aD} {Q : aD → List (Nat × bP) → Prop} {K : aD → aB → Prop} {t : Tag K} {g : aB} {n0 : Nat} {o0 : bP} (a : x9 P f args Q) (h0 : g n0 = none) (k : ∀ r l g', Q r l → eU g l g' → g' n0 = none → K r (aR g' n0 o0)) : aH P f args (aR g n0 o0) K t :=
 aH.fG (a _) fun r h' ⟨l, q, hq⟩ => by
  obtain ⟨g', rfl, q2, z0⟩ := hq.un1 h0
  exact k r l _ q q2 z0
theorem aH.wl1 {P : Program} {f : FuncId} {args args' : List aD} {Q : aD → List (Nat × bP) → Prop} {K : aD → aB → Prop} {t : Tag K} {g : aB} {n0 : Nat} {o0 : bP} (a : x9 P f args' Q) (hv : p8 (aR g n0 o0) args args') (hQ : aQS Q) (h0 : g n0 = none) (k : ∀ r l g', Q r l → eU g l g' → g' n0 = none → K r (aR g' n0 o0)) : aH P f args (aR g n0 o0) K t :=
 aH.fG (a.a8M hv hQ) fun r h' ⟨l, q, hq⟩ => by
  obtain ⟨g', rfl, q2, z0⟩ := hq.un1 h0
  exact k r l _ q q2 z0
theorem OR.a1S {α : Type} {R : α → List OV → Prop} : ∀ {l : List α} {es : List (List OV)}, (∀ x ∈ l, ∀ e, R x e → OV.u9 e = true) → OR R l es → OV.sN es = true
 | [], [], _, _ => rfl
 |x :: l, e :: es, hR, h => by rw [OV.sN, hR x List.mem_cons_self e h.1, OR.a1S (fun y hy => hR y (List.mem_cons_of_mem _ hy)) h.2]; rfl
 | [], _ :: _, _, h => h.elim
 | _ :: _, [], _, h => h.elim
theorem OS.a1S {α : Type} {R : α → List OV → Prop} {sz : Nat} {l : List α} {y : OV} (hR : ∀ x ∈ l, ∀ e, R x e → OV.u9 e = true) (h : OS R sz l y) : y.sol = true := by
 rcases h with ⟨rfl, _⟩ | ⟨n, es, rfl, h⟩
 ·rfl
 ·simp only [OV.sol]; exact h.a1S hR
set_option linter.unusedVariables false
set_option linter.unusedSimpArgs false
def aQU (w : aD → aD) : Prop := ∀ (E : Env) (h g : aB) (W : World) (x y : aD) (v : Value), (∀ b, o7 E h W b → o7 E g W b) → (∀ u, fD E h W x u → fD E g W y u) → fD E h W (w x) v → fD E g W (w y) v
theorem dV.hole {E : Env} {h g : aB} {W : World} {x y : aD} (hi : ∀ b, o7 E h W b → o7 E g W b) (hr : ∀ u, fD E h W x u → fD E g W y u) : ∀ (a b : List aD) (vs : List Value), dV E h W (a ++ x :: b) vs → dV E g W (a ++ y :: b) vs
 | [], b, v :: vs, r => ⟨hr v r.1, dV.qR hi r.2⟩
 |z :: a, b, v :: vs, r => ⟨r.1.qR hi, dV.hole hi hr a b vs r.2⟩
 | [], b, [], r => r.elim
 |z :: a, b, [], r => r.elim
theorem vU (a b : List aD) : aQU fun x => .iI (a ++ x :: b) := fun E h g W x y v hi hr r => by
 generalize hc : a ++ x :: b = cs at r
 cases r with
 |iI _ vs hl hrr =>
  subst hc
  have := dV.hole hi hr a b vs (dV.mk hl hrr)
  exact .iI _ vs this.length this.get
theorem QS.aQV {P : Program} {f : FuncId} {args : List aD} {R : OV → Prop} {w : aD → aD} {d : aD} (a : x9 P f args (QS R w)) (hd : ∀ y, R y → y.qW = d) (hw : aQU w) : fL P f args (w d) :=
 a.eQ fun r' l ⟨y, hy, e1, e2⟩ E W v h' ho R' rx => by
  subst e1 e2
  rw [← hd y hy]
  exact hw E h' _ W y.val y.qW v (fun b => qX _ b) (fun u ru => fD.aET R' y ho (fun p hp => dD.2 ⟨p.2, hp⟩) u ru) rx
theorem QA.aQV {P : Program} {f : FuncId} {args : List aD} {R : List OV → Prop} {w : aD → aD} {d : List aD} (a : x9 P f args (QA R w)) (hd : ∀ e, R e → e.map OV.qW = d) (hw : aQU w) : fL P f args (w (.agg d)) :=
 a.eQ fun r' l ⟨y, hy, e1, e2⟩ E W v h' ho R' rx => by
  subst e1 e2
  rw [← hd y hy]
  exact hw E h' _ W (.agg (y.map OV.val)) (.agg (y.map OV.qW)) v (fun b => qX _ b) (fun u ru => fD.aG6 R' y u ho (fun p hp => dD.2 ⟨p.2, hp⟩) ru) rx
def jC (sz len : Nat) : Option Nat → aD
 |none => .sl sz [] true
 |some n => .os n sz 0 len
def cK (h : aB) (o : bP) : Option Nat → aB
 |none => h
 |some n => aR h n o
theorem bO (sz len : Nat) : jC sz len none = .sl sz [] true := rfl
theorem aX (sz len n : Nat) : jC sz len (some n) = .os n sz 0 len := rfl
theorem aO (h : aB) (o : bP) : cK h o none = h := rfl
theorem aJ (h : aB) (o : bP) (n : Nat) : cK h o (some n) = aR h n o := rfl
theorem kU {h : aB} {n b : Nat} {o r : bP} (hn : h n = none) : (aR h b r).le (aR (aR (aR h n o) n .gone) b r) := fun m => by
 by_cases e : m = b
 ·subst e; right; simp
 ·rw [aA _ _ _ _ e, aA _ _ _ _ e]
  by_cases e2 : m = n
  ·subst e2; exact .inl hn
  ·right; rw [aA _ _ _ _ e2, aA _ _ _ _ e2]
def fK {α : Type} (h : aB) (l : List α) : Option Nat → Prop
 |none => l = []
 |some n => h n = none
theorem bD {α : Type} (h : aB) (l : List α) : fK h l none = (l = []) := rfl
theorem aV {α : Type} (h : aB) (l : List α) (n : Nat) : fK h l (some n) = (h n = none) := rfl
theorem fI {α : Type} (c : α → aD) (l : List α) (x : α) : List.take l.length ((l.map fun x => [c x]).map (List.map Cell.v)) ++ [[Cell.v (c x)]] = ((l ++ [x]).map fun x => [c x]).map (List.map .v) := by
 rw [List.take_of_length_le (by simp)]
 simp
theorem View.ovD {h : aB} {d : aD} (y : OV) (hd : y.qW = d) (ho : qN h y.rows) : View h y.val d := hd ▸ View.ov y ho
set_option linter.unusedVariables false
set_option linter.unusedSimpArgs false
theorem aSK {α : Type} {c : α → aD} {l : List α} {sz : Nat} {h : aB} (e : (l.map fun x => [c x]) = []) : ∃ r1 g l1, Shift .bH h r1 g ∧ QS (OS (oP c) sz l) (fun x => x) r1 l1 ∧ eU h l1 g := by
 obtain rfl : l = [] := by simpa using e
 exact ⟨_, _, _, Shift.of (Sub.nil sz true) (aB.le_refl _), ⟨.nil sz, OS.nil, rfl, rfl⟩, by rw [OV.mJ]; exact eU.nil h⟩
theorem aSL {α : Type} {c : α → aD} {l : List α} {sz : Nat} {h : aB} (e : (l.map fun x => [c x]) = []) : ∃ r1 g l1, Shift (.sl sz [] true) h r1 g ∧ QS (OS (oP c) sz l) (fun x => x) r1 l1 ∧ eU h l1 g := by
 obtain rfl : l = [] := by simpa using e
 exact ⟨_, _, _, bI _ _, ⟨.nil sz, OS.nil, rfl, rfl⟩, by rw [OV.mJ]; exact eU.nil h⟩
theorem w6 {α : Type} {c : α → aD} {l : List α} {sz n : Nat} {h : aB} (hn : h n = none) :
  ∃ r1 g l1, Shift (.os n sz 0 l.length) (aR h n (.row sz ((l.map fun x => [c x]).map (List.map .v)))) r1 g ∧ QS (OS (oP c) sz l) (fun x => x) r1 l1 ∧ eU h l1 g := by
 refine ⟨_, _, _, bI _ _, ⟨.sl n sz (l.map fun x => [.v (c x)]), OS.mk (uZ l), by simp [OV.val], rfl⟩, ?_⟩
 rw [OV.iJ, oW, mS]
 exact eU.one hn
def jR (sz len : Nat) : Option Nat → aD
 |none => .bH
 |some n => .os n sz 0 len
theorem kW (sz len : Nat) : jR sz len none = .bH := rfl
theorem bY (sz len n : Nat) : jR sz len (some n) = .os n sz 0 len := rfl
def yZ (g : aB) (es : List (List OV)) : Option Nat → Prop
 |none => es = []
 |some n => g n = none
theorem jZ (g : aB) (es : List (List OV)) : yZ g es none = (es = []) := rfl
theorem iK (g : aB) (es : List (List OV)) (n : Nat) : yZ g es (some n) = (g n = none) := rfl
def gov (sz : Nat) (es : List (List OV)) : Option Nat → OV
 |none => .nil sz
 |some n => .sl n sz es
theorem aXB (sz : Nat) (es : List (List OV)) : gov sz es none = .nil sz := rfl
theorem aHA (sz : Nat) (es : List (List OV)) (n : Nat) : gov sz es (some n) = .sl n sz es := rfl
theorem aHB {α : Type} {R : α → List OV → Prop} {sz : Nat} {l : List α} {es : List (List OV)} {g : aB} {o : Option Nat} (h : OR R l es) (hs : yZ g es o) : OS R sz l (gov sz es o) := by
 cases o with
 |none => rw [jZ] at hs; subst hs; exact .inl ⟨rfl, by have := h.length; simpa using this⟩
 |some n => exact OS.mk h
theorem aKX {sz : Nat} {es : List (List OV)} {o : Option Nat} : Sub (jR sz es.length o) (gov sz es o).val := by
 cases o with
 |none => exact Sub.nil _ _
 |some n => exact Sub.refl _
theorem aB1 {sz : Nat} {es : List (List OV)} {h g : aB} {o : Option Nat} (x : eU h (OV.b6 es) g) (hs : yZ g es o) : eU h (gov sz es o).rows (cK g (.row sz (OV.cells es)) o) := by
 cases o with
 |none => rw [jZ] at hs; subst hs; rw [aXB, OV.mJ, aO]; simpa [OV.b6] using x
 |some n => rw [aHA, OV.iJ, aJ]; exact x.row hs
theorem dW (es : List (List OV)) : List.take es.length (OV.cells es) = OV.cells es := List.take_of_length_le (by simp [OV.cells])
theorem gG (es : List (List OV)) (e : List OV) : OV.cells (es ++ [e]) = OV.cells es ++ [e.map fun c => Cell.v c.val] := by rw [aKW]; rfl
theorem iT (e : List OV) : OV.cells [e] = [e.map fun c => Cell.v c.val] := rfl
theorem mT (sz len : Nat) (o : Option Nat) : (jR sz len o).flat = true := by cases o <;> rfl
theorem cA (es : List (List OV)) : (OV.cells es).length = es.length := by simp [OV.cells]
theorem eU.snoc {h g g1 : aB} {es : List (List OV)} {e : List OV} (x : eU h (OV.b6 es) g) (y : eU g (OV.bT e) g1) : eU h (OV.b6 (es ++ [e])) g1 := by
 rw [aIV]; exact x.append y
theorem iL {g : aB} {R : bP} {o : Option Nat} {m : Nat} (hg : g m = none) (hon : ∀ n, o = some n → ¬ n = m) : cK g R o m = none := by
 cases o with
 |none => exact hg
 |some n =>
  have := hon n rfl
  rw [aJ, aA _ _ _ _ fun e => this e.symm]; exact hg
theorem iU : OV.cells [] = [] := rfl
theorem bR {n m : Nat} {g : aB} {x y : bP} (h : ¬ n = m) : aR (aR g n x) m y = aR (aR g m y) n x := by
 funext q; simp only [c6]; split <;> split <;> simp_all
def aB.wk (g h : aB) : Prop := ∀ E w, Rel E h w → Rel E g w ∧ ∀ b, o7 E h w b → o7 E g w b
theorem aB.jN {g h : aB} (hl : g.le h) : g.wk h := fun E w R => ⟨R.forget hl, fun b i => o7.le hl i⟩
theorem aB.wk.trans {a b c : aB} (x : a.wk b) (y : b.wk c) : a.wk c := fun E w R =>
 ⟨(x E w (y E w R).1).1, fun d i => (x E w (y E w R).1).2 d ((y E w R).2 d i)⟩
theorem aB.wk.ev {g h : aB} (x : g.wk h) {E : Env} {w : World} (R : Rel E h w) : Ev E h w E g w :=
 ⟨Nat.le_refl _, fun b hb => ⟨rfl, (x E w R).2 b hb⟩, fun _ _ => rfl, fun _ hn => ⟨rfl, hn⟩, rfl, rfl⟩
theorem pN.wk {P : Program} {N : Nat} {c : Code} {Q : Exit → bL → aB → Prop} {τ : bL} {h g : aB} (hl : g.wk h) (x : pN P N c Q τ g) : pN P N c Q τ h :=
 fun ds E w a R r => Code.wp_mono (fun e a' w' y => r7.trans (hl.ev R) y) (x ds E w a (hl E w R).1 (r.ev (hl.ev R)))
theorem pN.aB2 {P : Program} {N : Nat} {c : Code} {Q : Exit → bL → aB → Prop} {τ : bL} {h : aB} {α : Type} (S : α → bL) (H : α → aB) (side : α → Prop) (μ : α → Nat) (x₀ : α)
  (h₀ : cV (S x₀) τ ∧ (H x₀).wk h ∧ side x₀)
  (round : ∀ x, side x → pN P N c (vP (fun τ' h' => ∃ x', cV (S x') τ' ∧ (H x').wk h' ∧ side x' ∧ μ x' < μ x) Q) (S x) (H x)) : pN P N (.loop c) Q τ h :=
 pN.loop (fun x τ h => cV (S x) τ ∧ (H x).wk h ∧ side x) μ x₀ h₀ fun x τ h ⟨h1, h2, h3⟩ =>
  pN.wk h2 (pN.weaken h1 (aB.le_refl _) ((round x h3).mono fun e τ h q => by
   cases e <;> simp only [vP] at q ⊢ <;> first | exact q | (obtain ⟨x', a, b, c, d⟩ := q; exact ⟨x', ⟨a, b, c⟩, d⟩)))
theorem aB2 {P : Program} {N : Nat} {keep ib : List Nat} {mk : Marks} {c : Code} {Q : Exit → bL → aB → Prop} {τ : bL} {h : aB} {t : Tag (Code.loop c, Q)} {α : Type} (hmix : P.follows .mixedOrders = true) (hc : j6 N mk c = true) (S : α → bL) (H : α → aB) (side : α → Prop) (μ : α → Nat) (x₀ : α)
  (h₀ : cV (S x₀) τ ∧ (H x₀).wk h ∧ side x₀)
  (round : ∀ x, side x → rO P N keep ib mk c (fun τ' h' => ∃ x', cV (S x') τ' ∧ (H x').wk h' ∧ side x' ∧ μ x' < μ x) Q (S x) (H x) ()) : aKR P N (.loop c) Q τ h t :=
 pN.aB2 S H side μ x₀ h₀ fun x hx => aGZ hmix c _ _ _ _ hc (round x hx)
def y3 (x y : Cell) : Prop := ∀ E h w c S, uU E h w x c S → uU E h w y c S
theorem y3.refl (x : Cell) : y3 x x := fun _ _ _ _ _ r => r
theorem y3.v {x y : aD} (s : Sub x y) : y3 (.v x) (.v y) := fun E h w c S r => by
 cases r with
 |v _ _ _ h1 hx => exact .v _ _ _ h1 (s _ _ _ _ hx)
def mW : List (List Cell) → List (List Cell) → Prop
 | [], [] => True
 |a :: l, b :: m => (a.length = b.length ∧ ∀ (j : Nat) (x : Cell), b[j]? = some x → ∃ y, a[j]? = some y ∧ y3 y x) ∧ mW l m
 | _, _ => False
theorem mW.last {a b : List Cell} (hl : a.length = b.length) (hc : ∀ (j : Nat) (x : Cell), b[j]? = some x → ∃ y, a[j]? = some y ∧ y3 y x) : ∀ l, mW (l ++ [a]) (l ++ [b])
 | [] => ⟨⟨hl, hc⟩, trivial⟩
 |c :: l => ⟨⟨rfl, fun j x h => ⟨x, h, .refl x⟩⟩, mW.last hl hc l⟩
theorem mW.length : ∀ {l m}, mW l m → l.length = m.length
 | [], [], _ => rfl
 |a :: l, b :: m, h => by rw [List.length_cons, List.length_cons, mW.length h.2]
 | [], _ :: _, h => h.elim
 | _ :: _, [], h => h.elim
theorem mW.size {sz : Nat} : ∀ {l m}, mW l m → (∀ e ∈ l, e.length = sz) → ∀ e ∈ m, e.length = sz
 | [], [], _, _ => by simp
 |a :: l, b :: m, h, hs => fun e he => by
  rcases List.mem_cons.1 he with rfl | he
  ·rw [← h.1.1]; exact hs a List.mem_cons_self
  ·exact mW.size h.2 (fun e he => hs e (List.mem_cons_of_mem _ he)) e he
 | [], _ :: _, h, _ => h.elim
 | _ :: _, [], h, _ => h.elim
theorem mW.iZ : ∀ {l m} (i j : Nat) (x : Cell), mW l m → Hl.iZ m i j = some x → ∃ y, Hl.iZ l i j = some y ∧ y3 y x
 | [], [], i, j, x, _, h => by simp [Hl.iZ] at h
 |a :: l, b :: m, 0, j, x, w, h => by simp only [Hl.iZ, List.getElem?_cons_zero, Option.bind_some] at h ⊢; exact w.1.2 j x h
 |a :: l, b :: m, i + 1, j, x, w, h => by simp only [Hl.iZ, List.getElem?_cons_succ] at h ⊢; exact mW.iZ i j x w.2 h
 | [], _ :: _, _, _, _, w, _ => w.elim
 | _ :: _, [], _, _, _, w, _ => w.elim
theorem aB.a8O {g h : aB} {m sz : Nat} {es es' : List (List Cell)} (hg : ∀ q, q ≠ m → g q = h q) (hm : h m = some (.row sz es)) (gm : g m = some (.row sz es')) (hw : mW es es') : g.wk h := fun E w R => by
 have live : ∀ q o, g q = some o → ∃ o', h q = some o' ∧ (o.live → o'.live) := fun q o ho => by
  by_cases e : q = m
  ·subst e; exact ⟨_, hm, fun _ => trivial⟩
  ·rw [hg q e] at ho; exact ⟨o, ho, id⟩
 have live' : ∀ q o, h q = some o → ∃ o', g q = some o' ∧ (o.live → o'.live) := fun q o ho => by
  by_cases e : q = m
  ·subst e; exact ⟨_, gm, fun _ => trivial⟩
  ·rw [← hg q e] at ho; exact ⟨o, ho, id⟩
 have qR : ∀ b, o7 E h w b → o7 E g w b := fun b i => ⟨i.1, fun q o ho hl => by
  obtain ⟨o', h1, h2⟩ := live q o ho; exact i.2 q o' h1 (h2 hl)⟩
 refine ⟨⟨R.fin, fun n hn => R.dom n fun e => ?_, fun n o b hn hl => ?_, fun n o n' o' b hn hl hn' hl' => ?_, fun n o hn => ?_, R.laid.qR qR⟩, qR⟩
 ·by_cases e2 : n = m
  ·subst e2; rw [hm] at e; cases e
  ·rw [hg n e2] at hn; exact hn e
 ·obtain ⟨o2, h1, h2⟩ := live n o hn
  exact R.lt n o2 b h1 (h2 hl)
 ·obtain ⟨o2, h1, h2⟩ := live n o hn
  obtain ⟨o3, h3, h4⟩ := live n' o' hn'
  exact R.apart n o2 n' o3 b h1 (h2 hl) h3 (h4 hl')
 ·by_cases e : n = m
  ·subst e
   rw [gm] at hn
   obtain rfl := Option.some.inj hn
   rcases R.obj n _ hm with ⟨b, o2, hl, ra⟩ | ⟨he, hl⟩
   ·refine .inl ⟨b, o2, hl, ra.hb, hw.size ra.size, ?_⟩
    obtain ⟨cs, t, cv, T, h1, h2, h3, h4, h5, h6⟩ := ra.mem
    refine ⟨cs, t, cv, T, h1, by rw [← hw.length]; exact h2, h3, h4, fun i j x hx => ?_, fun i j x hx => ?_⟩
    ·obtain ⟨y, hy, _⟩ := hw.iZ i j x hx; exact h5 i j y hy
    ·obtain ⟨y, hy, hyx⟩ := hw.iZ i j x hx; exact (hyx _ _ _ _ _ (h6 i j y hy)).qR qR
   ·subst he
    have : es' = [] := by have := hw.length; simp at this; exact List.length_eq_zero_iff.1 this.symm
    exact .inr ⟨this, hl⟩
  ·rw [hg n e] at hn
   exact (R.obj n o hn).qR qR
theorem mW.sub {xs ys : List aD} (s : gE xs ys) (A : List (List Cell)) : mW (A ++ [xs.map .v]) (A ++ [ys.map .v]) := by
 refine mW.last (by simpa using s.1) (fun j x hx => ?_) A
 rw [List.getElem?_map, Option.map_eq_some_iff] at hx
 obtain ⟨y, hy, rfl⟩ := hx
 have hlt : j < ys.length := (List.getElem?_eq_some_iff.1 hy).1
 have hxl : j < xs.length := by rw [s.1]; exact hlt
 have hx2 : xs[j]? = some xs[j] := List.getElem?_eq_getElem hxl
 exact ⟨.v xs[j], by rw [List.getElem?_map, hx2]; rfl, y3.v (s.2 j _ _ hx2 hy)⟩
set_option linter.unusedVariables false
set_option linter.unusedSimpArgs false
theorem eU.field {h g g' : aB} {A l l' B : List (Nat × bP)} (x : eU h (A ++ (l ++ B)) g) (c : Chg g g' l l') : eU h (A ++ (l' ++ B)) g' := x.chg (Chg.mid x.oV x.nodup c)
abbrev Q4 := Option (Nat × Nat × Nat × Nat)
def q1 : Q4 → Option Nat | none => none | some x => some x.1
def q2 : Q4 → Option Nat | none => none | some x => some x.2.1
def q3 : Q4 → Option Nat | none => none | some x => some x.2.2.1
def q4 : Q4 → Option Nat | none => none | some x => some x.2.2.2
theorem OR.a8P {α : Type} {R : α → List OV → Prop} {x : α} {e : List OV} (h : R x e) : ∀ k, OR R (List.replicate k x) (List.replicate k e)
 |0 => trivial
 |k + 1 => ⟨h, OR.a8P h k⟩
def a53 (R : List OV → Prop) (z : List aD) : Prop := ∃ e, R e ∧ OV.bT e = [] ∧ Sub (.agg z) (.agg (e.map OV.val))
def a8Q (w : aD → aD) : Prop := ∀ x y, Sub x y → Sub (w x) (w y)
theorem aSM : a8Q fun x => x := fun _ _ s => s
theorem gE.mid {x y : aD} (s : Sub x y) (b : List aD) : ∀ a : List aD, gE (a ++ x :: b) (a ++ y :: b)
 | [] => .cons s (.refl b)
 |z :: a => .cons (.refl z) (gE.mid s b a)
theorem aB3 (a b : List aD) : a8Q fun x => .iI (a ++ x :: b) := fun _ _ s => Sub.iI (gE.mid s b a)
theorem vV {R : List OV → Prop} {w : aD → aD} {z : List aD} {h h' : aB} (hz : a53 R z) (hw : a8Q w) (hl : h.le h') : ∃ r1 g l, Shift (w (.agg z)) h' r1 g ∧ QA R w r1 l ∧ eU h l g := by
 obtain ⟨e, h1, h2, h3⟩ := hz
 exact ⟨_, h, _, Shift.of (hw _ _ h3) hl, ⟨e, h1, rfl, h2.symm⟩, eU.nil h⟩
theorem a1T {R : List OV → Prop} {w : aD → aD} {e : List OV} {h h' g : aB} (hR : R e) (hn : eU h (OV.bT e) g) (hl : g.le h') : ∃ r1 g l, Shift (w (.agg (e.map OV.val))) h' r1 g ∧ QA R w r1 l ∧ eU h l g :=
 ⟨_, g, _, Shift.of (Sub.refl _) hl, ⟨e, hR, rfl, rfl⟩, hn⟩
theorem vB {α : Type} (c : α → aD) (l : List α) (k : Nat) (x : α) : ((l.map fun x => [c x]).map (List.map Cell.v)).set k [Cell.v (c x)] = ((l.set k x).map fun x => [c x]).map (List.map Cell.v) := by
 rw [List.map_map, List.map_map, List.map_set]; rfl
theorem OR.aOJ {α : Type} {c : α → aD} : ∀ {l : List α} {es : List (List OV)}, OR (oP c) l es → es = l.map fun x => [.v (c x)]
 | [], [], _ => rfl
 |x :: l, e :: es, h => by rw [List.map_cons, ← OR.aOJ h.2, show e = [.v (c x)] from h.1]
 | [], _ :: _, h => h.elim
 | _ :: _, [], h => h.elim
theorem OS.aOJ {α : Type} {c : α → aD} {sz : Nat} {l : List α} {y : OV} (h : OS (oP c) sz l y) : (y = .nil sz ∧ l = []) ∨ ∃ n, y = .sl n sz (l.map fun x => [.v (c x)]) := by
 rcases h with h | ⟨n, es, rfl, h⟩
 ·exact .inl h
 ·exact .inr ⟨n, by rw [h.aOJ]⟩
theorem OV.vW {α : Type} (c : α → aD) (n sz : Nat) (l : List α) : (OV.sl n sz (l.map fun x => [.v (c x)])).val = .os n sz 0 l.length := by rw [OV.vA, List.length_map]
theorem eU.aSN {h g : aB} (e1 : List OV) {e2 : List OV} {n sz : Nat} {es : List (List OV)} (x : eU h (OV.bT (e1 ++ OV.sl n sz es :: e2)) g) : g n = some (.row sz (OV.cells es)) :=
 x.oV (n, _) (by rw [OV.p7, OV.dQ, OV.iJ]; simp)
theorem oY {P : Program} {N : Nat} {keep ib : List Nat} {mk : Marks} {c : Code} {Q : Exit → bL → aB → Prop} {τ : bL} {h : aB} {t : Tag (Code.loop c, Q)} {α : Type} (hmix : P.follows .mixedOrders = true) (hc : j6 N mk c = true) (S : α → bL) (side : α → Prop) (μ : α → Nat) (x₀ : α)
  (h₀ : cV (S x₀) τ ∧ side x₀)
  (round : ∀ x, side x → rO P N keep ib mk c (fun τ' h' => ∃ x', cV (S x') τ' ∧ h.le h' ∧ side x' ∧ μ x' < μ x) Q (S x) h ()) : aKR P N (.loop c) Q τ h t :=
 cS hmix hc S (fun _ => h) side μ x₀ ⟨h₀.1, aB.le_refl _, h₀.2⟩ round
theorem rQ {h : aB} {n : Nat} {o : bP} (hn : h n = some o) : aR h n o = h := by
 funext q; simp only [c6]; split
 ·subst_vars; exact hn.symm
 ·rfl
theorem tX {P : Program} {N : Nat} {keep ib : List Nat} {mk : Marks} {c : Code} {Q : Exit → bL → aB → Prop} {τ : bL} {h : aB} {t : Tag (Code.loop c, Q)} {α : Type} (hmix : P.follows .mixedOrders = true) (hc : j6 N mk c = true) (S : α → bL) (n : Nat) (R : α → bP) (side : α → Prop) (μ : α → Nat) (x₀ : α)
  (h₀ : cV (S x₀) τ ∧ h n = some (R x₀) ∧ side x₀)
  (round : ∀ x, side x → rO P N keep ib mk c (fun τ' h' => ∃ x', cV (S x') τ' ∧ (aR h n (R x')).le h' ∧ side x' ∧ μ x' < μ x) Q (S x) (aR h n (R x)) ()) : aKR P N (.loop c) Q τ h t :=
 cS hmix hc S (fun x => aR h n (R x)) side μ x₀ ⟨h₀.1, by simp only [rQ h₀.2.1]; exact aB.le_refl _, h₀.2.2⟩ round
theorem aB.hZ {g h : aB} {n : Nat} {o : bP} (hl : g.le h) : (aR g n o).le (aR h n o) := fun q => by
 simp only [c6]; split
 ·exact .inr rfl
 ·exact hl q
theorem eU.base {h g : aB} {l : List (Nat × bP)} {n : Nat} {o : bP} (w : eU (aR h n o) l g) (hn : h n = none) : ∃ g', g'.le g ∧ eU h l g' ∧ g' n = none ∧ g = aR g' n o := by
 have hne : ∀ m ∈ bE l, m ≠ n := fun m hm e => by
  have := w.fresh m hm
  rw [e, aG] at this; cases this
 have hg : g n = some o := by
  rw [w.upto n (fun hm => hne n hm rfl), aG]
 refine ⟨fun m => if m = n then none else g m, fun m => ?_, ⟨w.nodup, fun m hm => ?_, fun p hp => ?_, fun m hm => ?_⟩, by simp, ?_⟩
 ·by_cases e : m = n <;> simp [e]
 ·have := w.fresh m hm; rwa [aA _ _ _ _ (hne m hm)] at this
 ·simp only [if_neg (hne p.1 (dD.2 ⟨p.2, hp⟩))]; exact w.oV p hp
 ·show (if m = n then none else g m) = h m
  split
  ·subst_vars; exact hn.symm
  ·rename_i e; rw [w.upto m hm, aA _ _ _ _ e]
 ·funext m; simp only [c6]; split
  ·subst_vars; exact hg
  ·rename_i e; simp
theorem View.box {T : List aD} {g : aB} {nb sz : Nat} {e : List OV} (hd : e.map OV.qW = T) (hn : g nb = none) (ho : qN g (OV.bT e)) : View (aR g nb (.row sz (OV.cells [e]))) (.op nb sz 0 0) (.ip sz [T] 0 0) := by
 have := View.op (h := aR g nb (.row sz (OV.cells [e]))) (n := nb) (sz := sz) (i := 0) (off := 0) [e] (by rw [aG]) (by simp) (by
  have h1 : OV.b6 [e] = OV.bT e := by simp [OV.b6]
  rw [h1]; exact ho.up hn)
 have h2 : OV.k7 [e] = [T] := by rw [OV.nL]; simp [hd]
 rwa [h2] at this
theorem eU.le {h g : aB} {l : List (Nat × bP)} (w : eU h l g) : h.le g := fun q => by
 by_cases hq : q ∈ bE l
 ·exact .inl (w.fresh q hq)
 ·exact .inr (w.upto q hq).symm
theorem aU6 {α : Type} {A B : List α} {x y : α} : (A ++ x :: B).set A.length y = A ++ y :: B := by simp
theorem eU.bFO {h g g2 : aB} (e1 : List OV) {e2 : List OV} {n sz : Nat} {es : List (List OV)} {k : Nat} {enew : List OV} (x : eU h (OV.bT (e1 ++ OV.sl n sz es :: e2)) g) (y : eU g (OV.bT enew) g2) (hk : k < es.length) :
  ∃ g3, g3.le (aR g2 n (.row sz (OV.cells (es.set k enew)))) ∧ eU h (OV.bT (e1 ++ OV.sl n sz (es.set k enew) :: e2)) g3 := by
 obtain ⟨A, old, B, rfl, hA⟩ : ∃ A old B, es = A ++ old :: B ∧ A.length = k := ⟨es.take k, es[k], es.drop (k + 1), by simp, by simp; omega⟩
 subst hA
 rw [aU6]
 have z := x.append y
 rw [OV.p7, OV.dQ, OV.iJ, sO, oX] at z
 have z2 := z.perm (b := OV.bT old ++ (OV.bT e1 ++ ((n, .row sz (OV.cells (A ++ old :: B))) :: (OV.b6 A ++ (OV.bT enew ++ OV.b6 B)) ++ OV.bT e2))) (by
  classical
  rw [List.perm_iff_count]
  intro q
  simp only [List.count_append, List.cons_append, List.count_cons]
  omega)
 have z3 := z2.drop
 refine ⟨aR (qP g2 (bE (OV.bT old))) n (.row sz (OV.cells (A ++ enew :: B))), aB.hZ (aG5 _ _), ?_⟩
 rw [OV.p7, OV.dQ, OV.iJ, sO, oX]
 exact z3.field (l := (n, .row sz (OV.cells (A ++ old :: B))) :: (OV.b6 A ++ (OV.bT enew ++ OV.b6 B))) (Chg.set z3.oV.right.left (aU5 z3.nodup))
theorem aOK (es : List (List OV)) (k : Nat) (e : List OV) (c : List Cell) (hc : c = e.map fun c => Cell.v c.val) : (OV.cells es).set k c = OV.cells (es.set k e) := by
 rw [hc, OV.cells, OV.cells, List.map_set]
theorem aDW {es : List (List OV)} {k : Nat} {e : List OV} (h : es[k]? = some e) : (OV.cells es)[k]? = some (e.map fun c => Cell.v c.val) := by
 rw [OV.cells, List.getElem?_map, h]; rfl
theorem OR.a1U {α : Type} {R : α → List OV → Prop} : ∀ {l : List α} {es : List (List OV)}, OR R l es → ∀ (k : Nat) x, l[k]? = some x → ∃ e, es[k]? = some e ∧ R x e
 | [], [], _, k, x, h => by simp at h
 |a :: l, b :: es, h, 0, x, e => by simp at e; subst e; exact ⟨b, rfl, h.1⟩
 |a :: l, b :: es, h, k + 1, x, e => OR.a1U h.2 k x (by simpa using e)
 | [], _ :: _, h, _, _, _ => h.elim
 | _ :: _, [], h, _, _, _ => h.elim
theorem OR.set {α : Type} {R : α → List OV → Prop} : ∀ {l : List α} {es : List (List OV)}, OR R l es → ∀ (k : Nat) x e, R x e → OR R (l.set k x) (es.set k e)
 | [], [], _, k, x, e, _ => by simp [OR]
 |a :: l, b :: es, h, 0, x, e, he => ⟨he, h.2⟩
 |a :: l, b :: es, h, k + 1, x, e, he => ⟨h.1, OR.set h.2 k x e he⟩
 | [], _ :: _, h, _, _, _, _ => h.elim
 | _ :: _, [], h, _, _, _, _ => h.elim
theorem OS.some {α : Type} {R : α → List OV → Prop} {sz : Nat} {l : List α} {y : OV} (h : OS R sz l y) (hl : 0 < l.length) : ∃ n es, y = .sl n sz es ∧ OR R l es := by
 rcases h with ⟨_, h⟩ | h
 ·rw [h] at hl; simp at hl
 ·exact h
def leX (S : List Nat) (g h : aB) : Prop := ∀ q, q ∉ S → g q = none ∨ g q = h q
theorem j7 {g h : aB} (x : leX [] g h) : g.le h := fun q => x q (by simp)
theorem iM (S : List Nat) (g : aB) : leX S g g := fun q _ => .inr rfl
theorem j8 {S : List Nat} {g h : aB} {n : Nat} {o : bP} (hn : h n = some o) (x : leX (n :: S) g h) : leX S (aR g n o) h := fun q hq => by
 simp only [c6]; split
 ·subst_vars; exact .inr hn.symm
 ·rename_i e; exact x q (by simp only [List.mem_cons, not_or]; exact ⟨e, hq⟩)
theorem gB {S : List Nat} {g h : aB} {n : Nat} {o : bP} (hn : n ∈ S ∨ g n = none) (x : leX S g h) : leX S g (aR h n o) := fun q hq => by
 simp only [c6]; split
 ·subst_vars
  rcases hn with hn | hn
  ·exact absurd hn hq
  ·exact .inl hn
 ·exact x q hq
theorem aB4 {R : List OV → Prop} {w : aD → aD} {e : List OV} {h h' g : aB} {r : aD} (hr : r = w (.agg (e.map OV.val))) (hR : R e) (hn : eU h (OV.bT e) g) (hl : g.le h') : ∃ r1 g l, Shift r h' r1 g ∧ QA R w r1 l ∧ eU h l g := by
 rw [hr]; exact a1T hR hn hl
theorem aB.le_none {g h : aB} (hl : g.le h) {n : Nat} (hn : h n = none) : g n = none := by
 rcases hl n with e | e
 ·exact e
 ·rw [e, hn]
theorem iH.wk {P : Program} {f : FuncId} {args : List aD} {g h : aB} {K : aD → aB → Prop} (hl : g.wk h) (a : iH P f args g K) : iH P f args h K :=
 ⟨a.1, fun E w vs R r => by
  obtain ⟨R', hi⟩ := hl E w R
  exact (a.2 E w vs R' (dV.qR hi r)).mono fun e w' q => by
   cases e with
   |returned v =>
    obtain ⟨r, h', E', k, ev, R2, r2⟩ := q
    exact ⟨r, h', E', k, (hl.ev R).trans ev, R2, r2⟩
   | _ => exact q.elim⟩
theorem aH.wk {P : Program} {f : FuncId} {args : List aD} {g h : aB} {K : aD → aB → Prop} {t : Tag K} (hl : g.wk h) (a : aH P f args g K t) : aH P f args h K t := iH.wk hl a
theorem iH.shift {P : Program} {f : FuncId} {args : List aD} {h : aB} {K K' : aD → aB → Prop} (a : iH P f args h K') (hk : ∀ r h', K' r h' → ∃ g : aB, g.wk h' ∧ K r g) : iH P f args h K :=
 ⟨a.1, fun E w vs R r => by
  exact (a.2 E w vs R r).mono fun e w' q => by
   cases e with
   |returned v =>
    obtain ⟨r, h', E', k, ev, R2, r2⟩ := q
    obtain ⟨g, hg, k'⟩ := hk r h' k
    obtain ⟨R3, hi⟩ := hg E' w' R2
    exact ⟨r, g, E', k', ev.trans (hg.ev R2), R3, fD.qR hi r2⟩
   | _ => exact q.elim⟩
def upL (c : List Int) (k : Nat) : List Int := c.take k ++ List.replicate (c.length - k) 0
theorem aB5 (c : List Int) : upL c 0 = List.replicate c.length 0 := by simp [upL]
theorem aFH (c : List Int) : upL c c.length = c := by simp [upL]
theorem aFI (c : List Int) {k : Nat} (hk : k ≤ c.length) : (upL c k).length = c.length := by simp [upL]; omega
theorem aFJ {c : List Int} {k : Nat} (hk : k < c.length) : (upL c k)[k]? = some 0 := by
 have h1 : (c.take k).length = k := by rw [List.length_take]; omega
 rw [upL, List.getElem?_append_right (by omega), h1, Nat.sub_self, List.getElem?_replicate, if_pos (by omega)]
theorem aFK {c : List Int} {k : Nat} (hk : k < c.length) : (upL c k).set k c[k] = upL c (k + 1) := by
 have h1 : (c.take k).length = k := by rw [List.length_take]; omega
 rw [upL, upL, List.set_append_right _ _ (by omega), h1, Nat.sub_self, List.take_succ_eq_append_getElem hk, show c.length - k = (c.length - (k + 1)) + 1 by omega, List.replicate_succ, List.set_cons_zero, List.append_assoc, List.singleton_append]
theorem rL (n : Nat) : (List.replicate n [aD.int .i64 0]).map (List.map Cell.v) = ((List.replicate n (0 : Int)).map fun n => [aD.int .i64 n]).map (List.map Cell.v) := by simp
set_option linter.unusedVariables false
set_option linter.unusedSimpArgs false
theorem j4 {P : Program} {f : FuncId} {fn : Func} {c : Code} (N : Nat) (keep ib : List Nat) (mk : Marks) {args : List aD} {h : aB} {K : aD → aB → Prop} (hmix : P.follows .mixedOrders = true) (hf : P.funcs[f]? = some fn) (hb : fn.body = some c)
  (hck : (mI P f && decide (fn.ntmps = N) && j6 N mk c) = true) (hl : args.length ≤ N)
  (hw : rO P N keep ib mk c (fun τ h' => tG P fn.results (fun r h' => ∃ r1 g, Shift r h' r1 g ∧ K r1 g) () .normal τ h') (tG P fn.results (fun r h' => ∃ r1 g, Shift r h' r1 g ∧ K r1 g) ()) (tD 0 args) h ()) : iH P f args h K :=
 tF (fn := fn) (c := c) (N := N) (aGW N keep ib mk hmix hf hb hck hl (K' := fun r h' => ∃ r1 g, Shift r h' r1 g ∧ K r1 g) (K := fun r h' => ∃ r1 g, Shift r h' r1 g ∧ K r1 g) hw fun _ h' hx => ⟨h', aB.le_refl _, hx⟩) fun r h' hx => hx
theorem dV.r5 {E : Env} {h : aB} {w : World} (R : Rel E h w) {n sz : Nat} {es : List (List Cell)} (hn : h n = some (.row sz es)) : ∀ {xs : List aD} {vs : List Value}, dV E h w xs vs → fZ n sz es.length xs = true → dV E (aR h n .gone) w (lV n (eT es) xs) vs
 | [], [], _, _ => trivial
 |x :: xs, v :: vs, r, hb => by
  simp only [fZ, Bool.and_eq_true] at hb
  exact ⟨r.1.r5 R hn hb.1, dV.r5 R hn r.2 hb.2⟩
 | [], _ :: _, r, _ => r.elim
 | _ :: _, [], r, _ => r.elim
theorem aH.aU7 {P : Program} {f : FuncId} {args : List aD} {h : aB} {K : aD → aB → Prop} {t : Tag K} (n : Nat) {sz : Nat} {es : List (List Cell)} (hn : h n = some (.row sz es)) (hb : fZ n sz es.length args = true)
  (a : iH P f (lV n (eT es) args) (aR h n .gone) K) : aH P f args h K t :=
 ⟨a.1, fun E w vs R r => (a.2 E w vs (R.gone hn) (r.r5 R hn hb)).mono fun e w' q => by
  cases e with
  |returned v =>
   obtain ⟨r, h', E', k, ev, R2, r2⟩ := q
   exact ⟨r, h', E', k, (Ev.gone n).trans ev, R2, r2⟩
  | _ => exact q.elim⟩
set_option linter.unusedVariables false
set_option linter.unusedSimpArgs false
def Cell.xZ (n : Nat) (es : List (List aD)) : Cell → Cell
 | .v x => .v (x.fE n es)
 | .own sz ys => .own sz ys
theorem aJN (m : Nat) (vs : List (List aD)) (es : List (List Cell)) (i j : Nat) : iZ (es.map (List.map (Cell.xZ m vs))) i j = (iZ es i j).map (Cell.xZ m vs) := p0 _ _ _ _
theorem aB.aTH {h : aB} {m b sz sz2 : Nat} {es es2 : List (List Cell)} (hm : h m = some (.row sz es)) (hb : h b = some (.row sz2 es2)) (hne : ¬ b = m) (hok : ∀ i j x, iZ es2 i j = some (.v x) → fY m sz es.length x = true) :
  (aR (aR h m .gone) b (.row sz2 (es2.map (List.map (Cell.xZ m (eT es)))))).wk h := fun E w R => by
 have R1 := R.gone hm
 have sQ : (aR h m .gone) b = some (.row sz2 es2) := by rw [aA _ _ _ _ hne]; exact hb
 have h0 : ∀ b, o7 E h w b → o7 E (aR h m .gone) w b := fun b => yF m b

 have hrow := R.obj b _ hb
 have h1b : aF7 E h w ((E.loc b).getD (0, 0)).1 ((E.loc b).getD (0, 0)).2 sz2 es2 (E.fp b) ∨ es2 = [] := by
  rcases hrow with ⟨k, o2, hlc, ra⟩ | ⟨he, _⟩
  ·left; rw [hlc]; exact ra
  ·exact .inr he
 have R2 : Rel E (aR (aR h m .gone) b (.row sz2 (es2.map (List.map (Cell.xZ m (eT es)))))) w ∧ ∀ q, o7 E (aR h m .gone) w q → o7 E (aR (aR h m .gone) b (.row sz2 (es2.map (List.map (Cell.xZ m (eT es)))))) w q := by
  have live : ∀ q o, aR (aR h m .gone) b (.row sz2 (es2.map (List.map (Cell.xZ m (eT es))))) q = some o → ∃ o', (aR h m .gone) q = some o' ∧ (o.live → o'.live) := fun q o ho => by
   by_cases e : q = b
   ·subst e; exact ⟨_, sQ, fun _ => trivial⟩
   ·rw [aA _ _ _ _ e] at ho; exact ⟨o, ho, id⟩
  have qR : ∀ q, o7 E (aR h m .gone) w q → o7 E (aR (aR h m .gone) b (.row sz2 (es2.map (List.map (Cell.xZ m (eT es)))))) w q := fun q i => ⟨i.1, fun n o ho hl => by
   obtain ⟨o', h1, h2⟩ := live n o ho; exact i.2 n o' h1 (h2 hl)⟩
  refine ⟨⟨R1.fin, fun n hn => R1.dom n fun e => ?_, fun n o c hn hl => ?_, fun n o n' o' c hn hl hn' hl' => ?_, fun n o hn => ?_, R1.laid.qR qR⟩, qR⟩
  ·by_cases e2 : n = b
   ·subst e2; rw [sQ] at e; cases e
   ·rw [aA _ _ _ _ e2] at hn; exact hn e
  ·obtain ⟨o2, h1, h2⟩ := live n o hn
   exact R1.lt n o2 c h1 (h2 hl)
  ·obtain ⟨o2, h1, h2⟩ := live n o hn
   obtain ⟨o3, h3, h4⟩ := live n' o' hn'
   exact R1.apart n o2 n' o3 c h1 (h2 hl) h3 (h4 hl')
  ·by_cases e : n = b
   ·subst e
    rw [aG] at hn
    obtain rfl := Option.some.inj hn
    rcases hrow with ⟨k, o2, hlc, ra⟩ | ⟨he, hlc⟩
    ·refine .inl ⟨k, o2, hlc, ra.hb, fun e he => ?_, ?_⟩
     ·obtain ⟨e', he', rfl⟩ := List.mem_map.1 he
      rw [List.length_map]; exact ra.size e' he'
     obtain ⟨cs, t, cv, T, h1, h2, h3, h4, h5, h6⟩ := ra.mem
     refine ⟨cs, t, cv, T, h1, by rw [List.length_map]; exact h2, h3, h4, fun i j x hx => ?_, fun i j x hx => ?_⟩
     ·rw [aJN] at hx
      obtain ⟨y, hy, rfl⟩ := Option.map_eq_some_iff.1 hx
      exact h5 i j y hy
     ·rw [aJN] at hx
      obtain ⟨y, hy, rfl⟩ := Option.map_eq_some_iff.1 hx
      have hr := h6 i j y hy
      cases y with
      |v y =>
       cases hr with
       |v _ _ _ k1 k2 =>
        exact .v _ _ _ k1 ((k2.r5 R hm (hok i j y hy)).qR qR)
      |own s ys => exact (hr.qR h0).qR qR
    ·subst he
     exact .inr ⟨rfl, hlc⟩
   ·rw [aA _ _ _ _ e] at hn
    exact (R1.obj n o hn).qR qR
 exact ⟨R2.1, fun q i => R2.2 q (h0 q i)⟩
set_option linter.unusedVariables false
set_option linter.unusedSimpArgs false
def oL {α : Type} (c : α → aD) (l : List α) (e : List OV) : Prop := ∃ y, e = [y] ∧ OS (oP c) 1 l y
theorem aYO {α : Type} {c : α → aD} {l : List α} {e : List OV} (h : oL c l e) : e.map OV.qW = [.sl 1 (l.map fun x => [c x]) false] := by
 obtain ⟨y, rfl, hy⟩ := h
 rw [List.map_cons, List.map_nil, OS.qW (c := fun x => [c x]) (fun _ _ q => yW q) hy]
theorem eU.a6Y {α : Type} {c : α → aD} {h g : aB} {b k n : Nat} {es : List (List OV)} {l : List α} (X : eU h (OV.bT [OV.sl b 1 es]) g) (hk : es[k]? = some [OV.sl n 1 (l.map fun x => [.v (c x)])]) :
  g n = some (.row 1 ((l.map fun x => [c x]).map (List.map .v))) ∧ ¬ n = b := by
 have hmem : (n, bP.row 1 ((l.map fun x => [c x]).map (List.map .v))) ∈ OV.b6 es := by
  refine OV.aAL (List.mem_of_getElem? hk) ?_
  rw [OV.dQ, OV.hU, List.append_nil, OV.iJ, mS]
  exact List.mem_cons_self
 refine ⟨X.oV (n, _) ?_, fun e => ?_⟩
 ·rw [OV.dQ, OV.hU, List.append_nil, OV.iJ]
  exact List.mem_cons_of_mem _ hmem
 ·have nd := X.nodup
  rw [OV.dQ, OV.hU, List.append_nil, OV.iJ] at nd
  simp only [bE, List.map_cons, List.nodup_cons] at nd
  refine nd.1 ?_
  rw [← e]
  exact List.mem_map.2 ⟨_, hmem, rfl⟩
theorem eU.aTI {α : Type} {c : α → aD} {h g F : aB} {b k m : Nat} {es : List (List OV)} {y : OV} {l : List α} {x : α} (X : eU h (OV.bT [OV.sl b 1 es]) g) (hk : es[k]? = some [y]) (hy : OS (oP c) 1 l y) (hm : g m = none)
  (hF : ∀ q, (∀ n sz es, y = .sl n sz es → ¬ q = n) → F q = aR (aR g m (.row 1 (((l ++ [x]).map fun x => [c x]).map (List.map .v)))) b (.row 1 ((OV.cells es).set k [.v (.os m 1 0 (l.length + 1))])) q) :
  ∃ g3 : aB, g3.le F ∧ eU h (OV.bT [OV.sl b 1 (es.set k [OV.sl m 1 ((l ++ [x]).map fun x => [.v (c x)])])]) g3 := by
 have hlt : k < es.length := (List.getElem?_eq_some_iff.1 hk).1
 have hY : eU g (OV.bT [OV.sl m 1 ((l ++ [x]).map fun x => [OV.v (c x)])]) (aR g m (.row 1 (((l ++ [x]).map fun x => [c x]).map (List.map .v)))) := by
  rw [OV.dQ, OV.hU, List.append_nil, OV.iJ, oW, mS]
  exact eU.one hm
 obtain ⟨g3, h1, h2⟩ := eU.bFO (k := k) [] X hY hlt
 refine ⟨g3, fun q => ?_, h2⟩
 have hcell : OV.cells (es.set k [OV.sl m 1 ((l ++ [x]).map fun x => [OV.v (c x)])]) = (OV.cells es).set k [.v (.os m 1 0 (l.length + 1))] := by
  rw [← aOK es k _ _ rfl]
  simp [OV.val]
 rw [hcell] at h1
 by_cases hq : ∀ n sz es, y = .sl n sz es → ¬ q = n
 ·rw [hF q hq]; exact h1 q
 ·left
  have hq' : ∃ n sz es', y = .sl n sz es' ∧ q = n := by
   by_cases e : ∃ n sz es', y = .sl n sz es' ∧ q = n
   ·exact e
   ·exact absurd (fun n sz es' hy' hqn => e ⟨n, sz, es', hy', hqn⟩) hq
  obtain ⟨n, sz, es', rfl, rfl⟩ := hq'

  obtain ⟨A, B, rfl, hA⟩ : ∃ A B, es = A ++ [OV.sl q sz es'] :: B ∧ A.length = k := by
   refine ⟨es.take k, es.drop (k + 1), ?_, by rw [List.length_take]; omega⟩
   have := List.getElem?_eq_some_iff.1 hk
   rw [← this.2]; simp
  subst hA
  have e1 : (A ++ [OV.sl q sz es'] :: B).set A.length [OV.sl m 1 ((l ++ [x]).map fun x => [OV.v (c x)])] = A ++ [OV.sl m 1 ((l ++ [x]).map fun x => [OV.v (c x)])] :: B := by simp
  simp only [List.nil_append] at h2
  rw [e1] at h2
  have nd := X.nodup
  have hqn : q ∈ bE (OV.bT [OV.sl b 1 (A ++ [OV.sl q sz es'] :: B)]) := by
   rw [OV.dQ, OV.iJ, sO, oX, OV.dQ, OV.iJ]
   simp [bE]
  have hgq : ∃ o, g q = some o := by
   obtain ⟨o, ho⟩ := dD.1 hqn
   exact ⟨o, X.oV (q, o) ho⟩
  have hqm : ¬ q = m := fun e => by
   obtain ⟨o, ho⟩ := hgq
   rw [e, hm] at ho; cases ho
  have hnot : q ∉ bE (OV.bT [OV.sl b 1 (A ++ [OV.sl m 1 ((l ++ [x]).map fun x => [OV.v (c x)])] :: B)]) := by
   rw [OV.dQ, OV.hU, List.append_nil, OV.iJ, sO, oX, OV.dQ, OV.hU, List.append_nil, OV.iJ] at nd ⊢
   rw [oW]
   simp only [bE, List.map_cons, List.map_append, List.nodup_cons, List.mem_append, List.mem_cons, not_or, List.nodup_append, List.map_nil, List.not_mem_nil, or_false] at nd ⊢
   obtain ⟨⟨n1, n2⟩, n3, n4, n5⟩ := nd
   refine ⟨fun e => n2.1.1 e.symm, fun hqa => n5 q hqa q (.inl (.inl rfl)) rfl, hqm, fun hqb => ?_⟩
   exact n4.2.2 q (.inl rfl) q hqb rfl
  rw [h2.upto q hnot]
  exact X.fresh q hqn
end Go.Hl

/-
  Contracts of functions and laws of the layer over the walk.
-/
import Derived.Test.YtoomflalicffnaaGreatHlC
namespace Go.Hl
set_option linter.unusedVariables false
set_option linter.unusedSimpArgs false
inductive OV where
 |v (x : aD)
 |nil (sz : Nat)
 |sl (n sz : Nat) (es : List (List OV))
def OV.val : OV → aD
 | .v x => x
 | .nil sz => .sl sz [] true
 | .sl n sz es => .os n sz 0 es.length
mutual
def OV.lA : OV → aD
 | .v x => x
 | .nil sz => .sl sz [] false
 | .sl n sz es => .sl sz (OV.cS es) false
def OV.cS : List (List OV) → List (List aD)
 | [] => []
 |e :: es => OV.aG4 e :: OV.cS es
def OV.aG4 : List OV → List aD
 | [] => []
 |x :: e => x.lA :: OV.aG4 e
end
theorem OV.tG : ∀ (e : List OV), OV.aG4 e = e.map OV.lA
 | [] => rfl
 |x :: e => by rw [OV.aG4, OV.tG e]; rfl
theorem OV.iT : ∀ (es : List (List OV)), OV.cS es = es.map (List.map OV.lA)
 | [] => rfl
 |e :: es => by rw [OV.cS, OV.iT es, OV.tG]; rfl
def OV.cells (es : List (List OV)) : List (List Cell) := es.map (List.map fun c => Cell.v c.val)
mutual
def OV.rows : OV → List (Nat × bL)
 | .v _ => []
 | .nil _ => []
 | .sl n sz es => (n, .row sz (OV.cells es)) :: OV.bG es
def OV.bG : List (List OV) → List (Nat × bL)
 | [] => []
 |e :: es => OV.bM e ++ OV.bG es
def OV.bM : List OV → List (Nat × bL)
 | [] => []
 |x :: e => x.rows ++ OV.bM e
end
theorem OV.wS : ∀ {es : List (List OV)} {e : List OV} {p : Nat × bL}, e ∈ es → p ∈ OV.bM e → p ∈ OV.bG es
 |y :: es, e, p, he, hp => by
  rw [OV.bG]
  rcases List.mem_cons.1 he with rfl | he
  ·exact List.mem_append_left _ hp
  ·exact List.mem_append_right _ (OV.wS he hp)
def eM (h : aB) (l : List (Nat × bL)) : Prop := ∀ p ∈ l, h p.1 = some p.2
def kT (h : aB) (S : List Nat) : aB := fun m => if m ∈ S then (h m).map fun _ => .gone else h m
theorem pS {h : aB} {S : List Nat} {m : Nat} {o : bL} (hm : m ∈ S) (ho : kT h S m = some o) : o = .gone := by
 simp only [kT, if_pos hm, Option.map_eq_some_iff] at ho
 obtain ⟨_, _, rfl⟩ := ho; rfl
theorem mS {h : aB} {S : List Nat} {m : Nat} (hm : m ∉ S) : kT h S m = h m := by simp only [kT, if_neg hm]
theorem pT {E : Env} {h : aB} {w : World} (S : List Nat) (b : Nat) (i : mH E h w b) : mH E (kT h S) w b :=
 ⟨i.1, fun m o hm ho => by
  by_cases e : m ∈ S
  ·rw [pS e hm] at ho; exact ho.elim
  ·rw [mS e] at hm; exact i.2 m o hm ho⟩
theorem aG5 {E : Env} {h : aB} {w : World} (R : Rel E h w) {S : List Nat} {n : Nat} (hS : n ∈ S) {x : bL} (hn : h n = some x) (hx : x.live) (b : Nat) (hb : E.fp n b) : mH E (kT h S) w b :=
 ⟨R.lt n x b hn hx hb, fun m o hm ho hf => by
  by_cases e : m ∈ S
  ·rw [pS e hm] at ho; exact ho.elim
  ·rw [mS e] at hm
   have := R.apart m o n x b hm ho hn hx hf hb
   exact e (this ▸ hS)⟩
theorem Rel.kT {E : Env} {h : aB} {w : World} (R : Rel E h w) (S : List Nat) : Rel E (kT h S) w := by
 refine ⟨R.fin, fun m hm => ?_, ?_, ?_, ?_, R.laid.nS (pT S)⟩
 ·by_cases e : m ∈ S
  ·refine R.dom m fun q => hm ?_
   simp only [Hl.kT, if_pos e, q, Option.map_none]
  ·rw [mS e] at hm; exact R.dom m hm
 ·intro m o b hm ho
  by_cases e : m ∈ S
  ·rw [pS e hm] at ho; exact ho.elim
  ·rw [mS e] at hm; exact R.lt m o b hm ho
 ·intro m o m' o' b hm ho hm' ho'
  by_cases e : m ∈ S
  ·rw [pS e hm] at ho; exact ho.elim
  ·by_cases e' : m' ∈ S
   ·rw [pS e' hm'] at ho'; exact ho'.elim
   ·rw [mS e] at hm; rw [mS e'] at hm'; exact R.apart m o m' o' b hm ho hm' ho'
 ·intro m o hm
  by_cases e : m ∈ S
  ·rw [pS e hm]; trivial
  ·rw [mS e] at hm; exact (R.obj m o hm).nS fun b => pT S b
theorem Ev.kT {E : Env} {h : aB} {w : World} (S : List Nat) : Ev E h w E (kT h S) w :=
 ⟨Nat.le_refl _, fun b hb => ⟨rfl, pT S b hb⟩, fun _ _ => rfl, fun _ hn => ⟨rfl, hn⟩, rfl, rfl⟩
mutual
theorem dY.yM {E : Env} {h : aB} {w : World} (R : Rel E h w) {S : List Nat} : ∀ (x : OV), eM h x.rows → (∀ p ∈ x.rows, p.1 ∈ S) → ∀ v, dY E h w x.val v → dY E (Hl.kT h S) w x.lA v
 | .v x, _, _, v, r => dY.nS (fun b => pT S b) r
 | .nil sz, _, _, v, r => Sub.loose sz [] true _ _ _ _ (dY.nS (fun b => pT S b) (show dY E h w (.sl sz [] true) v from r))
 | .sl n sz es, ho, hS, v, r => by
  have hn : h n = some (.row sz (OV.cells es)) := ho (n, _) (by rw [OV.rows]; exact List.mem_cons_self)
  have hnS : n ∈ S := hS (n, _) (by rw [OV.rows]; exact List.mem_cons_self)
  simp only [OV.val] at r
  simp only [OV.lA]
  have hcells : ∀ i j y, gO (OV.cells es) i j = some y → ∃ c, gO es i j = some c ∧ y = .v c.val := by
   intro i j y hy
   rw [OV.cells, m7] at hy
   obtain ⟨c, hc, rfl⟩ := Option.map_eq_some_iff.1 hy
   exact ⟨c, hc, rfl⟩
  have hdat : ∀ i j y, gO (OV.cS es) i j = some y → ∃ c, gO es i j = some c ∧ y = c.lA := by
   intro i j y hy
   rw [OV.iT, m7] at hy
   obtain ⟨c, hc, rfl⟩ := Option.map_eq_some_iff.1 hy
   exact ⟨c, hc, rfl⟩
  have hlen : (OV.cS es).length = es.length := by rw [OV.iT, List.length_map]
  have key : ∀ L, L = es.length → dY E h w (.os n sz 0 L) v → dY E (Hl.kT h S) w (.sl sz (OV.cS es) false) v := by
   intro L hL r
   cases r with
   |os0 _ _ hd hl =>
    have : es = [] := List.eq_nil_of_length_eq_zero hL.symm
    subst this
    exact .wW sz false none 0 (fun _ => rfl) (by simp [maxLen]) trivial
   |os _ _ _ _ b o cap t m hd hl hlc hmax hsh hm =>
    obtain ⟨b', o', hl', hbS, hs, cs, ct, cv, T, hh, hm', hT, hD, hc, hrr⟩ := uZ R hn (.inr ⟨_, hl⟩)
    rw [hl] at hl'
    obtain ⟨rfl, rfl⟩ := Prod.mk.inj (Option.some.inj hl')
    have himm : ∀ c, E.fp n c → mH E (Hl.kT h S) w c := fun c hc => aG5 R hnS hn trivial c hc
    have hcs : ∀ i j y, gO (OV.cS es) i j = some y → ∃ c, gO es i j = some c ∧ y = c.lA ∧ cs[o + i * sz + j]? = some (cv i j) ∧ (cv i j).oneCell' = true ∧ dY E h w c.val (cv i j) := by
     intro i j y hy
     obtain ⟨c, hc1, rfl⟩ := hdat i j y hy
     have hcell : gO (OV.cells es) i j = some (.v c.val) := by rw [OV.cells, m7, hc1]; rfl
     have h2 := hrr i j _ hcell
     cases h2 with
     |v x c' S' h1 hx => exact ⟨c, hc1, rfl, hc i j _ hcell, h1, hx⟩
    have := dY.sl (E := E) (h := Hl.kT h S) (w := w) sz (OV.cS es) false b (o + 0 * sz) cap cv (himm b hbS) (by rw [hlen, ← hL]; exact hlc) hmax (fun e => by simp at e)
     (fun e he => by
      rw [OV.iT, List.mem_map] at he
      obtain ⟨e', he', rfl⟩ := he
      have := hs (e'.map fun c => Cell.v c.val) (List.mem_map.2 ⟨e', he', rfl⟩)
      simpa using this)
     (fun i j y hy => by
      obtain ⟨c, _, _, h1, _, _⟩ := hcs i j y hy
      simp only [World.cell?, hh]
      rw [← h1]
      simp)
     (fun i j y hy => by obtain ⟨c, _, _, _, h1, _⟩ := hcs i j y hy; exact h1)
     (fun i j y hy => by
      obtain ⟨c, hc1, rfl, _, _, h1⟩ := hcs i j y hy
      obtain ⟨e, he, hj⟩ := jH hc1
      exact aAG R es (fun p hp => ho p (by rw [OV.rows]; exact List.mem_cons_of_mem _ hp)) (fun p hp => hS p (by rw [OV.rows]; exact List.mem_cons_of_mem _ hp)) e (List.mem_of_getElem? he) c (List.mem_of_getElem? hj) _ h1)
    rw [hlen, ← hL] at this
    exact this
  exact key _ rfl r
theorem aAG {E : Env} {h : aB} {w : World} (R : Rel E h w) {S : List Nat} : ∀ (es : List (List OV)), eM h (OV.bG es) → (∀ p ∈ OV.bG es, p.1 ∈ S) → ∀ e ∈ es, ∀ c ∈ e, ∀ v, dY E h w c.val v → dY E (Hl.kT h S) w c.lA v
 | [], _, _, e, he, _, _, _, _ => by simp at he
 |a :: es, ho, hS, e, he, c, hc, v, r => by
  rcases List.mem_cons.1 he with h1 | h1
  ·rw [h1] at hc
   exact aJZ R a (fun p hp => ho p (by rw [OV.bG]; exact List.mem_append_left _ hp)) (fun p hp => hS p (by rw [OV.bG]; exact List.mem_append_left _ hp)) c hc v r
  ·exact aAG R es (fun p hp => ho p (by rw [OV.bG]; exact List.mem_append_right _ hp)) (fun p hp => hS p (by rw [OV.bG]; exact List.mem_append_right _ hp)) e h1 c hc v r
theorem aJZ {E : Env} {h : aB} {w : World} (R : Rel E h w) {S : List Nat} : ∀ (e : List OV), eM h (OV.bM e) → (∀ p ∈ OV.bM e, p.1 ∈ S) → ∀ c ∈ e, ∀ v, dY E h w c.val v → dY E (Hl.kT h S) w c.lA v
 | [], _, _, c, hc, _, _ => by simp at hc
 |a :: e, ho, hS, c, hc, v, r => by
  rcases List.mem_cons.1 hc with h1 | h1
  ·rw [h1] at r ⊢
   exact dY.yM R a (fun p hp => ho p (by rw [OV.bM]; exact List.mem_append_left _ hp)) (fun p hp => hS p (by rw [OV.bM]; exact List.mem_append_left _ hp)) v r
  ·exact aJZ R e (fun p hp => ho p (by rw [OV.bM]; exact List.mem_append_right _ hp)) (fun p hp => hS p (by rw [OV.bM]; exact List.mem_append_right _ hp)) c h1 v r
end
mutual
def aD.fG : aD → Bool
 | .any | .bool _ | .int _ _ | .str _ | .iE | .bO | .pE | .j6 | .lW => true
 | .os _ _ _ _ | .op _ _ _ _ | .mp _ => true
 | .sl _ es _ => es.isEmpty
 | .agg cs => aD.xB cs
 | .gN cs => aD.xB cs
 | _ => false
def aD.xB : List aD → Bool
 | [] => true
 |x :: xs => x.fG && aD.xB xs
end
theorem aD.xC : ∀ {l : List aD}, aD.xB l = true → ∀ (i : Nat) x, l[i]? = some x → x.fG = true
 |y :: l, h, 0, x, hx => by simp only [aD.xB, Bool.and_eq_true] at h; simp at hx; subst hx; exact h.1
 |y :: l, h, i + 1, x, hx => by simp only [aD.xB, Bool.and_eq_true] at h; exact aD.xC h.2 i x (by simpa using hx)
 | [], _, i, x, hx => by simp at hx
def Cell.fG : Cell → Bool
 | .v x => x.fG
 | .own _ _ => false
def bL.fG : bL → Bool
 | .row _ es => es.all fun e => e.all Cell.fG
 | .map _ _ _ => false
 | .raw _ _ => true
 | .abs _ => true
 | .gone => true
theorem dY.fG {E E' : Env} {h h' : aB} {w w' : World} (hl : ∀ n, E.used n → E'.loc n = E.loc n ∧ E'.used n) (hs : ∀ b, b < w.heap.size → w'.shape? b = w.shape? b) {x : aD} {v : Value} (r : dY E h w x v) (hx : x.fG = true) : dY E' h' w' x v := by
 induction r with
 |any v => exact .any v
 |bool b => exact .bool b
 |int k n => exact .int k n
 |str s hl => exact .str s hl
 |iE => exact .iE
 |bO => exact .bO
 |pE => exact .pE
 |j6 => exact .j6
 |lW => exact .lW
 |wW sz t a cap ht hmax ha => exact .wW sz t a cap ht hmax ha
 |sl sz es t b o cap cv hi hcap hmax ht hs' hc h1 hr ih =>
  simp only [aD.fG, List.isEmpty_iff] at hx
  subst hx
  exact .wW sz t _ cap (fun e => by have := ht e; simpa using this) hmax trivial
 |ip sz es i off b o cv hi hs' hc h1 hr ih => simp [aD.fG] at hx
 |os n sz i len b o cap t m hd hl' hlc hmax hsh hm => exact .os n sz i len b o cap t m (hl n hd).2 ((hl n hd).1.trans hl') hlc hmax ((hs b (aCJ hsh)).trans hsh) hm
 |os0 n sz hd hl' => exact .os0 n sz (hl n hd).2 ((hl n hd).1.trans hl')
 |op n sz i off b o hd hl' => exact .op n sz i off b o (hl n hd).2 ((hl n hd).1.trans hl')
 |agg cs vs hle hr ih => exact .agg cs vs hle fun i x v a b => ih i x v a b (aD.xC (by simpa only [aD.fG] using hx) i x a)
 |gN cs vs hle hr ih => exact .gN cs vs hle fun i x v a b => ih i x v a b (aD.xC (by simpa only [aD.fG] using hx) i x a)
 |fn f cs ds vs us hle hr hle' hr' ih ih' => simp [aD.fG] at hx
 |iface t x v hr ih => simp [aD.fG] at hx
 |mp n b o hd hl' => exact .mp n b o (hl n hd).2 ((hl n hd).1.trans hl')
theorem xX.fG {E E' : Env} {h h' : aB} {w w' : World} (hl : ∀ n, E.used n → E'.loc n = E.loc n ∧ E'.used n) (hs : ∀ b, b < w.heap.size → w'.shape? b = w.shape? b) {n : Nat} {o : bL} (hn : E'.loc n = E.loc n) (hfp : E'.fp n = E.fp n)
  (hm : ∀ b, E.fp n b → w'.heap[b]? = w.heap[b]?) (ho : o.fG = true) (r : xX E h w n o) : xX E' h' w' n o := by
 cases o with
 |gone => trivial
 |raw t cs => obtain ⟨b, hb, hf, hr⟩ := r; exact ⟨b, hn.trans hb, by rw [hfp]; exact hf, (hm b hf).trans hr⟩
 |abs Q => obtain ⟨b, hb, hf, w0, hq, ha⟩ := r; exact ⟨b, hn.trans hb, by rw [hfp]; exact hf, w0, by rw [hfp]; exact hq, fun c hc => by rw [hfp] at hc; exact (hm c hc).trans (ha c hc)⟩
 |map _ _ _ => simp [bL.fG] at ho
 |row sz es =>
  rcases r with ⟨b, o', h1, h2⟩ | ⟨h1, h2⟩
  ·refine .inl ⟨b, o', hn.trans h1, ?_⟩
   obtain ⟨hb, hsz, cs, t, cv, T, hh, hle, hT, hD, hc, hr⟩ := h2
   rw [hfp]
   refine ⟨hb, hsz, cs, t, cv, T, (hm b hb).trans hh, hle, hT, hD, hc, fun i j x hx => ?_⟩
   have hsx : x.fG = true := by
    obtain ⟨e, he, hj⟩ := jH hx
    have h3 := List.all_eq_true.1 ho e (List.mem_of_getElem? he)
    exact List.all_eq_true.1 h3 x (List.mem_of_getElem? hj)
   have hx' := hr i j x hx
   cases x with
   |own _ _ => simp [Cell.fG] at hsx
   |v y =>
    generalize cv i j = cc at hx'
    cases hx' with
    |v _ _ _ h1' hy => exact .v y _ _ h1' (hy.fG hl hs hsx)
  ·exact .inr ⟨h1, hn.trans h2⟩
def OR {α : Type} (R : α → List OV → Prop) : List α → List (List OV) → Prop
 | [], [] => True
 |x :: l, e :: es => R x e ∧ OR R l es
 | _, _ => False
def OS {α : Type} (R : α → List OV → Prop) (sz : Nat) (l : List α) (y : OV) : Prop := (y = .nil sz ∧ l = []) ∨ ∃ n es, y = .sl n sz es ∧ OR R l es
def oP {α : Type} (c : α → aD) (x : α) (e : List OV) : Prop := e = [.v (c x)]
theorem OR.length {α : Type} {R : α → List OV → Prop} : ∀ {l : List α} {es : List (List OV)}, OR R l es → l.length = es.length
 | [], [], _ => rfl
 |x :: l, e :: es, h => by simpa using OR.length h.2
 | [], _ :: _, h => h.elim
 | _ :: _, [], h => h.elim
theorem OR.get {α : Type} {R : α → List OV → Prop} : ∀ {l : List α} {es : List (List OV)}, OR R l es → ∀ (i : Nat) x e, l[i]? = some x → es[i]? = some e → R x e
 |x :: l, e :: es, h, 0, y, d, hy, hd => by simp at hy hd; subst hy; subst hd; exact h.1
 |x :: l, e :: es, h, i + 1, y, d, hy, hd => OR.get h.2 i y d (by simpa using hy) (by simpa using hd)
 | [], [], _, i, y, d, hy, _ => by simp at hy
 | [], _ :: _, h, _, _, _, _, _ => h.elim
 | _ :: _, [], h, _, _, _, _, _ => h.elim
theorem OR.append {α : Type} {R : α → List OV → Prop} : ∀ {l l' : List α} {es es' : List (List OV)}, OR R l es → OR R l' es' → OR R (l ++ l') (es ++ es')
 | [], _, [], _, _, h => h
 |x :: l, _, e :: es, _, a, h => ⟨a.1, OR.append a.2 h⟩
 | [], _, _ :: _, _, a, _ => a.elim
 | _ :: _, _, [], _, a, _ => a.elim
theorem OR.lA {α : Type} {R : α → List OV → Prop} {c : α → List aD} (hR : ∀ x e, R x e → e.map OV.lA = c x) : ∀ {l : List α} {es : List (List OV)}, OR R l es → OV.cS es = l.map c
 | [], [], _ => rfl
 |x :: l, e :: es, h => by rw [OV.cS, OR.lA hR h.2, OV.tG, hR x e h.1]; rfl
 | [], _ :: _, h => h.elim
 | _ :: _, [], h => h.elim
theorem OS.lA {α : Type} {R : α → List OV → Prop} {c : α → List aD} {sz : Nat} {l : List α} {y : OV} (hR : ∀ x e, R x e → e.map OV.lA = c x) (h : OS R sz l y) : y.lA = .sl sz (l.map c) false := by
 rcases h with ⟨rfl, rfl⟩ | ⟨n, es, rfl, h⟩
 ·rfl
 ·simp only [OV.lA, OR.lA hR h]
def aY (l : List (Nat × bL)) : List Nat := l.map (·.1)
def a1Y (S : List Nat) (h h' : aB) : Prop := ∀ m, m ∉ S → h' m = h m
open Go.ChangeShapes Go.WideShapes
theorem aG6 {H : Type} {enc : TypeId × Value → H} {C : Checked} {os : Os} {f : FuncId} {fn : Func} {s : ChangeSpec}
  (own : ownKnob C.prog.godebug = none) (started : os.Started) (noInit : C.prog.inits.idxOf? f = none) (hfn : C.prog.funcs[f]? = some fn)
  (witness : ∃ (w : World) (tape : Tape) (i : Input), w.os = os ∧ (w.forCall tape i).Shaped C.prog ∧ i.vars = [] ∧ Input.okWide C.prog (w.forCall tape i) .any w.heap.size f i ∧
   s.pre6 enc C.prog fn [] false (w.forCall tape i).memory i.args ∧ ({} : Assume).holds C.prog (lone (Frame.enter C.prog f i.args .normal) [] (w.forCall tape i)))
  (lo : laidOutB C.prog = true) (mr : mapsRowed C.prog = true)
  (hz : ((List.range C.prog.types.size).all fun t => match C.prog.underlying t with | some (.slice e) => decide (0 < C.prog.cellsOf e) | _ => true) = true)
  (T : List TypeId) (hT : aQM C.prog T = true) (hp : fn.params.all (fun t => decide (t < C.prog.types.size) && T.contains t) = true)
  (hsv : s.vars = []) (hs : ∀ ds : List (DataW H), ds.length = fn.params.size → s.fn H ds = { results := [.lit (.bool true)], args := ds })
  {tb : TypeId} (hr : fn.resultTypes = #[tb]) (htb : C.prog.underlying tb = some .bool)
  (hc : ∀ xs, aJV C.prog fn.params.toList xs → eH C.prog f xs nX fun r _ => r = .bool true) (hl0 : aCI = [] := by rfl) :
  ReturnsInHanded {} C os f .any (s.pre6 enc C.prog fn [] false) (s.post enc C.prog fn false true false false) := by
 refine returnsInHanded_of_change own started noInit hfn witness ?_
 intro W base args ds gs before hval hW _ _
 have hW0 := hW
 obtain ⟨p, q, hA, hV, _, _, _⟩ := hW
 have hp' := Array.all_eq_true_iff_forall_mem.1 hp
 simp only [Bool.and_eq_true, decide_eq_true_eq] at hp'
 have hbase : ∀ (j : Nat) t v, fn.params.toList[j]? = some t → args.toList[j]? = some v → Value.okWide C.prog W .any base t v := fun j t v h1 h2 => hval j t v (by simpa using h1) (by simpa using h2)
 obtain ⟨xs, h1, h2, h3⟩ := aFR hT (E := aJW) (h := nX) (fun b hb => aJX hb) (fun t ht => by have := (hp' t (by simpa using ht)).2; simpa using this) hbase hA
 refine Calls.mono (by simpa using (hc xs h1).2 aJW W args.toList (aSM W fun p hp => by rw [hl0] at hp; cases hp) h2) fun e W' he => ?_
 cases e with
 |returned v =>
  obtain ⟨r, h', E', rfl, ev, _, rep⟩ := he
  cases rep
  exact ⟨_, rfl, aSL lo mr hz (by rw [Array.all_eq_true_iff_forall_mem]; intro t ht; simpa using (hp' t ht).1) hsv hs hr htb hW0 (by simpa using h3) (fun b hb => (ev.keep b (aJX hb)).1) ev.os ev.out⟩
 | _ => exact he.elim
def tH {α : Type} (s : α → Nat) (l : List α) : Nat := l.length + (l.map s).sum
theorem iW {α : Type} (s : α → Nat) (l : List α) : tH s l = l.length + (l.map s).sum := rfl
theorem OV.vG : ∀ (a b : List OV), OV.bM (a ++ b) = OV.bM a ++ OV.bM b
 | [], b => rfl
 |x :: a, b => by rw [List.cons_append, OV.bM, OV.vG a b, OV.bM, List.append_assoc]
theorem OV.mE : ∀ (a b : List (List OV)), OV.bG (a ++ b) = OV.bG a ++ OV.bG b
 | [], b => rfl
 |x :: a, b => by rw [List.cons_append, OV.bG, OV.mE a b, OV.bG, List.append_assoc]
theorem cM (a b : List (Nat × bL)) : aY (a ++ b) = aY a ++ aY b := List.map_append
theorem bP {l : List (Nat × bL)} {m : Nat} : m ∈ aY l ↔ ∃ o, (m, o) ∈ l := by
 simp [aY]
structure iM (h : aB) (l : List (Nat × bL)) (h' : aB) : Prop where
 nodup : (aY l).Nodup
 fresh : ∀ m ∈ aY l, h m = none
 iJ : eM h' l
 upto : a1Y (aY l) h h'
theorem iM.nil (h : aB) : iM h [] h := ⟨List.nodup_nil, by simp [aY], by simp [eM], fun m _ => rfl⟩
theorem iM.one {h : aB} {n : Nat} {o : bL} (hn : h n = none) : iM h [(n, o)] (a5 h n o) :=
 ⟨by simp [aY], by simpa [aY] using hn, by simp [eM], fun m hm => aF _ _ _ _ (by simpa [aY] using hm)⟩
theorem iM.append {h h1 h2 : aB} {a b : List (Nat × bL)} (x : iM h a h1) (y : iM h1 b h2) : iM h (a ++ b) h2 := by
 have dis : ∀ m ∈ aY a, m ∉ aY b := fun m hm hb => by
  obtain ⟨o, ho⟩ := bP.1 hm
  have := y.fresh m hb
  rw [x.iJ _ ho] at this; cases this
 refine ⟨?_, ?_, ?_, ?_⟩
 ·rw [cM]
  exact List.nodup_append.2 ⟨x.nodup, y.nodup, fun p hp q hq e => dis p hp (e ▸ hq)⟩
 ·intro m hm
  rw [cM, List.mem_append] at hm
  by_cases hb : m ∈ aY a
  ·exact x.fresh m hb
  ·rcases hm with hm | hm
   ·exact absurd hm hb
   ·rw [← x.upto m hb]; exact y.fresh m hm
 ·intro p hp
  rcases List.mem_append.1 hp with hp | hp
  ·have : p.1 ∈ aY a := bP.2 ⟨p.2, hp⟩
   rw [y.upto p.1 (dis _ this)]; exact x.iJ p hp
  ·exact y.iJ p hp
 ·intro m hm
  rw [cM, List.mem_append] at hm
  rw [y.upto m fun q => hm (.inr q), x.upto m fun q => hm (.inl q)]
theorem iM.perm {h h' : aB} {a b : List (Nat × bL)} (x : iM h a h') (p : a.Perm b) : iM h b h' :=
 ⟨(p.map _).nodup_iff.1 x.nodup, fun m hm => x.fresh m (((p.map (·.1)).mem_iff).2 hm), fun q hq => x.iJ q (p.mem_iff.2 hq), fun m hm => x.upto m fun q => hm (((p.map (·.1)).mem_iff).1 q)⟩
theorem iM.set {h h' : aB} {n : Nat} {o o' : bL} {l : List (Nat × bL)} (x : iM h ((n, o) :: l) h') : iM h ((n, o') :: l) (a5 h' n o') := by
 have hnd := x.nodup
 have hn : n ∉ aY l := by
  have : (aY ((n, o) :: l)).Nodup := hnd
  simp only [aY, List.map_cons, List.nodup_cons] at this
  exact this.1
 refine ⟨hnd, x.fresh, ?_, fun m hm => ?_⟩
 ·intro p hp
  rcases List.mem_cons.1 hp with rfl | hp
  ·exact aH _ _ _
  ·have : p.1 ≠ n := fun e => hn (e ▸ bP.2 ⟨p.2, hp⟩)
   rw [aF _ _ _ _ this]; exact x.iJ p (List.mem_cons_of_mem _ hp)
 ·have : m ≠ n := fun e => hm (by subst e; simp [aY])
  rw [aF _ _ _ _ this]; exact x.upto m hm
def kI (h : aB) (S : List Nat) : aB := fun m => if m ∈ S then none else h m
theorem aSR (h : aB) (S : List Nat) : (kI h S).le h := fun m => by
 by_cases e : m ∈ S
 ·exact .inl (if_pos e)
 ·exact .inr (if_neg e)
theorem iM.drop {h h' : aB} {a b : List (Nat × bL)} (x : iM h (a ++ b) h') : iM h b (kI h' (aY a)) := by
 have hnd := x.nodup
 rw [cM] at hnd
 obtain ⟨_, nb, dis⟩ := List.nodup_append.1 hnd
 refine ⟨nb, fun m hm => x.fresh m (by rw [cM]; exact List.mem_append_right _ hm), fun p hp => ?_, fun m hm => ?_⟩
 ·have : p.1 ∉ aY a := fun q => dis _ q _ (bP.2 ⟨p.2, hp⟩) rfl
  simp only [kI, if_neg this]
  exact x.iJ p (List.mem_append_right _ hp)
 ·by_cases e : m ∈ aY a
  ·simp only [kI, if_pos e]
   exact (x.fresh m (by rw [cM]; exact List.mem_append_left _ e)).symm
  ·simp only [kI, if_neg e]
   exact x.upto m (by rw [cM]; simp [e, hm])
theorem aJ4 {P : Program} {f : FuncId} {args : List aD} {r : aD} {K : aD → aB → Prop} (h : aB) (a : eH P f args h K)
  (hk : ∀ r' h', K r' h' → ∃ l, iM h l h' ∧ ∀ E w v, Rel E h' w → dY E h' w r' v → dY E (kT h' (aY l)) w r v) : eH P f args h fun r' h' => r' = r ∧ h' = h :=
 ⟨a.1, fun E w vs R hv => Calls.mono (a.2 E w vs R hv) fun e w' he => by
  cases e <;> try exact he
  obtain ⟨r', h', E', k, ev, R', rx⟩ := he
  obtain ⟨l, nw, hr⟩ := hk r' h' k
  have hle : h.le (kT h' (aY l)) := fun m => by
   by_cases e : m ∈ aY l
   ·exact .inl (nw.fresh m e)
   ·rw [mS e, nw.upto m e]; exact .inr rfl
  refine ⟨r, h, E', ⟨rfl, rfl⟩, ev.trans ((Ev.kT _).forget hle), (R'.kT _).forget hle, ?_⟩
  refine dY.nS (fun b hb => mH.le hle hb) (hr E' w' _ R' rx)⟩
theorem cX.yM {E : Env} {h : aB} {w : World} (R : Rel E h w) {S : List Nat} : ∀ (e : List OV) (vs : List Value), eM h (OV.bM e) → (∀ p ∈ OV.bM e, p.1 ∈ S) → cX E h w (e.map OV.val) vs → cX E (kT h S) w (e.map OV.lA) vs
 | [], [], _, _, _ => trivial
 |x :: e, v :: vs, ho, hS, hr => ⟨dY.yM R x (fun p hp => ho p (by rw [OV.bM]; exact List.mem_append_left _ hp)) (fun p hp => hS p (by rw [OV.bM]; exact List.mem_append_left _ hp)) v hr.1,
   cX.yM R e vs (fun p hp => ho p (by rw [OV.bM]; exact List.mem_append_right _ hp)) (fun p hp => hS p (by rw [OV.bM]; exact List.mem_append_right _ hp)) hr.2⟩
 | [], _ :: _, _, _, hr => hr.elim
 | _ :: _, [], _, _, hr => hr.elim
theorem dY.aSS {E : Env} {h : aB} {w : World} (R : Rel E h w) {S : List Nat} (e : List OV) (v : Value) (ho : eM h (OV.bM e)) (hS : ∀ p ∈ OV.bM e, p.1 ∈ S) (hr : dY E h w (.agg (e.map OV.val)) v) : dY E (kT h S) w (.agg (e.map OV.lA)) v := by
 cases hr with
 |agg _ vs hl hr =>
  have := cX.yM R e vs ho hS (cX.mk hl hr)
  exact .agg _ vs this.length this.get
def oS {α : Type} (R : α → List OV → Prop) (sz : Nat) (l : List α) (e : List OV) : Prop := ∃ y, e = [y] ∧ OS R sz l y
theorem rO {α : Type} {c : α → aD} {x : α} {e : List OV} (h : oP c x e) : e.map OV.lA = [c x] := by
 unfold oP at h; subst h; rfl
theorem aST {α : Type} {R : α → List OV → Prop} {c : α → List aD} {sz : Nat} {l : List α} {e : List OV} (hR : ∀ x e, R x e → e.map OV.lA = c x) (h : oS R sz l e) : e.map OV.lA = [.sl sz (l.map c) false] := by
 obtain ⟨y, rfl, h⟩ := h
 simp only [List.map_cons, List.map_nil, OS.lA hR h]
structure aAK (h : aB) (T : List Nat) (l : List (Nat × bL)) (h' : aB) : Prop where
 nodup : (T ++ aY l).Nodup
 fresh : ∀ m ∈ T ++ aY l, h m = none
 there : ∀ m ∈ T, h' m ≠ none
 iJ : eM h' l
 upto : a1Y (T ++ aY l) h h'
theorem aAK.a7I {h h' : aB} {l : List (Nat × bL)} (x : aAK h [] l h') : iM h l h' := ⟨x.nodup, x.fresh, x.iJ, x.upto⟩
theorem iM.toT {h h' : aB} {l : List (Nat × bL)} (x : iM h l h') : aAK h [] l h' := ⟨x.nodup, x.fresh, by simp, x.iJ, x.upto⟩
theorem aAK.drop {h h' : aB} {T : List Nat} {l : List (Nat × bL)} (x : aAK h T l h') : iM h l (kI h' T) := by
 obtain ⟨_, nb, dis⟩ := List.nodup_append.1 x.nodup
 refine ⟨nb, fun m hm => x.fresh m (List.mem_append_right _ hm), fun p hp => ?_, fun m hm => ?_⟩
 ·have : p.1 ∉ T := fun q => dis _ q _ (bP.2 ⟨p.2, hp⟩) rfl
  simp only [kI, if_neg this]
  exact x.iJ p hp
 ·by_cases e : m ∈ T
  ·simp only [kI, if_pos e]
   exact (x.fresh m (List.mem_append_left _ e)).symm
  ·simp only [kI, if_neg e]
   exact x.upto m (by simp [e, hm])
theorem aAK.some {h h' : aB} {T : List Nat} {l : List (Nat × bL)} (x : aAK h T l h') {m : Nat} (hm : m ∈ T ++ aY l) : h' m ≠ none := by
 rcases List.mem_append.1 hm with hm | hm
 ·exact x.there m hm
 ·obtain ⟨o, ho⟩ := bP.1 hm
  rw [x.iJ _ ho]; simp
theorem aAK.row {h h' : aB} {T : List Nat} {l : List (Nat × bL)} (x : aAK h T l h') {n : Nat} {o : bL} (hn : h' n = none) : aAK h T ((n, o) :: l) (a5 h' n o) := by
 have w7 : n ∉ T ++ aY l := fun q => x.some q hn
 have nd := List.nodup_append.1 x.nodup
 refine ⟨List.nodup_append.2 ⟨nd.1, ?_, ?_⟩, ?_, ?_, fun p hp => ?_, fun m hm => ?_⟩
 ·show (n :: aY l).Nodup
  exact List.nodup_cons.2 ⟨fun q => w7 (List.mem_append_right _ q), nd.2.1⟩
 ·intro a ha b hb e
  have hb' : b ∈ n :: aY l := hb
  rcases List.mem_cons.1 hb' with rfl | hb'
  ·exact w7 (e ▸ List.mem_append_left _ ha)
  ·exact nd.2.2 a ha b hb' e
 ·intro m hm
  rcases List.mem_append.1 hm with hm | hm
  ·exact x.fresh m (List.mem_append_left _ hm)
  ·have hm' : m ∈ n :: aY l := hm
   rcases List.mem_cons.1 hm' with rfl | hm'
   ·rw [← x.upto m w7]; exact hn
   ·exact x.fresh m (List.mem_append_right _ hm')
 ·intro m hm
  have : m ≠ n := fun e => w7 (e ▸ List.mem_append_left _ hm)
  rw [aF _ _ _ _ this]; exact x.there m hm
 ·rcases List.mem_cons.1 hp with rfl | hp
  ·exact aH _ _ _
  ·have : p.1 ≠ n := fun e => w7 (e ▸ List.mem_append_right _ (bP.2 ⟨p.2, hp⟩))
   rw [aF _ _ _ _ this]; exact x.iJ p hp
 ·have h1 : m ≠ n := fun e => hm (e ▸ List.mem_append_right _ (by simp [aY]))
  rw [aF _ _ _ _ h1]
  refine x.upto m fun q => hm ?_
  rcases List.mem_append.1 q with q | q
  ·exact List.mem_append_left _ q
  ·exact List.mem_append_right _ (List.mem_cons_of_mem _ q)
theorem iM.keep {h h' : aB} {l : List (Nat × bL)} (x : iM h l h') {n : Nat} {o : bL} (hn : h n = some o) : h' n = some o := by
 rw [x.upto n fun q => by rw [x.fresh n q] at hn; cases hn]; exact hn
theorem aAK.set {h h' : aB} {T : List Nat} {n : Nat} {o o' : bL} {l : List (Nat × bL)} (x : aAK h T ((n, o) :: l) h') : aAK h T ((n, o') :: l) (a5 h' n o') := by
 have nd := List.nodup_append.1 x.nodup
 have nd2 : (n :: aY l).Nodup := nd.2.1
 refine ⟨x.nodup, x.fresh, fun m hm => ?_, fun p hp => ?_, fun m hm => ?_⟩
 ·by_cases e : m = n
  ·subst e; simp
  ·rw [aF _ _ _ _ e]; exact x.there m hm
 ·rcases List.mem_cons.1 hp with rfl | hp
  ·exact aH _ _ _
  ·have : p.1 ≠ n := fun e => (List.nodup_cons.1 nd2).1 (e ▸ bP.2 ⟨p.2, hp⟩)
   rw [aF _ _ _ _ this]; exact x.iJ p (List.mem_cons_of_mem _ hp)
 ·have h1 : m ≠ n := fun e => hm (e ▸ List.mem_append_right _ (by simp [aY]))
  rw [aF _ _ _ _ h1]; exact x.upto m hm
theorem aDD {α : Type} {c : α → aD} : ∀ (l : List α), OR (oP c) l (l.map fun x => [.v (c x)])
 | [] => trivial
 |x :: l => ⟨rfl, aDD l⟩
theorem fV {α : Type} (c : α → aD) (l : List α) : OV.cells (l.map fun x => [OV.v (c x)]) = (l.map fun x => [c x]).map (List.map .v) := by
 simp [OV.cells, OV.val]
theorem hU {α : Type} (c : α → aD) : ∀ (l : List α), OV.bG (l.map fun x => [OV.v (c x)]) = []
 | [] => rfl
 |x :: l => by rw [List.map_cons, OV.bG, hU c l]; rfl
theorem OV.dZ (x : aD) : (OV.v x).val = x := rfl
theorem OS.flat {α : Type} {R : α → List OV → Prop} {sz : Nat} {l : List α} {y : OV} (h : OS R sz l y) : y.val.flat = true := by
 rcases h with ⟨rfl, _⟩ | ⟨n, es, rfl, _⟩ <;> rfl
theorem OS.one {α : Type} {R : α → List OV → Prop} {sz : Nat} {l : List α} {y : OV} (h : OS R sz l y) : y.val.cells = [y.val] := by
 rcases h with ⟨rfl, _⟩ | ⟨n, es, rfl, _⟩ <;> rfl
theorem aQO {es : List (List OV)} (e : List OV) {z : List Cell} {k m : Nat} (hk : es.length = k) (hm : 0 < m) :
  (OV.cells es ++ List.replicate m z).set k (e.map fun c => Cell.v c.val) = OV.cells (es ++ [e]) ++ List.replicate (m - 1) z := by
 obtain ⟨m, rfl⟩ : ∃ j, m = j + 1 := ⟨m - 1, by omega⟩
 have hl : (OV.cells es).length = k := by simp [OV.cells, hk]
 rw [List.set_append_right _ _ (by omega), hl, Nat.sub_self, List.replicate_succ, List.set_cons_zero]
 simp [OV.cells]
theorem rP (es : List (List OV)) (e : List OV) : OV.bG (es ++ [e]) = OV.bG es ++ OV.bM e := by
 rw [OV.mE]; simp only [OV.bG, List.append_nil]
def rQ (P : Program) (f : FuncId) (args : List aD) (Q : aD → List (Nat × bL) → Prop) : Prop := ∀ h : aB, eH P f args h fun r h' => ∃ l, Q r l ∧ iM h l h'
theorem iM.under {g h' : aB} {n : Nat} {o : bL} {l : List (Nat × bL)} (hg : g n = none) (x : iM (a5 g n o) l h') : ∃ g', h' = a5 g' n o ∧ iM g l g' ∧ g' n = none := by
 have hn : n ∉ aY l := fun q => by have := x.fresh n q; simp at this
 have hk : h' n = some o := x.keep (aH _ _ _)
 refine ⟨kI h' [n], ?_, ⟨x.nodup, fun m hm => ?_, fun p hp => ?_, fun m hm => ?_⟩, by simp [kI]⟩
 ·funext m
  by_cases e : m = n
  ·subst e; rw [aH, hk]
  ·rw [aF _ _ _ _ e]; simp [kI, e]
 ·have e : m ≠ n := fun e => hn (e ▸ hm)
  have := x.fresh m hm
  rwa [aF _ _ _ _ e] at this
 ·have e : p.1 ≠ n := fun e => hn (e ▸ bP.2 ⟨p.2, hp⟩)
  have : kI h' [n] p.1 = h' p.1 := by simp [kI, e]
  rw [this]; exact x.iJ p hp
 ·by_cases e : m = n
  ·subst e; rw [hg]; simp [kI]
  ·have : kI h' [n] m = h' m := by simp [kI, e]
   rw [this, x.upto m hm, aF _ _ _ _ e]
theorem iM.a1Z {g h' : aB} {n m : Nat} {x y : bL} {l : List (Nat × bL)} (hn : g n = none) (hm : a5 g n x m = none) (q : iM (a5 (a5 g n x) m y) l h') : ∃ g', h' = a5 (a5 g' n x) m y ∧ iM g l g' ∧ g' n = none ∧ a5 g' n x m = none := by
 obtain ⟨g1, rfl, q1, h1⟩ := q.under hm
 obtain ⟨g2, rfl, q2, h2⟩ := q1.under hn
 exact ⟨g2, rfl, q2, h2, h1⟩
section
variable {P : Program} {f : FuncId} {args : List aD} {Q : aD → List (Nat × bL) → Prop} {K : aD → aB → Prop} {t : Tag K}
theorem aG.nw1 {g : aB} {n : Nat} {x : bL} (a : rQ P f args Q) (hn : g n = none) (k : ∀ r l g', Q r l → iM g l g' → g' n = none → K r (a5 g' n x)) : aG P f args (a5 g n x) K t :=
 aG.fF (a _) fun r h' ⟨l, q, hq⟩ => by obtain ⟨g', rfl, q2, h1⟩ := hq.under hn; exact k r l g' q q2 h1
theorem aG.nw2 {g : aB} {n m : Nat} {x y : bL} (a : rQ P f args Q) (hn : g n = none) (hm : m ≠ n ∧ g m = none) (k : ∀ r l g', Q r l → iM g l g' → g' n = none → g' m = none → K r (a5 (a5 g' n x) m y)) : aG P f args (a5 (a5 g n x) m y) K t :=
 aG.fF (a _) fun r h' ⟨l, q, hq⟩ => by
  obtain ⟨g', rfl, q2, h1, h2⟩ := hq.a1Z hn (b9.2 hm)
  exact k r l g' q q2 h1 (b9.1 h2).2
end
theorem qD {P : Program} {f : FuncId} {fn : Func} {c : Code} (N : Nat) (keep ib : List Nat) (mk : Marks) {args : List aD} {Q : aD → List (Nat × bL) → Prop} (hmix : P.follows .mixedOrders = true) (hf : P.funcs[f]? = some fn) (hb : fn.body = some c)
  (hck : (kS P f && decide (fn.ntmps = N) && iS N mk c) = true) (hl : args.length ≤ N)
  (hw : ∀ h, oQ P N keep ib mk c (fun τ h' => p9 P fn.results (fun r h' => ∃ r1 g l, Shift r h' r1 g ∧ Q r1 l ∧ iM h l g) () .normal τ h') (p9 P fn.results (fun r h' => ∃ r1 g l, Shift r h' r1 g ∧ Q r1 l ∧ iM h l g) ()) (p6 0 args) h ()) : rQ P f args Q := by
 intro h
 have h1 : eH P f args h (fun r h' => ∃ r1 g l, Shift r h' r1 g ∧ Q r1 l ∧ iM h l g) :=
  eH.mono (aAF (K := fun r h' => ∃ r1 g l, Shift r h' r1 g ∧ Q r1 l ∧ iM h l g) N keep ib mk hmix hf hb hck hl (by
   have := hw h
   refine Eq.mp ?_ this
   have e : (fun r h' => ∃ r1 g l, Shift r h' r1 g ∧ Q r1 l ∧ iM h l g) = (fun r h' => ∃ g' : aB, g'.le h' ∧ ∃ r1 g l, Shift r g' r1 g ∧ Q r1 l ∧ iM h l g) := by
    funext r h'
    refine propext ⟨fun ⟨r1, g, l, s, q⟩ => ⟨h', aB.le_refl _, r1, g, l, s, q⟩, fun ⟨g', hl, r1, g, l, s, q⟩ => ⟨r1, g, l, (Shift.of (Sub.refl _) hl).trans s, q⟩⟩
   rw [e])) fun r h' q => q
 exact p8 (fn := fn) (c := c) (N := N) h1 fun r h' ⟨r1, g, l, s, q, n⟩ => ⟨r1, g, s, l, q, n⟩
theorem rQ.cK {P : Program} {f : FuncId} {args : List aD} {Q : aD → List (Nat × bL) → Prop} {r : aD} (a : rQ P f args Q)
  (hk : ∀ r' l, Q r' l → ∀ E w v h', eM h' l → Rel E h' w → dY E h' w r' v → dY E (kT h' (aY l)) w r v) : dV P f args r := fun h =>
 aJ4 h (a h) fun r' h' ⟨l, q, hn⟩ => ⟨l, hn, fun E w v R rx => hk r' l q E w v h' hn.iJ R rx⟩
def nQ (h : aB) : aB := fun m => (h m).map fun _ => .gone
theorem tO {h : aB} {m : Nat} {o : bL} (ho : nQ h m = some o) : o = .gone := by
 simp only [nQ, Option.map_eq_some_iff] at ho
 obtain ⟨_, _, rfl⟩ := ho; rfl
theorem sC {E : Env} {h : aB} {w : World} {b : Nat} (hb : b < w.heap.size) : mH E (nQ h) w b := ⟨hb, fun m o hm ho => by rw [tO hm] at ho; exact ho.elim⟩
theorem Rel.nQ {E : Env} {h : aB} {w : World} (R : Rel E h w) : Rel E (nQ h) w := by
 refine ⟨R.fin, fun m hm => R.dom m fun q => hm (by simp [Hl.nQ, q]), ?_, ?_, ?_, R.laid.nS fun b hb => sC hb.1⟩
 ·intro m o b hm ho; rw [tO hm] at ho; exact ho.elim
 ·intro m o m' o' b hm ho; rw [tO hm] at ho; exact ho.elim
 ·intro m o hm; rw [tO hm]; trivial
theorem eH.aZL {P : Program} {f : FuncId} {args args' : List aD} {h : aB} {K : aD → aB → Prop} {K' : aD → List (Nat × bL) → Prop}
  (hview : ∀ E w vs, Rel E h w → cX E h w args vs → cX E (nQ h) w args' vs) (a : eH P f args' (nQ h) K)
  (hK : ∀ r h', K r h' → ∃ l, K' r l ∧ iM (nQ h) l h' ∧ r.fG = true ∧ ∀ p ∈ l, p.2.fG = true) :
  eH P f args h fun r h' => ∃ l, K' r l ∧ iM h l h' := by
 refine ⟨a.1, fun E w vs R hv => Calls.mono (a.2 E w vs R.nQ (hview E w vs R hv)) fun e w' he => ?_⟩
 cases e <;> try exact he
 obtain ⟨r, h', E', k, ev, R', rx⟩ := he
 obtain ⟨l, k', nw, hr, hsol⟩ := hK r h' k
 have hnew : ∀ m ∈ aY l, h m = none := fun m hm => by
  have := nw.fresh m hm
  simpa [nQ] using this
 let h2 : aB := fun m => if m ∈ aY l then h' m else h m
 have e1 : ∀ m, m ∈ aY l → h2 m = h' m := fun m hm => if_pos hm
 have e2 : ∀ m, m ∉ aY l → h2 m = h m := fun m hm => if_neg hm
 let E2 : Env := { loc := E'.loc, fp := fun n => if n ∈ aY l then E'.fp n else E.fp n, used := E'.used }
 have f1 : ∀ m, m ∈ aY l → E2.fp m = E'.fp m := fun m hm => if_pos hm
 have f2 : ∀ m, m ∉ aY l → E2.fp m = E.fp m := fun m hm => if_neg hm
 have aMO : ∀ b, b < w.heap.size → mH E (nQ h) w b := fun b hb => sC hb
 have solL : ∀ m o, m ∈ aY l → h' m = some o → o.fG = true := fun m o hm ho => by
  obtain ⟨o', ho'⟩ := bP.1 hm
  have := nw.iJ _ ho'
  rw [ho] at this
  obtain rfl := Option.some.inj this
  exact hsol _ ho'
 have evA : Ev E h w E2 h2 w' := by
  refine ⟨ev.size, fun b hb => ?_, ev.shape, ev.loc, ev.os, ev.out⟩
  have h1 := ev.keep b (aMO b hb.1)
  refine ⟨h1.1, h1.2.1, fun m o hm ho hf => ?_⟩
  by_cases e : m ∈ aY l
  ·rw [e1 m e] at hm; rw [f1 m e] at hf; exact h1.2.2 m o hm ho hf
  ·rw [e2 m e] at hm; rw [f2 m e] at hf; exact hb.2 m o hm ho hf
 have R2 : Rel E2 h2 w' := by
  refine ⟨R'.fin, fun m hm => ?_, ?_, ?_, ?_, R.laid.ev evA⟩
  ·by_cases e : m ∈ aY l
   ·rw [e1 m e] at hm; exact R'.dom m hm
   ·rw [e2 m e] at hm; exact (ev.loc m (R.dom m hm)).2
  ·intro m o b hm ho hf
   by_cases e : m ∈ aY l
   ·rw [e1 m e] at hm; rw [f1 m e] at hf; exact R'.lt m o b hm ho hf
   ·rw [e2 m e] at hm; rw [f2 m e] at hf; exact Nat.lt_of_lt_of_le (R.lt m o b hm ho hf) ev.size
  ·intro m o m' o' b hm ho hm' ho' hf hf'
   by_cases e : m ∈ aY l
   ·rw [e1 m e] at hm; rw [f1 m e] at hf
    by_cases e' : m' ∈ aY l
    ·rw [e1 m' e'] at hm'; rw [f1 m' e'] at hf'; exact R'.apart m o m' o' b hm ho hm' ho' hf hf'
    ·rw [e2 m' e'] at hm'; rw [f2 m' e'] at hf'
     exact absurd hf ((ev.keep b (aMO b (R.lt m' o' b hm' ho' hf'))).2.2 m o hm ho)
   ·rw [e2 m e] at hm; rw [f2 m e] at hf
    by_cases e' : m' ∈ aY l
    ·rw [e1 m' e'] at hm'; rw [f1 m' e'] at hf'
     exact absurd hf' ((ev.keep b (aMO b (R.lt m o b hm ho hf))).2.2 m' o' hm' ho')
    ·rw [e2 m' e'] at hm'; rw [f2 m' e'] at hf'; exact R.apart m o m' o' b hm ho hm' ho' hf hf'
  ·intro m o hm
   by_cases e : m ∈ aY l
   ·rw [e1 m e] at hm
    exact xX.fG (E := E') (E' := E2) (fun n hn => ⟨rfl, hn⟩) (fun _ _ => rfl) rfl (f1 m e) (fun _ _ => rfl) (solL m o e hm) (R'.obj m o hm)
   ·rw [e2 m e] at hm
    cases o with
    |gone => trivial
    |row sz es => exact (R.obj m _ hm).ev evA (ev.loc m (R.dom m (by simp [hm]))).1 (f2 m e) fun b _ hb => (ev.keep b (aMO b (R.lt m _ b hm trivial hb))).1
    |abs Q => exact (R.obj m _ hm).ev evA (ev.loc m (R.dom m (by simp [hm]))).1 (f2 m e) fun b _ hb => (ev.keep b (aMO b (R.lt m _ b hm trivial hb))).1
    |raw t cs => exact (R.obj m _ hm).ev evA (ev.loc m (R.dom m (by simp [hm]))).1 (f2 m e) fun b _ hb => (ev.keep b (aMO b (R.lt m _ b hm trivial hb))).1
    |map kt et l' => exact (R.obj m _ hm).ev evA (ev.loc m (R.dom m (by simp [hm]))).1 (f2 m e) fun b _ hb => (ev.keep b (aMO b (R.lt m _ b hm trivial hb))).1
 refine ⟨r, h2, E2, ⟨l, k', ⟨nw.nodup, hnew, fun p hp => ?_, fun m hm => e2 m hm⟩⟩, evA, R2, dY.fG (E := E') (E' := E2) (fun n hn => ⟨rfl, hn⟩) (fun _ _ => rfl) rx hr⟩
 rw [e1 p.1 (bP.2 ⟨p.2, hp⟩)]; exact nw.iJ p hp
def View (h : aB) (x x' : aD) : Prop := ∀ E w v, Rel E h w → dY E h w x v → dY E (nQ h) w x' v
def eJ (h : aB) : List aD → List aD → Prop
 | [], [] => True
 |x :: xs, y :: ys => View h x y ∧ eJ h xs ys
 | _, _ => False
theorem a10 {E : Env} {h : aB} {w : World} {b : Nat} (i : mH E h w b) : mH E (nQ h) w b := sC i.1
theorem View.same (h : aB) (x : aD) : View h x x := fun E w v R r => r.nS fun b i => a10 i
theorem xD {E : Env} {h : aB} {w : World} {S : List Nat} : ∀ b, mH E (Hl.kT h S) w b → mH E (nQ h) w b := fun b i => sC i.1
theorem View.ov {h : aB} (y : OV) (ho : eM h y.rows) : View h y.val y.lA := fun E w v R r =>
 (dY.yM R (S := aY y.rows) y ho (fun p hp => bP.2 ⟨p.2, hp⟩) v r).nS xD
theorem View.agg {h : aB} (e : List OV) (ho : eM h (OV.bM e)) : View h (.agg (e.map OV.val)) (.agg (e.map OV.lA)) := fun E w v R r =>
 (dY.aSS R (S := aY (OV.bM e)) e v ho (fun p hp => bP.2 ⟨p.2, hp⟩) r).nS xD
theorem View.op {h : aB} {n sz i off : Nat} (es : List (List OV)) (hn : h n = some (.row sz (OV.cells es))) (hne : es ≠ []) (ho : eM h (OV.bG es)) : View h (.op n sz i off) (.ip sz (OV.cS es) i off) := by
 intro E w v R r
 cases v <;> try (cases r; done)
 cases r with
 |op _ _ _ _ b o hd hl =>
  obtain ⟨b', o', hl', hbS, hs, cs, ct, cv, T, hh, hm', hT, hD, hc, hrr⟩ := uZ R hn (.inr ⟨_, hl⟩)
  rw [hl] at hl'
  obtain ⟨rfl, rfl⟩ := Prod.mk.inj (Option.some.inj hl')
  have hcs : ∀ i j y, gO (OV.cS es) i j = some y → ∃ c, gO es i j = some c ∧ y = c.lA ∧ cs[o + i * sz + j]? = some (cv i j) ∧ (cv i j).oneCell' = true ∧ dY E h w c.val (cv i j) := by
   intro i j y hy
   rw [OV.iT, m7] at hy
   obtain ⟨c, hc1, rfl⟩ := Option.map_eq_some_iff.1 hy
   have hcell : gO (OV.cells es) i j = some (.v c.val) := by rw [OV.cells, m7, hc1]; rfl
   have h2 := hrr i j _ hcell
   generalize hcv : cv i j = z at h2
   cases h2 with
   |v x c' S' h1 hx => exact ⟨c, hc1, rfl, hcv ▸ hc i j _ hcell, h1, hx⟩
  refine .ip sz (OV.cS es) i off b o cv (sC (R.lt n _ b hn trivial hbS)) ?_ ?_ ?_ ?_
  ·intro e he
   rw [OV.iT, List.mem_map] at he
   obtain ⟨e', he', rfl⟩ := he
   have := hs (e'.map fun c => Cell.v c.val) (List.mem_map.2 ⟨e', he', rfl⟩)
   simpa using this
  ·intro i j y hy
   obtain ⟨c, _, _, h1, _, _⟩ := hcs i j y hy
   simp only [World.cell?, hh]
   rw [← h1]
   simp
  ·intro i j y hy; obtain ⟨c, _, _, _, h1, _⟩ := hcs i j y hy; exact h1
  ·intro i j y hy
   obtain ⟨c, hc1, rfl, _, _, h1⟩ := hcs i j y hy
   obtain ⟨e, he, hj⟩ := jH hc1
   exact (aAG R (S := aY (OV.bG es)) es ho (fun p hp => bP.2 ⟨p.2, hp⟩) e (List.mem_of_getElem? he) c (List.mem_of_getElem? hj) _ h1).nS xD
theorem eJ.aJQ {h : aB} : ∀ {xs ys : List aD}, eJ h xs ys → ∀ E w vs, Rel E h w → cX E h w xs vs → cX E (nQ h) w ys vs
 | [], [], _, E, w, [], R, r => trivial
 |x :: xs, y :: ys, hv, E, w, v :: vs, R, r => ⟨hv.1 E w v R r.1, eJ.aJQ hv.2 E w vs R r.2⟩
 | [], [], _, E, w, _ :: _, R, r => r.elim
 |x :: xs, y :: ys, hv, E, w, [], R, r => r.elim
 | [], _ :: _, h, _, _, _, _, _ => h.elim
 | _ :: _, [], h, _, _, _, _, _ => h.elim
theorem eJ.nil {h : aB} : eJ h [] [] := trivial
theorem eJ.cons {h : aB} {x y : aD} {xs ys : List aD} (a : View h x y) (b : eJ h xs ys) : eJ h (x :: xs) (y :: ys) := ⟨a, b⟩
def aMP (Q : aD → List (Nat × bL) → Prop) : Prop := ∀ r l, Q r l → r.fG = true ∧ ∀ p ∈ l, p.2.fG = true
theorem rQ.aWM {P : Program} {f : FuncId} {args args' : List aD} {Q : aD → List (Nat × bL) → Prop} {h : aB} (a : rQ P f args' Q) (hv : eJ h args args') (hQ : aMP Q) : eH P f args h fun r h' => ∃ l, Q r l ∧ iM h l h' :=
 eH.aZL hv.aJQ (a (nQ h)) fun r h' ⟨l, q, n⟩ => ⟨l, q, n, (hQ r l q).1, (hQ r l q).2⟩
theorem dV.aWM {P : Program} {f : FuncId} {args args' : List aD} {r : aD} {h : aB} (a : dV P f args' r) (hv : eJ h args args') (hr : r.fG = true) : eH P f args h fun r' h' => r' = r ∧ h' = h :=
 (eH.aZL (K' := fun r' l => r' = r ∧ l = []) hv.aJQ (a (nQ h)) fun r' h' ⟨e, e'⟩ => by
  subst e; subst e'; exact ⟨[], ⟨rfl, rfl⟩, .nil _, hr, by simp⟩).mono fun r' h' ⟨l, ⟨e1, e2⟩, n⟩ => by
  subst e2
  exact ⟨e1, funext fun m => n.upto m (by simp [aY])⟩
section
variable {P : Program} {f : FuncId} {args args' : List aD} {Q : aD → List (Nat × bL) → Prop} {K : aD → aB → Prop} {t : Tag K} {g : aB}
theorem aG.aDE {r : aD} (a : dV P f args' r) (hv : eJ g args args') (hr : r.fG = true) (k : K r g) : aG P f args g K t :=
 aG.fF (a.aWM hv hr) fun r' h' ⟨e, e'⟩ => by subst e; subst e'; exact k
end
mutual
def OV.sol : OV → Bool
 | .v x => x.fG
 | .nil _ => true
 | .sl _ _ es => OV.nB es
def OV.nB : List (List OV) → Bool
 | [] => true
 |e :: es => OV.lG e && OV.nB es
def OV.lG : List OV → Bool
 | [] => true
 |x :: e => x.sol && OV.lG e
end
theorem OV.aFU : ∀ {x : OV}, x.sol = true → x.val.fG = true
 | .v x, h => by simpa only [OV.sol, OV.val] using h
 | .nil _, _ => by simp [OV.val, aD.fG]
 | .sl _ _ _, _ => by simp [OV.val, aD.fG]
theorem OV.aDG : ∀ (e : List OV), OV.lG e = e.all OV.sol
 | [] => rfl
 |x :: e => by rw [OV.lG, OV.aDG e]; rfl
theorem OV.aBC : ∀ (es : List (List OV)), OV.nB es = es.all (fun e => e.all OV.sol)
 | [] => rfl
 |e :: es => by rw [OV.nB, OV.aBC es, OV.aDG]; rfl
theorem OV.aJ5 {sz : Nat} {es : List (List OV)} (h : OV.nB es = true) : (bL.row sz (OV.cells es)).fG = true := by
 rw [OV.aBC] at h
 simp only [bL.fG, OV.cells, List.all_map, List.all_eq_true, Function.comp_apply] at h ⊢
 intro e he c hc
 exact OV.aFU (h e he c hc)
mutual
theorem OV.aDH : ∀ {x : OV}, x.sol = true → ∀ p ∈ x.rows, p.2.fG = true
 | .v _, _ => by simp [OV.rows]
 | .nil _, _ => by simp [OV.rows]
 | .sl n sz es, h => fun p hp => by
  rw [OV.rows] at hp
  rcases List.mem_cons.1 hp with rfl | hp
  ·exact OV.aJ5 (by simpa only [OV.sol] using h)
  ·exact OV.vH (by simpa only [OV.sol] using h) p hp
theorem OV.vH : ∀ {es : List (List OV)}, OV.nB es = true → ∀ p ∈ OV.bG es, p.2.fG = true
 | [], _ => by simp [OV.bG]
 |e :: es, h => fun p hp => by
  simp only [OV.nB, Bool.and_eq_true] at h
  rw [OV.bG] at hp
  rcases List.mem_append.1 hp with hp | hp
  ·exact OV.wT h.1 p hp
  ·exact OV.vH h.2 p hp
theorem OV.wT : ∀ {e : List OV}, OV.lG e = true → ∀ p ∈ OV.bM e, p.2.fG = true
 | [], _ => by simp [OV.bM]
 |x :: e, h => fun p hp => by
  simp only [OV.lG, Bool.and_eq_true] at h
  rw [OV.bM] at hp
  rcases List.mem_append.1 hp with hp | hp
  ·exact OV.aDH h.1 p hp
  ·exact OV.wT h.2 p hp
end
theorem OR.sol {α : Type} {R : α → List OV → Prop} (hR : ∀ x e, R x e → OV.lG e = true) : ∀ {l : List α} {es : List (List OV)}, OR R l es → OV.nB es = true
 | [], [], _ => rfl
 |x :: l, e :: es, h => by rw [OV.nB, hR x e h.1, OR.sol hR h.2]; rfl
 | [], _ :: _, h => h.elim
 | _ :: _, [], h => h.elim
theorem OS.sol {α : Type} {R : α → List OV → Prop} {sz : Nat} {l : List α} {y : OV} (hR : ∀ x e, R x e → OV.lG e = true) (h : OS R sz l y) : y.sol = true := by
 rcases h with ⟨rfl, _⟩ | ⟨n, es, rfl, h⟩
 ·rfl
 ·simp only [OV.sol]; exact h.sol hR
theorem aMQ {α : Type} {c : α → aD} (hc : ∀ x, (c x).fG = true) {x : α} {e : List OV} (h : oP c x e) : OV.lG e = true := by
 unfold oP at h; subst h; simp [OV.lG, OV.sol, hc]
def QS (R : OV → Prop) (w : aD → aD := fun x => x) : aD → List (Nat × bL) → Prop := fun r l => ∃ y, R y ∧ r = w y.val ∧ l = y.rows
def QA (R : List OV → Prop) (w : aD → aD := fun x => x) : aD → List (Nat × bL) → Prop := fun r l => ∃ e, R e ∧ r = w (.agg (e.map OV.val)) ∧ l = OV.bM e
theorem iM.row {h h' : aB} {l : List (Nat × bL)} (x : iM h l h') {n : Nat} {o : bL} (hn : h' n = none) : iM h ((n, o) :: l) (a5 h' n o) := (x.toT.row hn).a7I
theorem QS.fG {R : OV → Prop} {w : aD → aD} (hR : ∀ y, R y → y.sol = true) (hw : ∀ x : aD, x.fG = true → (w x).fG = true) : aMP (QS R w) := fun r l ⟨y, hy, e1, e2⟩ => by
 subst e1 e2
 exact ⟨hw _ (OV.aFU (hR y hy)), OV.aDH (hR y hy)⟩
theorem QS.cK {P : Program} {f : FuncId} {args : List aD} {R : OV → Prop} {d : aD} (a : rQ P f args (QS R)) (hd : ∀ y, R y → y.lA = d) : dV P f args d :=
 a.cK fun r' l ⟨y, hy, e1, e2⟩ E w v h' ho R rx => by
  subst e1 e2
  rw [← hd y hy]
  exact dY.yM R y ho (fun p hp => bP.2 ⟨p.2, hp⟩) v rx
theorem OS.nil {α : Type} {R : α → List OV → Prop} {sz : Nat} : OS R sz [] (.nil sz) := .inl ⟨rfl, rfl⟩
theorem OS.mk {α : Type} {R : α → List OV → Prop} {sz n : Nat} {l : List α} {es : List (List OV)} (h : OR R l es) : OS R sz l (.sl n sz es) := .inr ⟨n, es, rfl, h⟩
theorem OV.nC (sz : Nat) : (OV.nil sz).rows = [] := by rw [OV.rows]
theorem OV.j8 (x : aD) : (OV.v x).rows = [] := by rw [OV.rows]
theorem OV.dI (n sz : Nat) (es : List (List OV)) : (OV.sl n sz es).rows = (n, .row sz (OV.cells es)) :: OV.bG es := by rw [OV.rows]
theorem OV.eC : OV.bM [] = [] := by rw [OV.bM]
theorem OV.cT (x : OV) (e : List OV) : OV.bM (x :: e) = x.rows ++ OV.bM e := by rw [OV.bM]
theorem OV.yO (sz : Nat) : (OV.nil sz).val = .sl sz [] true := rfl
theorem OV.nD (n sz : Nat) (es : List (List OV)) : (OV.sl n sz es).val = .os n sz 0 es.length := rfl
theorem OV.bK : List.map OV.val [] = [] := rfl
theorem OV.dC (x : OV) (e : List OV) : List.map OV.val (x :: e) = x.val :: e.map OV.val := rfl
theorem aJ6 {es : List (List OV)} (e : List OV) {z : List aD} {k m : Nat} (hk : es.length = k) (hm : 0 < m) (c : List Cell) (hc : c = e.map fun c => Cell.v c.val) :
  ((OV.cells es ++ (List.replicate m z).map (List.map Cell.v)).set k c) = OV.cells (es ++ [e]) ++ (List.replicate (m - 1) z).map (List.map Cell.v) := by
 subst hc
 rw [List.map_replicate, List.map_replicate]
 exact aQO e hk hm
theorem aJ7 {es : List (List OV)} {z : List aD} {k m : Nat} (hk : es.length = k) (hm : 0 < m) : (OV.cells es ++ (List.replicate m z).map (List.map Cell.v))[k]? = some (z.map .v) := by
 rw [List.getElem?_append_right (by simp [OV.cells, hk])]
 simp only [OV.cells, List.length_map, hk, Nat.sub_self, List.map_replicate]
 obtain ⟨m, rfl⟩ : ∃ j, m = j + 1 := ⟨m - 1, by omega⟩
 rfl
theorem nE {g h : aB} {n : Nat} {o : bL} (hn : g n = none) (hl : g.le h) : g.le (a5 h n o) := (bF hn).2 hl
def rR (n : Nat) : List UInt8 := if h : n = 0 then [] else rR (n / 10) ++ [UInt8.ofNat (48 + n % 10)]
termination_by n
decreasing_by omega
theorem aBD : rR 0 = [] := by rw [rR]; simp
theorem aDI {n : Nat} (h : n ≠ 0) : rR n = rR (n / 10) ++ [UInt8.ofNat (48 + n % 10)] := by rw [rR]; simp [h]
theorem aMR (n : Nat) : (rR n).length ≤ n := by
 induction n using Nat.strongRecOn with
 |ind n ih =>
  by_cases h : n = 0
  ·subst h; simp [aBD]
  ·rw [aDI h]
   have := ih (n / 10) (by omega)
   simp; omega
def wU (k : Int) : List UInt8 := if k ≤ 0 then [109, 48] else 109 :: rR k.toNat
mutual
def OV.ct : OV → Nat
 | .v _ => 1
 | .nil _ => 0
 | .sl _ _ es => OV.cU es
def OV.cU : List (List OV) → Nat
 | [] => 0
 |e :: es => OV.jZ e + OV.cU es
def OV.jZ : List OV → Nat
 | [] => 0
 |x :: e => x.ct + OV.jZ e
end
def aDJ (k : Int) : aD → aD
 | .int t _ => .int t k
 | .bool _ => .bool (decide (k.tmod 3 = 0))
 | .str _ => .str (wU k)
 |x => x
mutual
def OV.mk (k : Int) : OV → OV
 | .v x => .v (aDJ k x)
 | .nil sz => .nil sz
 | .sl n sz es => .sl n sz (OV.cO k es)
def OV.cO (k : Int) : List (List OV) → List (List OV)
 | [] => []
 |e :: es => OV.uK k e :: OV.cO (k + OV.jZ e) es
def OV.uK (k : Int) : List OV → List OV
 | [] => []
 |x :: e => x.mk k :: OV.uK (k + x.ct) e
end
theorem OV.iU : ∀ (a b : List (List OV)), OV.cU (a ++ b) = OV.cU a + OV.cU b
 | [], b => by simp [OV.cU]
 |x :: a, b => by rw [List.cons_append, OV.cU, OV.iU a b, OV.cU]; omega
theorem OV.oJ : ∀ (k : Int) (a b : List (List OV)), OV.cO k (a ++ b) = OV.cO k a ++ OV.cO (k + OV.cU a) b
 |k, [], b => by simp [OV.cU, OV.cO]
 |k, x :: a, b => by
  rw [List.cons_append, OV.cO, OV.oJ (k + OV.jZ x) a b, OV.cO, OV.cU, List.cons_append]
  congr 3; omega
theorem OV.jV : ∀ (k : Int) (a : List (List OV)), (OV.cO k a).length = a.length
 |k, [] => rfl
 |k, x :: a => by rw [OV.cO, List.length_cons, List.length_cons, OV.jV]
theorem OV.q8 (k : Int) (a : List (List OV)) (e : List OV) : OV.cO k (a ++ [e]) = OV.cO k a ++ [OV.uK (k + OV.cU a) e] := by
 rw [OV.oJ]; simp [OV.cO]
theorem OV.mU (a : List (List OV)) (e : List OV) : OV.cU (a ++ [e]) = OV.cU a + OV.jZ e := by
 rw [OV.iU]; simp [OV.cU]
theorem OV.aDK (x : aD) : (OV.v x).ct = 1 := by rw [OV.ct]
theorem OV.vI (sz : Nat) : (OV.nil sz).ct = 0 := by rw [OV.ct]
theorem OV.q9 (n sz : Nat) (es : List (List OV)) : (OV.sl n sz es).ct = OV.cU es := by rw [OV.ct]
theorem OV.pV : OV.jZ [] = 0 := by rw [OV.jZ]
theorem OV.n9 (x : OV) (e : List OV) : OV.jZ (x :: e) = x.ct + OV.jZ e := by rw [OV.jZ]
theorem OV.aQP (k : Int) (x : aD) : (OV.v x).mk k = .v (aDJ k x) := by rw [OV.mk]
theorem OV.xE (k : Int) (sz : Nat) : (OV.nil sz).mk k = .nil sz := by rw [OV.mk]
theorem OV.aDL (k : Int) (n sz : Nat) (es : List (List OV)) : (OV.sl n sz es).mk k = .sl n sz (OV.cO k es) := by rw [OV.mk]
theorem OV.pW (k : Int) : OV.uK k [] = [] := by rw [OV.uK]
theorem OV.oA (k : Int) (x : OV) (e : List OV) : OV.uK k (x :: e) = x.mk k :: OV.uK (k + x.ct) e := by rw [OV.uK]
theorem sD (k : Int) (t : IntKind) (n : Int) : aDJ k (.int t n) = .int t k := rfl
theorem pX (k : Int) (b : Bool) : aDJ k (.bool b) = .bool (decide (k.tmod 3 = 0)) := rfl
theorem sE (k : Int) (s : List UInt8) : aDJ k (.str s) = .str (wU k) := rfl
theorem oT : ((1 : Nat) : Int) = 1 := rfl
theorem OS.mk_val {α : Type} {R : α → List OV → Prop} {sz : Nat} {l : List α} {y : OV} (h : OS R sz l y) (k : Int) : (y.mk k).val = y.val := by
 rcases h with ⟨rfl, _⟩ | ⟨n, es, rfl, _⟩
 ·rw [OV.xE]
 ·rw [OV.aDL, OV.nD, OV.nD, OV.jV]
structure o5 (h h' : aB) (l l' : List (Nat × bL)) : Prop where
 names : aY l' = aY l
 iJ : eM h' l'
 upto : a1Y (aY l) h h'
theorem o5.refl {h : aB} {l : List (Nat × bL)} (o : eM h l) : o5 h h l l := ⟨rfl, o, fun _ _ => rfl⟩
theorem o5.trans {h h1 h2 : aB} {a b c : List (Nat × bL)} (x : o5 h h1 a b) (y : o5 h1 h2 b c) : o5 h h2 a c :=
 ⟨y.names.trans x.names, y.iJ, fun m hm => (y.upto m (by rw [x.names]; exact hm)).trans (x.upto m hm)⟩
theorem eM.left {h : aB} {a b : List (Nat × bL)} (o : eM h (a ++ b)) : eM h a := fun p hp => o p (List.mem_append_left _ hp)
theorem eM.right {h : aB} {a b : List (Nat × bL)} (o : eM h (a ++ b)) : eM h b := fun p hp => o p (List.mem_append_right _ hp)
theorem o5.mid {h h' : aB} {a l l' b : List (Nat × bL)} (o : eM h (a ++ (l ++ b))) (nd : (aY (a ++ (l ++ b))).Nodup) (c : o5 h h' l l') : o5 h h' (a ++ (l ++ b)) (a ++ (l' ++ b)) := by
 have nd' := nd
 rw [cM, cM] at nd'
 obtain ⟨_, n2, d1⟩ := List.nodup_append.1 nd'
 obtain ⟨_, _, d2⟩ := List.nodup_append.1 n2
 refine ⟨by rw [cM, cM, cM, cM, c.names], fun p hp => ?_, fun m hm => c.upto m fun q => hm ?_⟩
 ·rcases List.mem_append.1 hp with hp | hp
  ·have hm : p.1 ∈ aY a := bP.2 ⟨p.2, hp⟩
   rw [c.upto p.1 fun q => d1 _ hm _ (List.mem_append_left _ q) rfl]
   exact o p (List.mem_append_left _ hp)
  ·rcases List.mem_append.1 hp with hp | hp
   ·exact c.iJ p hp
   ·have hm : p.1 ∈ aY b := bP.2 ⟨p.2, hp⟩
    rw [c.upto p.1 fun q => d2 _ q _ hm rfl]
    exact o p (List.mem_append_right _ (List.mem_append_right _ hp))
 ·rw [cM, cM]
  exact List.mem_append_right _ (List.mem_append_left _ q)
theorem o5.set {h : aB} {n : Nat} {o o' : bL} {l : List (Nat × bL)} (ow : eM h ((n, o) :: l)) (nd : (aY ((n, o) :: l)).Nodup) : o5 h (a5 h n o') ((n, o) :: l) ((n, o') :: l) := by
 have hn : n ∉ aY l := (List.nodup_cons.1 (show (n :: aY l).Nodup from nd)).1
 refine ⟨rfl, fun p hp => ?_, fun m hm => ?_⟩
 ·rcases List.mem_cons.1 hp with rfl | hp
  ·exact aH _ _ _
  ·have : p.1 ≠ n := fun e => hn (e ▸ bP.2 ⟨p.2, hp⟩)
   rw [aF _ _ _ _ this]; exact ow p (List.mem_cons_of_mem _ hp)
 ·have : m ≠ n := fun e => hm (by rw [e]; exact List.mem_cons_self)
  exact aF _ _ _ _ this
theorem o5.nodup {h h' : aB} {a b : List (Nat × bL)} (c : o5 h h' a b) (nd : (aY a).Nodup) : (aY b).Nodup := by rw [c.names]; exact nd
theorem wC {a l b : List (Nat × bL)} (nd : (aY (a ++ (l ++ b))).Nodup) : (aY l).Nodup := by
 rw [cM, cM] at nd
 exact (List.nodup_append.1 (List.nodup_append.1 nd).2.1).1
theorem wD {α : Type} {X Y : List α} {c : α} {i : Nat} (h : X.length = i) : (X ++ c :: Y)[i]? = some c := by
 rw [List.getElem?_append_right (by omega), h, Nat.sub_self]; rfl
theorem aBY {α : Type} {X Y : List α} {c c' : α} {i : Nat} (h : X.length = i) : (X ++ c :: Y).set i c' = X ++ c' :: Y := by
 rw [List.set_append_right _ _ (by omega), h, Nat.sub_self, List.set_cons_zero]
theorem OR.split {α : Type} {R : α → List OV → Prop} : ∀ {l : List α} {es : List (List OV)}, OR R l es → ∀ k (hk : k < l.length), ∃ A e B, es = A ++ e :: B ∧ A.length = k ∧ R l[k] e
 |x :: l, e :: es, h, 0, _ => ⟨[], e, es, rfl, rfl, h.1⟩
 |x :: l, e :: es, h, k + 1, hk => by
  obtain ⟨A, e', B, h1, h2, h3⟩ := OR.split h.2 k (by simpa using hk)
  exact ⟨e :: A, e', B, by rw [h1]; rfl, by simp [h2], by simpa using h3⟩
 | [], [], _, k, hk => by simp at hk
 | [], _ :: _, h, _, _ => h.elim
 | _ :: _, [], h, _, _ => h.elim
theorem cP (a b : List (List OV)) : OV.cells (a ++ b) = OV.cells a ++ OV.cells b := by simp [OV.cells]
theorem eV (e : List OV) (b : List (List OV)) : OV.cells (e :: b) = (e.map fun c => Cell.v c.val) :: OV.cells b := rfl
theorem vJ (a b : List (List OV)) : OV.cS (a ++ b) = OV.cS a ++ OV.cS b := by simp [OV.iT]
theorem yP (e : List OV) (b : List (List OV)) : OV.cS (e :: b) = e.map OV.lA :: OV.cS b := by simp [OV.iT]
theorem rA (a : List (List OV)) : (OV.cS a).length = a.length := by simp [OV.iT]
theorem aZM (x : aD) : (OV.v x).lA = x := by rw [OV.lA]
theorem aOO (sz : Nat) : (OV.nil sz).lA = .sl sz [] false := by rw [OV.lA]
theorem aSU (n sz : Nat) (es : List (List OV)) : (OV.sl n sz es).lA = .sl sz (OV.cS es) false := by rw [OV.lA]
theorem yQ (x : OV) (e : List OV) : (x :: e).map OV.lA = x.lA :: e.map OV.lA := rfl
theorem aBE : ([] : List OV).map OV.lA = [] := rfl
theorem eW (x : OV) (e : List OV) : ((x :: e).map fun c => Cell.v c.val) = .v x.val :: e.map fun c => Cell.v c.val := rfl
theorem fW : (([] : List OV).map fun c => Cell.v c.val) = [] := rfl
theorem dK (a b : List (List OV)) : OV.bG (a ++ b) = OV.bG a ++ OV.bG b := OV.mE a b
theorem cR (e : List OV) (b : List (List OV)) : OV.bG (e :: b) = OV.bM e ++ OV.bG b := by rw [OV.bG]
def OV.ctT : OV → Nat
 | .v _ => 0
 |x => x.ct
def OV.mkT (k : Int) : OV → OV
 | .v x => .v x
 |x => x.mk k
def OV.vK : List OV → Nat
 | [] => 0
 |x :: e => x.ctT + OV.vK e
def OV.aJ8 (k : Int) : List OV → List OV
 | [] => []
 |x :: e => x.mkT k :: OV.aJ8 (k + x.ctT) e
theorem OV.aQQ : OV.vK [] = 0 := rfl
theorem OV.aMS (x : OV) (e : List OV) : OV.vK (x :: e) = x.ctT + OV.vK e := rfl
theorem OV.aQR (k : Int) : OV.aJ8 k [] = [] := rfl
theorem OV.aMT (k : Int) (x : OV) (e : List OV) : OV.aJ8 k (x :: e) = x.mkT k :: OV.aJ8 (k + x.ctT) e := rfl
theorem OV.a7J (x : aD) : (OV.v x).ctT = 0 := rfl
theorem OV.a7K (k : Int) (x : aD) : (OV.v x).mkT k = .v x := rfl
theorem oB : ((0 : Nat) : Int) = 0 := rfl
theorem OS.ctT {α : Type} {R : α → List OV → Prop} {sz : Nat} {l : List α} {y : OV} (h : OS R sz l y) : y.ctT = y.ct := by
 rcases h with ⟨rfl, _⟩ | ⟨n, es, rfl, _⟩ <;> rfl
theorem OS.mkT {α : Type} {R : α → List OV → Prop} {sz : Nat} {l : List α} {y : OV} (h : OS R sz l y) (k : Int) : y.mkT k = y.mk k := by
 rcases h with ⟨rfl, _⟩ | ⟨n, es, rfl, _⟩ <;> rfl
def aFV (P : Program) (f : FuncId) (R : OV → Prop) : Prop := ∀ (y : OV) (k : Int) (h : aB), R y → 0 ≤ k → k + y.ct ≤ 4611686018427387904 → eM h y.rows → (aY y.rows).Nodup →
 eH P f [y.val, .int .i64 k] h fun r h' => r = .int .i64 (k + y.ct) ∧ o5 h h' y.rows (y.mk k).rows
def aZN (P : Program) (f : FuncId) (R : OV → Prop) : Prop := ∀ (y : OV) (k : Int), R y → 0 ≤ k → k + y.ct ≤ 4611686018427387904 → dV P f [(y.mk k).lA, .int .i64 k] (.int .i64 (k + y.ct))
def a7L (P : Program) (f : FuncId) (R : List OV → Prop) : Prop := ∀ (e : List OV) (k : Int) (h : aB), R e → 0 ≤ k → k + OV.vK e ≤ 4611686018427387904 → eM h (OV.bM e) → (aY (OV.bM e)).Nodup →
 eH P f [.agg (e.map OV.val), .int .i64 k] h fun r h' => r = .int .i64 (k + OV.vK e) ∧ o5 h h' (OV.bM e) (OV.bM (OV.aJ8 k e))
theorem eM.up {g : aB} {l : List (Nat × bL)} {n : Nat} {o : bL} (ow : eM g l) (hn : g n = none) : eM (a5 g n o) l := fun p hp => by
 have : p.1 ≠ n := fun e => by have := ow p hp; rw [e, hn] at this; cases this
 rw [aF _ _ _ _ this]; exact ow p hp
theorem o5.under {g h' : aB} {n : Nat} {o : bL} {l l' : List (Nat × bL)} (hg : g n = none) (ho : eM g l) (c : o5 (a5 g n o) h' l l') : ∃ g', h' = a5 g' n o ∧ o5 g g' l l' ∧ g' n = none := by
 have hn : n ∉ aY l := fun q => by
  obtain ⟨x, hx⟩ := bP.1 q
  have := ho _ hx
  rw [hg] at this; cases this
 have hk : h' n = some o := by rw [c.upto n hn, aH]
 refine ⟨kI h' [n], ?_, ⟨c.names, fun p hp => ?_, fun m hm => ?_⟩, by simp [kI]⟩
 ·funext m
  by_cases e : m = n
  ·subst e; rw [aH, hk]
  ·rw [aF _ _ _ _ e]; simp [kI, e]
 ·have e : p.1 ≠ n := fun e => hn (by rw [← c.names]; exact e ▸ bP.2 ⟨p.2, hp⟩)
  have : kI h' [n] p.1 = h' p.1 := by simp [kI, e]
  rw [this]; exact c.iJ p hp
 ·by_cases e : m = n
  ·subst e; rw [hg]; simp [kI]
  ·have : kI h' [n] m = h' m := by simp [kI, e]
   rw [this, c.upto m hm, aF _ _ _ _ e]
theorem iM.un0 {g h' : aB} {l : List (Nat × bL)}  (x : iM g l h') : ∃ g', h' = g' ∧ iM g l g' := by
 exact ⟨h', rfl, x⟩
theorem aG.wn0 {P : Program} {f : FuncId} {args : List aD} {Q : aD → List (Nat × bL) → Prop} {K : aD → aB → Prop} {t : Tag K} {g : aB} (a : rQ P f args Q)  (k : ∀ r l g', Q r l → iM g l g' → K r g') : aG P f args g K t :=
 aG.fF (a _) fun r h' ⟨l, q, hq⟩ => by
  obtain ⟨g', e0, q2⟩ := hq.un0; subst e0
  exact k r l _ q q2
theorem iM.un1 {g h' : aB} {n0 : Nat} {o0 : bL} {l : List (Nat × bL)} (h0 : g n0 = none) (x : iM (a5 g n0 o0) l h') : ∃ g', h' = (a5 g' n0 o0) ∧ iM g l g' ∧ g' n0 = none := by
 exact x.under h0
theorem o5.un1 {g h' : aB} {n0 : Nat} {o0 : bL} {l l' : List (Nat × bL)} (h0 : g n0 = none) (ho : eM g l) (x : o5 (a5 g n0 o0) h' l l') : ∃ g', h' = (a5 g' n0 o0) ∧ o5 g g' l l' ∧ g' n0 = none := by
 exact x.under h0 ho
theorem eM.up1 {g : aB} {n0 : Nat} {o0 : bL} {l : List (Nat × bL)} (h0 : g n0 = none) (ho : eM g l) : eM (a5 g n0 o0) l := (ho.up h0)
theorem aG.wn1 {P : Program} {f : FuncId} {args : List aD} {Q : aD → List (Nat × bL) → Prop} {K : aD → aB → Prop} {t : Tag K} {g : aB} {n0 : Nat} {o0 : bL} (a : rQ P f args Q) (h0 : g n0 = none) (k : ∀ r l g', Q r l → iM g l g' → g' n0 = none → K r (a5 g' n0 o0)) : aG P f args (a5 g n0 o0) K t :=
 aG.fF (a _) fun r h' ⟨l, q, hq⟩ => by
  obtain ⟨g', rfl, q2, z0⟩ := hq.un1 h0
  exact k r l _ q q2 z0
theorem aG.wl1 {P : Program} {f : FuncId} {args args' : List aD} {Q : aD → List (Nat × bL) → Prop} {K : aD → aB → Prop} {t : Tag K} {g : aB} {n0 : Nat} {o0 : bL} (a : rQ P f args' Q) (hv : eJ (a5 g n0 o0) args args') (hQ : aMP Q) (h0 : g n0 = none) (k : ∀ r l g', Q r l → iM g l g' → g' n0 = none → K r (a5 g' n0 o0)) : aG P f args (a5 g n0 o0) K t :=
 aG.fF (a.aWM hv hQ) fun r h' ⟨l, q, hq⟩ => by
  obtain ⟨g', rfl, q2, z0⟩ := hq.un1 h0
  exact k r l _ q q2 z0
theorem aG.wc1 {P : Program} {f : FuncId} {args : List aD} {K : aD → aB → Prop} {t : Tag K} {g : aB} {n0 : Nat} {o0 : bL} {l l' : List (Nat × bL)} {r0 : aD} (a : eH P f args (a5 g n0 o0) fun r h' => r = r0 ∧ o5 (a5 g n0 o0) h' l l') (ho : eM g l) (h0 : g n0 = none) (k : ∀ g', o5 g g' l l' → g' n0 = none → K r0 (a5 g' n0 o0)) : aG P f args (a5 g n0 o0) K t :=
 aG.fF a fun r h' ⟨e, hq⟩ => by
  subst e
  obtain ⟨g', e0, q2, z0⟩ := hq.un1 h0 ho
  subst e0
  exact k _ q2 z0
theorem OR.aSV {α : Type} {R : α → List OV → Prop} : ∀ {l : List α} {es : List (List OV)}, (∀ x ∈ l, ∀ e, R x e → OV.lG e = true) → OR R l es → OV.nB es = true
 | [], [], _, _ => rfl
 |x :: l, e :: es, hR, h => by rw [OV.nB, hR x List.mem_cons_self e h.1, OR.aSV (fun y hy => hR y (List.mem_cons_of_mem _ hy)) h.2]; rfl
 | [], _ :: _, _, h => h.elim
 | _ :: _, [], _, h => h.elim
theorem OS.aSV {α : Type} {R : α → List OV → Prop} {sz : Nat} {l : List α} {y : OV} (hR : ∀ x ∈ l, ∀ e, R x e → OV.lG e = true) (h : OS R sz l y) : y.sol = true := by
 rcases h with ⟨rfl, _⟩ | ⟨n, es, rfl, h⟩
 ·rfl
 ·simp only [OV.sol]; exact h.aSV hR
theorem aWP {α : Type} {R : α → List OV → Prop} {sz : Nat} {l : List α} {e : List OV} (hR : ∀ x ∈ l, ∀ e, R x e → OV.lG e = true) (h : oS R sz l e) : OV.lG e = true := by
 obtain ⟨y, rfl, h⟩ := h
 simp [OV.lG, h.aSV hR]
theorem OR.ct {α : Type} {R : α → List OV → Prop} {s : α → Nat} : ∀ {l : List α} {es : List (List OV)}, OR R l es → (∀ x ∈ l, ∀ e, R x e → OV.jZ e ≤ 16 * (1 + s x)) → OV.cU es ≤ 16 * tH s l
 | [], [], _, _ => by simp [OV.cU]
 |x :: l, e :: es, h, hc => by
  have h1 := hc x List.mem_cons_self e h.1
  have h2 := OR.ct (s := s) h.2 fun y hy => hc y (List.mem_cons_of_mem _ hy)
  rw [OV.cU]
  simp only [tH, List.length_cons, List.map_cons, List.sum_cons] at h2 ⊢
  omega
 | [], _ :: _, h, _ => h.elim
 | _ :: _, [], h, _ => h.elim
theorem OR.ct0 {α : Type} {R : α → List OV → Prop} : ∀ {l : List α} {es : List (List OV)}, OR R l es → (∀ x ∈ l, ∀ e, R x e → OV.jZ e ≤ 16) → OV.cU es ≤ 16 * l.length
 | [], [], _, _ => by simp [OV.cU]
 |x :: l, e :: es, h, hc => by
  have h1 := hc x List.mem_cons_self e h.1
  have h2 := OR.ct0 h.2 fun y hy => hc y (List.mem_cons_of_mem _ hy)
  rw [OV.cU]
  simp only [List.length_cons] at h2 ⊢
  omega
 | [], _ :: _, h, _ => h.elim
 | _ :: _, [], h, _ => h.elim
theorem OS.cts {α : Type} {R : α → List OV → Prop} {s : α → Nat} {sz : Nat} {l : List α} {y : OV} (h : OS R sz l y) (hc : ∀ x ∈ l, ∀ e, R x e → OV.jZ e ≤ 16 * (1 + s x)) : y.ct ≤ 16 * tH s l := by
 rcases h with ⟨rfl, _⟩ | ⟨n, es, rfl, h⟩
 ·rw [OV.vI]; omega
 ·rw [OV.q9]; exact h.ct hc
theorem OS.a7M {α : Type} {R : α → List OV → Prop} {sz : Nat} {l : List α} {y : OV} (h : OS R sz l y) (hc : ∀ x ∈ l, ∀ e, R x e → OV.jZ e ≤ 16) : y.ct ≤ 16 * l.length := by
 rcases h with ⟨rfl, _⟩ | ⟨n, es, rfl, h⟩
 ·rw [OV.vI]; omega
 ·rw [OV.q9]; exact h.ct0 hc
theorem aZO {α : Type} {c : α → aD} {x : α} {e : List OV} (h : oP c x e) : OV.jZ e ≤ 16 := by
 unfold oP at h; subst h; simp [OV.jZ, OV.ct]
theorem OS.ctP {α : Type} {c : α → aD} {sz : Nat} {l : List α} {y : OV} (h : OS (oP c) sz l y) : y.ct ≤ 16 * l.length := h.a7M fun _ _ _ q => aZO q
theorem a12 {α : Type} {c : α → aD} {sz : Nat} {l : List α} {e : List OV} (h : oS (oP c) sz l e) : OV.jZ e ≤ 16 * (1 + l.length) := by
 obtain ⟨y, rfl, h⟩ := h
 have := h.a7M fun _ _ _ q => aZO q
 simp only [OV.jZ]; omega
def aSW (w : aD → aD) : Prop := ∀ (E : Env) (h g : aB) (W : World) (x y : aD) (v : Value), (∀ b, mH E h W b → mH E g W b) → (∀ u, dY E h W x u → dY E g W y u) → dY E h W (w x) v → dY E g W (w y) v
theorem cX.hole {E : Env} {h g : aB} {W : World} {x y : aD} (hi : ∀ b, mH E h W b → mH E g W b) (hr : ∀ u, dY E h W x u → dY E g W y u) : ∀ (a b : List aD) (vs : List Value), cX E h W (a ++ x :: b) vs → cX E g W (a ++ y :: b) vs
 | [], b, v :: vs, r => ⟨hr v r.1, cX.nS hi r.2⟩
 |z :: a, b, v :: vs, r => ⟨r.1.nS hi, cX.hole hi hr a b vs r.2⟩
 | [], b, [], r => r.elim
 |z :: a, b, [], r => r.elim
theorem aJ9 (a b : List aD) : aSW fun x => .gN (a ++ x :: b) := fun E h g W x y v hi hr r => by
 generalize hc : a ++ x :: b = cs at r
 cases r with
 |gN _ vs hl hrr =>
  subst hc
  have := cX.hole hi hr a b vs (cX.mk hl hrr)
  exact .gN _ vs this.length this.get
theorem QS.a7N {P : Program} {f : FuncId} {args : List aD} {R : OV → Prop} {w : aD → aD} {d : aD} (a : rQ P f args (QS R w)) (hd : ∀ y, R y → y.lA = d) (hw : aSW w) : dV P f args (w d) :=
 a.cK fun r' l ⟨y, hy, e1, e2⟩ E W v h' ho R' rx => by
  subst e1 e2
  rw [← hd y hy]
  exact hw E h' _ W y.val y.lA v (fun b => pT _ b) (fun u ru => dY.yM R' y ho (fun p hp => bP.2 ⟨p.2, hp⟩) u ru) rx
def eK (sz len : Nat) : Option Nat → aD
 |none => .sl sz [] true
 |some n => .os n sz 0 len
def gQ (h : aB) (o : bL) : Option Nat → aB
 |none => h
 |some n => a5 h n o
theorem a7 (sz len : Nat) : eK sz len none = .sl sz [] true := rfl
theorem aT (sz len n : Nat) : eK sz len (some n) = .os n sz 0 len := rfl
theorem aR (h : aB) (o : bL) : gQ h o none = h := rfl
theorem aL (h : aB) (o : bL) (n : Nat) : gQ h o (some n) = a5 h n o := rfl
theorem kO {h : aB} {n b : Nat} {o r : bL} (hn : h n = none) : (a5 h b r).le (a5 (a5 (a5 h n o) n .gone) b r) := fun m => by
 by_cases e : m = b
 ·subst e; right; simp
 ·rw [aF _ _ _ _ e, aF _ _ _ _ e]
  by_cases e2 : m = n
  ·subst e2; exact .inl hn
  ·right; rw [aF _ _ _ _ e2, aF _ _ _ _ e2]
def eP {α : Type} (h : aB) (l : List α) : Option Nat → Prop
 |none => l = []
 |some n => h n = none
theorem a9 {α : Type} (h : aB) (l : List α) : eP h l none = (l = []) := rfl
theorem aU {α : Type} (h : aB) (l : List α) (n : Nat) : eP h l (some n) = (h n = none) := rfl
theorem eN {α : Type} (c : α → aD) (l : List α) (x : α) : List.take l.length ((l.map fun x => [c x]).map (List.map Cell.v)) ++ [[Cell.v (c x)]] = ((l ++ [x]).map fun x => [c x]).map (List.map .v) := by
 rw [List.take_of_length_le (by simp)]
 simp
theorem View.a7O {h : aB} {c : List aD} (e : List OV) (hd : e.map OV.lA = c) (ho : eM h (OV.bM e)) : View h (.agg (e.map OV.val)) (.agg c) := hd ▸ View.agg e ho
theorem View.ovD {h : aB} {d : aD} (y : OV) (hd : y.lA = d) (ho : eM h y.rows) : View h y.val d := hd ▸ View.ov y ho
theorem View.ovM {α : Type} {R : α → List OV → Prop} {sz : Nat} {l : List α} {h : aB} {y : OV} (k : Int) (hy : OS R sz l y) (ho : eM h (y.mk k).rows) : View h y.val (y.mk k).lA := by
 have := View.ov (y.mk k) ho
 rwa [hy.mk_val] at this
theorem aOS {α : Type} {c : α → aD} {l : List α} {sz : Nat} {h : aB} (e : (l.map fun x => [c x]) = []) : ∃ r1 g l1, Shift .bO h r1 g ∧ QS (OS (oP c) sz l) (fun x => x) r1 l1 ∧ iM h l1 g := by
 obtain rfl : l = [] := by simpa using e
 exact ⟨_, _, _, Shift.of (Sub.nil sz true) (aB.le_refl _), ⟨.nil sz, OS.nil, rfl, rfl⟩, by rw [OV.nC]; exact iM.nil h⟩
theorem aOT {α : Type} {c : α → aD} {l : List α} {sz : Nat} {h : aB} (e : (l.map fun x => [c x]) = []) : ∃ r1 g l1, Shift (.sl sz [] true) h r1 g ∧ QS (OS (oP c) sz l) (fun x => x) r1 l1 ∧ iM h l1 g := by
 obtain rfl : l = [] := by simpa using e
 exact ⟨_, _, _, aV _ _, ⟨.nil sz, OS.nil, rfl, rfl⟩, by rw [OV.nC]; exact iM.nil h⟩
theorem rC {α : Type} {c : α → aD} {l : List α} {sz n : Nat} {h : aB} (hn : h n = none) :
  ∃ r1 g l1, Shift (.os n sz 0 l.length) (a5 h n (.row sz ((l.map fun x => [c x]).map (List.map .v)))) r1 g ∧ QS (OS (oP c) sz l) (fun x => x) r1 l1 ∧ iM h l1 g := by
 refine ⟨_, _, _, aV _ _, ⟨.sl n sz (l.map fun x => [.v (c x)]), OS.mk (aDD l), by simp [OV.val], rfl⟩, ?_⟩
 rw [OV.dI, hU, fV]
 exact iM.one hn
def mL (sz len : Nat) : Option Nat → aD
 |none => .bO
 |some n => .os n sz 0 len
theorem sG (sz len : Nat) : mL sz len none = .bO := rfl
theorem cV (sz len n : Nat) : mL sz len (some n) = .os n sz 0 len := rfl
def aOU (g : aB) (es : List (List OV)) : Option Nat → Prop
 |none => es = []
 |some n => g n = none
theorem aDQ (g : aB) (es : List (List OV)) : aOU g es none = (es = []) := rfl
def gov (sz : Nat) (es : List (List OV)) : Option Nat → OV
 |none => .nil sz
 |some n => .sl n sz es
theorem aKF (sz : Nat) (es : List (List OV)) : gov sz es none = .nil sz := rfl
theorem aKG (sz : Nat) (es : List (List OV)) (n : Nat) : gov sz es (some n) = .sl n sz es := rfl
theorem a13 {α : Type} {R : α → List OV → Prop} {sz : Nat} {l : List α} {es : List (List OV)} {g : aB} {o : Option Nat} (h : OR R l es) (hs : aOU g es o) : OS R sz l (gov sz es o) := by
 cases o with
 |none => rw [aDQ] at hs; subst hs; exact .inl ⟨rfl, by have := h.length; simpa using this⟩
 |some n => exact OS.mk h
theorem aWQ {sz : Nat} {es : List (List OV)} {h g : aB} {o : Option Nat} (x : iM h (OV.bG es) g) (hs : aOU g es o) : iM h (gov sz es o).rows (gQ g (.row sz (OV.cells es)) o) := by
 cases o with
 |none => rw [aDQ] at hs; subst hs; rw [aKF, OV.nC, aR]; simpa [OV.bG] using x
 |some n => rw [aKG, OV.dI, aL]; exact x.row hs
theorem oC (es : List (List OV)) : List.take es.length (OV.cells es) = OV.cells es := List.take_of_length_le (by simp [OV.cells])
theorem aMX (es : List (List OV)) (e : List OV) : OV.cells (es ++ [e]) = OV.cells es ++ [e.map fun c => Cell.v c.val] := by rw [cP]; rfl
theorem aQU (e : List OV) : OV.cells [e] = [e.map fun c => Cell.v c.val] := rfl
theorem mV (sz len : Nat) (o : Option Nat) : (mL sz len o).flat = true := by cases o <;> rfl
theorem fX (es : List (List OV)) : (OV.cells es).length = es.length := by simp [OV.cells]
theorem iM.snoc {h g g1 : aB} {es : List (List OV)} {e : List OV} (x : iM h (OV.bG es) g) (y : iM g (OV.bM e) g1) : iM h (OV.bG (es ++ [e])) g1 := by
 rw [rP]; exact x.append y
def aB.wk (g h : aB) : Prop := ∀ E w, Rel E h w → Rel E g w ∧ ∀ b, mH E h w b → mH E g w b
theorem aB.iX {g h : aB} (hl : g.le h) : g.wk h := fun E w R => ⟨R.forget hl, fun b i => mH.le hl i⟩
theorem aB.wk.trans {a b c : aB} (x : a.wk b) (y : b.wk c) : a.wk c := fun E w R =>
 ⟨(x E w (y E w R).1).1, fun d i => (x E w (y E w R).1).2 d ((y E w R).2 d i)⟩
theorem aB.wk.ev {g h : aB} (x : g.wk h) {E : Env} {w : World} (R : Rel E h w) : Ev E h w E g w :=
 ⟨Nat.le_refl _, fun b hb => ⟨rfl, (x E w R).2 b hb⟩, fun _ _ => rfl, fun _ hn => ⟨rfl, hn⟩, rfl, rfl⟩
theorem mI.wk {P : Program} {N : Nat} {c : Code} {Q : Exit → bB → aB → Prop} {τ : bB} {h g : aB} (hl : g.wk h) (x : mI P N c Q τ g) : mI P N c Q τ h :=
 fun ds E w a R r => Code.wp_mono (fun e a' w' y => o7.trans (hl.ev R) y) (x ds E w a (hl E w R).1 (r.ev (hl.ev R)))
theorem mI.aKH {P : Program} {N : Nat} {c : Code} {Q : Exit → bB → aB → Prop} {τ : bB} {h : aB} {α : Type} (S : α → bB) (H : α → aB) (side : α → Prop) (μ : α → Nat) (x₀ : α)
  (h₀ : b8 (S x₀) τ ∧ (H x₀).wk h ∧ side x₀)
  (round : ∀ x, side x → mI P N c (r8 (fun τ' h' => ∃ x', b8 (S x') τ' ∧ (H x').wk h' ∧ side x' ∧ μ x' < μ x) Q) (S x) (H x)) : mI P N (.loop c) Q τ h :=
 mI.loop (fun x τ h => b8 (S x) τ ∧ (H x).wk h ∧ side x) μ x₀ h₀ fun x τ h ⟨h1, h2, h3⟩ =>
  mI.wk h2 (mI.weaken h1 (aB.le_refl _) ((round x h3).mono fun e τ h q => by
   cases e <;> simp only [r8] at q ⊢ <;> first | exact q | (obtain ⟨x', a, b, c, d⟩ := q; exact ⟨x', ⟨a, b, c⟩, d⟩)))
theorem aKH {P : Program} {N : Nat} {keep ib : List Nat} {mk : Marks} {c : Code} {Q : Exit → bB → aB → Prop} {τ : bB} {h : aB} {t : Tag (Code.loop c, Q)} {α : Type} (hmix : P.follows .mixedOrders = true) (hc : iS N mk c = true) (S : α → bB) (H : α → aB) (side : α → Prop) (μ : α → Nat) (x₀ : α)
  (h₀ : b8 (S x₀) τ ∧ (H x₀).wk h ∧ side x₀)
  (round : ∀ x, side x → oQ P N keep ib mk c (fun τ' h' => ∃ x', b8 (S x') τ' ∧ (H x').wk h' ∧ side x' ∧ μ x' < μ x) Q (S x) (H x) ()) : yH P N (.loop c) Q τ h t :=
 mI.aKH S H side μ x₀ h₀ fun x hx => aC8 hmix c _ _ _ _ hc (round x hx)
def vM (x y : Cell) : Prop := ∀ E h w c S, rK E h w x c S → rK E h w y c S
theorem vM.refl (x : Cell) : vM x x := fun _ _ _ _ _ r => r
theorem vM.v {x y : aD} (s : Sub x y) : vM (.v x) (.v y) := fun E h w c S r => by
 cases r with
 |v _ _ _ h1 hx => exact .v _ _ _ h1 (s _ _ _ _ hx)
def k7 : List (List Cell) → List (List Cell) → Prop
 | [], [] => True
 |a :: l, b :: m => (a.length = b.length ∧ ∀ (j : Nat) (x : Cell), b[j]? = some x → ∃ y, a[j]? = some y ∧ vM y x) ∧ k7 l m
 | _, _ => False
theorem k7.last {a b : List Cell} (hl : a.length = b.length) (hc : ∀ (j : Nat) (x : Cell), b[j]? = some x → ∃ y, a[j]? = some y ∧ vM y x) : ∀ l, k7 (l ++ [a]) (l ++ [b])
 | [] => ⟨⟨hl, hc⟩, trivial⟩
 |c :: l => ⟨⟨rfl, fun j x h => ⟨x, h, .refl x⟩⟩, k7.last hl hc l⟩
theorem k7.length : ∀ {l m}, k7 l m → l.length = m.length
 | [], [], _ => rfl
 |a :: l, b :: m, h => by rw [List.length_cons, List.length_cons, k7.length h.2]
 | [], _ :: _, h => h.elim
 | _ :: _, [], h => h.elim
theorem k7.size {sz : Nat} : ∀ {l m}, k7 l m → (∀ e ∈ l, e.length = sz) → ∀ e ∈ m, e.length = sz
 | [], [], _, _ => by simp
 |a :: l, b :: m, h, hs => fun e he => by
  rcases List.mem_cons.1 he with rfl | he
  ·rw [← h.1.1]; exact hs a List.mem_cons_self
  ·exact k7.size h.2 (fun e he => hs e (List.mem_cons_of_mem _ he)) e he
 | [], _ :: _, h, _ => h.elim
 | _ :: _, [], h, _ => h.elim
theorem k7.gO : ∀ {l m} (i j : Nat) (x : Cell), k7 l m → Hl.gO m i j = some x → ∃ y, Hl.gO l i j = some y ∧ vM y x
 | [], [], i, j, x, _, h => by simp [Hl.gO] at h
 |a :: l, b :: m, 0, j, x, w, h => by simp only [Hl.gO, List.getElem?_cons_zero, Option.bind_some] at h ⊢; exact w.1.2 j x h
 |a :: l, b :: m, i + 1, j, x, w, h => by simp only [Hl.gO, List.getElem?_cons_succ] at h ⊢; exact k7.gO i j x w.2 h
 | [], _ :: _, _, _, _, w, _ => w.elim
 | _ :: _, [], _, _, _, w, _ => w.elim
theorem aB.a14 {g h : aB} {m sz : Nat} {es es' : List (List Cell)} (hg : ∀ q, q ≠ m → g q = h q) (hm : h m = some (.row sz es)) (gm : g m = some (.row sz es')) (hw : k7 es es') : g.wk h := fun E w R => by
 have live : ∀ q o, g q = some o → ∃ o', h q = some o' ∧ (o.live → o'.live) := fun q o ho => by
  by_cases e : q = m
  ·subst e; exact ⟨_, hm, fun _ => trivial⟩
  ·rw [hg q e] at ho; exact ⟨o, ho, id⟩
 have live' : ∀ q o, h q = some o → ∃ o', g q = some o' ∧ (o.live → o'.live) := fun q o ho => by
  by_cases e : q = m
  ·subst e; exact ⟨_, gm, fun _ => trivial⟩
  ·rw [← hg q e] at ho; exact ⟨o, ho, id⟩
 have nS : ∀ b, mH E h w b → mH E g w b := fun b i => ⟨i.1, fun q o ho hl => by
  obtain ⟨o', h1, h2⟩ := live q o ho; exact i.2 q o' h1 (h2 hl)⟩
 refine ⟨⟨R.fin, fun n hn => R.dom n fun e => ?_, fun n o b hn hl => ?_, fun n o n' o' b hn hl hn' hl' => ?_, fun n o hn => ?_, R.laid.nS nS⟩, nS⟩
 ·by_cases e2 : n = m
  ·subst e2; rw [hm] at e; cases e
  ·rw [hg n e2] at hn; exact hn e
 ·obtain ⟨o2, h1, h2⟩ := live n o hn
  exact R.lt n o2 b h1 (h2 hl)
 ·obtain ⟨o2, h1, h2⟩ := live n o hn
  obtain ⟨o3, h3, h4⟩ := live n' o' hn'
  exact R.apart n o2 n' o3 b h1 (h2 hl) h3 (h4 hl')
 ·by_cases e : n = m
  ·subst e
   rw [gm] at hn
   obtain rfl := Option.some.inj hn
   rcases R.obj n _ hm with ⟨b, o2, hl, ra⟩ | ⟨he, hl⟩
   ·refine .inl ⟨b, o2, hl, ra.hb, hw.size ra.size, ?_⟩
    obtain ⟨cs, t, cv, T, h1, h2, h3, h4, h5, h6⟩ := ra.mem
    refine ⟨cs, t, cv, T, h1, by rw [← hw.length]; exact h2, h3, h4, fun i j x hx => ?_, fun i j x hx => ?_⟩
    ·obtain ⟨y, hy, _⟩ := hw.gO i j x hx; exact h5 i j y hy
    ·obtain ⟨y, hy, hyx⟩ := hw.gO i j x hx; exact (hyx _ _ _ _ _ (h6 i j y hy)).nS nS
   ·subst he
    have : es' = [] := by have := hw.length; simp at this; exact List.length_eq_zero_iff.1 this.symm
    exact .inr ⟨this, hl⟩
  ·rw [hg n e] at hn
   exact (R.obj n o hn).nS nS
theorem k7.sub {xs ys : List aD} (s : fH xs ys) (A : List (List Cell)) : k7 (A ++ [xs.map .v]) (A ++ [ys.map .v]) := by
 refine k7.last (by simpa using s.1) (fun j x hx => ?_) A
 rw [List.getElem?_map, Option.map_eq_some_iff] at hx
 obtain ⟨y, hy, rfl⟩ := hx
 have hlt : j < ys.length := (List.getElem?_eq_some_iff.1 hy).1
 have hxl : j < xs.length := by rw [s.1]; exact hlt
 have hx2 : xs[j]? = some xs[j] := List.getElem?_eq_getElem hxl
 exact ⟨.v xs[j], by rw [List.getElem?_map, hx2]; rfl, vM.v (s.2 j _ _ hx2 hy)⟩
abbrev Q4 := Option (Nat × Nat × Nat × Nat)
def q1 : Q4 → Option Nat | none => none | some x => some x.1
def q2 : Q4 → Option Nat | none => none | some x => some x.2.1
def q3 : Q4 → Option Nat | none => none | some x => some x.2.2.1
def q4 : Q4 → Option Nat | none => none | some x => some x.2.2.2
theorem pC {α : Type} (c : α → aD) (l : List α) (k : Nat) (x : α) : ((l.map fun x => [c x]).map (List.map Cell.v)).set k [Cell.v (c x)] = ((l.set k x).map fun x => [c x]).map (List.map Cell.v) := by
 rw [List.map_map, List.map_map, List.map_set]; rfl
theorem OR.xF {α : Type} {c : α → aD} : ∀ {l : List α} {es : List (List OV)}, OR (oP c) l es → es = l.map fun x => [.v (c x)]
 | [], [], _ => rfl
 |x :: l, e :: es, h => by rw [List.map_cons, ← OR.xF h.2, show e = [.v (c x)] from h.1]
 | [], _ :: _, h => h.elim
 | _ :: _, [], h => h.elim
theorem OS.xF {α : Type} {c : α → aD} {sz : Nat} {l : List α} {y : OV} (h : OS (oP c) sz l y) : (y = .nil sz ∧ l = []) ∨ ∃ n, y = .sl n sz (l.map fun x => [.v (c x)]) := by
 rcases h with h | ⟨n, es, rfl, h⟩
 ·exact .inl h
 ·exact .inr ⟨n, by rw [h.xF]⟩
theorem OV.j9 {α : Type} (c : α → aD) (n sz : Nat) (l : List α) : (OV.sl n sz (l.map fun x => [.v (c x)])).val = .os n sz 0 l.length := by rw [OV.nD, List.length_map]
theorem iM.aKI {h g : aB} (e1 : List OV) {e2 : List OV} {n sz : Nat} {es : List (List OV)} (x : iM h (OV.bM (e1 ++ OV.sl n sz es :: e2)) g) : g n = some (.row sz (OV.cells es)) :=
 x.iJ (n, _) (by rw [OV.vG, OV.cT, OV.dI]; simp)
theorem oU {P : Program} {N : Nat} {keep ib : List Nat} {mk : Marks} {c : Code} {Q : Exit → bB → aB → Prop} {τ : bB} {h : aB} {t : Tag (Code.loop c, Q)} {α : Type} (hmix : P.follows .mixedOrders = true) (hc : iS N mk c = true) (S : α → bB) (side : α → Prop) (μ : α → Nat) (x₀ : α)
  (h₀ : b8 (S x₀) τ ∧ side x₀)
  (round : ∀ x, side x → oQ P N keep ib mk c (fun τ' h' => ∃ x', b8 (S x') τ' ∧ h.le h' ∧ side x' ∧ μ x' < μ x) Q (S x) h ()) : yH P N (.loop c) Q τ h t :=
 bX hmix hc S (fun _ => h) side μ x₀ ⟨h₀.1, aB.le_refl _, h₀.2⟩ round
theorem qE {h : aB} {n : Nat} {o : bL} (hn : h n = some o) : a5 h n o = h := by
 funext q; simp only [c8]; split
 ·subst_vars; exact hn.symm
 ·rfl
theorem tP {P : Program} {N : Nat} {keep ib : List Nat} {mk : Marks} {c : Code} {Q : Exit → bB → aB → Prop} {τ : bB} {h : aB} {t : Tag (Code.loop c, Q)} {α : Type} (hmix : P.follows .mixedOrders = true) (hc : iS N mk c = true) (S : α → bB) (n : Nat) (R : α → bL) (side : α → Prop) (μ : α → Nat) (x₀ : α)
  (h₀ : b8 (S x₀) τ ∧ h n = some (R x₀) ∧ side x₀)
  (round : ∀ x, side x → oQ P N keep ib mk c (fun τ' h' => ∃ x', b8 (S x') τ' ∧ (a5 h n (R x')).le h' ∧ side x' ∧ μ x' < μ x) Q (S x) (a5 h n (R x)) ()) : yH P N (.loop c) Q τ h t :=
 bX hmix hc S (fun x => a5 h n (R x)) side μ x₀ ⟨h₀.1, by simp only [qE h₀.2.1]; exact aB.le_refl _, h₀.2.2⟩ round
theorem aB.fD {g h : aB} {n : Nat} {o : bL} (hl : g.le h) : (a5 g n o).le (a5 h n o) := fun q => by
 simp only [c8]; split
 ·exact .inr rfl
 ·exact hl q
theorem View.box {T : List aD} {g : aB} {nb sz : Nat} {e : List OV} (hd : e.map OV.lA = T) (hn : g nb = none) (ho : eM g (OV.bM e)) : View (a5 g nb (.row sz (OV.cells [e]))) (.op nb sz 0 0) (.ip sz [T] 0 0) := by
 have := View.op (h := a5 g nb (.row sz (OV.cells [e]))) (n := nb) (sz := sz) (i := 0) (off := 0) [e] (by rw [aH]) (by simp) (by
  have h1 : OV.bG [e] = OV.bM e := by simp [OV.bG]
  rw [h1]; exact ho.up hn)
 have h2 : OV.cS [e] = [T] := by rw [OV.iT]; simp [hd]
 rwa [h2] at this
theorem aQV {es : List (List OV)} {k : Nat} {e : List OV} (h : es[k]? = some e) : (OV.cells es)[k]? = some (e.map fun c => Cell.v c.val) := by
 rw [OV.cells, List.getElem?_map, h]; rfl
theorem OR.a7U {α : Type} {R : α → List OV → Prop} : ∀ {l : List α} {es : List (List OV)}, OR R l es → ∀ (k : Nat) x, l[k]? = some x → ∃ e, es[k]? = some e ∧ R x e
 | [], [], _, k, x, h => by simp at h
 |a :: l, b :: es, h, 0, x, e => by simp at e; subst e; exact ⟨b, rfl, h.1⟩
 |a :: l, b :: es, h, k + 1, x, e => OR.a7U h.2 k x (by simpa using e)
 | [], _ :: _, h, _, _, _ => h.elim
 | _ :: _, [], h, _, _, _ => h.elim
theorem OR.set {α : Type} {R : α → List OV → Prop} : ∀ {l : List α} {es : List (List OV)}, OR R l es → ∀ (k : Nat) x e, R x e → OR R (l.set k x) (es.set k e)
 | [], [], _, k, x, e, _ => by simp [OR]
 |a :: l, b :: es, h, 0, x, e, he => ⟨he, h.2⟩
 |a :: l, b :: es, h, k + 1, x, e, he => ⟨h.1, OR.set h.2 k x e he⟩
 | [], _ :: _, h, _, _, _, _ => h.elim
 | _ :: _, [], h, _, _, _, _ => h.elim
def leX (S : List Nat) (g h : aB) : Prop := ∀ q, q ∉ S → g q = none ∨ g q = h q
theorem jM {g h : aB} (x : leX [] g h) : g.le h := fun q => x q (by simp)
theorem h8 (S : List Nat) (g : aB) : leX S g g := fun q _ => .inr rfl
theorem jN {S : List Nat} {g h : aB} {n : Nat} {o : bL} (hn : h n = some o) (x : leX (n :: S) g h) : leX S (a5 g n o) h := fun q hq => by
 simp only [c8]; split
 ·subst_vars; exact .inr hn.symm
 ·rename_i e; exact x q (by simp only [List.mem_cons, not_or]; exact ⟨e, hq⟩)
theorem fY {S : List Nat} {g h : aB} {n : Nat} {o : bL} (hn : n ∈ S ∨ g n = none) (x : leX S g h) : leX S g (a5 h n o) := fun q hq => by
 simp only [c8]; split
 ·subst_vars
  rcases hn with hn | hn
  ·exact absurd hn hq
  ·exact .inl hn
 ·exact x q hq
theorem eH.wk {P : Program} {f : FuncId} {args : List aD} {g h : aB} {K : aD → aB → Prop} (hl : g.wk h) (a : eH P f args g K) : eH P f args h K :=
 ⟨a.1, fun E w vs R r => by
  obtain ⟨R', hi⟩ := hl E w R
  exact (a.2 E w vs R' (cX.nS hi r)).mono fun e w' q => by
   cases e with
   |returned v =>
    obtain ⟨r, h', E', k, ev, R2, r2⟩ := q
    exact ⟨r, h', E', k, (hl.ev R).trans ev, R2, r2⟩
   | _ => exact q.elim⟩
theorem aG.wk {P : Program} {f : FuncId} {args : List aD} {g h : aB} {K : aD → aB → Prop} {t : Tag K} (hl : g.wk h) (a : aG P f args g K t) : aG P f args h K t := eH.wk hl a
theorem eH.shift {P : Program} {f : FuncId} {args : List aD} {h : aB} {K K' : aD → aB → Prop} (a : eH P f args h K') (hk : ∀ r h', K' r h' → ∃ g : aB, g.wk h' ∧ K r g) : eH P f args h K :=
 ⟨a.1, fun E w vs R r => by
  exact (a.2 E w vs R r).mono fun e w' q => by
   cases e with
   |returned v =>
    obtain ⟨r, h', E', k, ev, R2, r2⟩ := q
    obtain ⟨g, hg, k'⟩ := hk r h' k
    obtain ⟨R3, hi⟩ := hg E' w' R2
    exact ⟨r, g, E', k', ev.trans (hg.ev R2), R3, dY.nS hi r2⟩
   | _ => exact q.elim⟩
def wE (c : List Int) (k : Nat) : List Int := c.take k ++ List.replicate (c.length - k) 0
theorem vN (c : List Int) : wE c 0 = List.replicate c.length 0 := by simp [wE]
theorem yS (c : List Int) : wE c c.length = c := by simp [wE]
theorem yT (c : List Int) {k : Nat} (hk : k ≤ c.length) : (wE c k).length = c.length := by simp [wE]; omega
theorem yU {c : List Int} {k : Nat} (hk : k < c.length) : (wE c k)[k]? = some 0 := by
 have h1 : (c.take k).length = k := by rw [List.length_take]; omega
 rw [wE, List.getElem?_append_right (by omega), h1, Nat.sub_self, List.getElem?_replicate, if_pos (by omega)]
theorem wF {c : List Int} {k : Nat} (hk : k < c.length) : (wE c k).set k c[k] = wE c (k + 1) := by
 have h1 : (c.take k).length = k := by rw [List.length_take]; omega
 rw [wE, wE, List.set_append_right _ _ (by omega), h1, Nat.sub_self, List.take_succ_eq_append_getElem hk, show c.length - k = (c.length - (k + 1)) + 1 by omega, List.replicate_succ, List.set_cons_zero, List.append_assoc, List.singleton_append]
theorem rD (n : Nat) : (List.replicate n [aD.int .i64 0]).map (List.map Cell.v) = ((List.replicate n (0 : Int)).map fun n => [aD.int .i64 n]).map (List.map Cell.v) := by simp
theorem gG {P : Program} {f : FuncId} {fn : Func} {c : Code} (N : Nat) (keep ib : List Nat) (mk : Marks) {args : List aD} {h : aB} {K : aD → aB → Prop} (hmix : P.follows .mixedOrders = true) (hf : P.funcs[f]? = some fn) (hb : fn.body = some c)
  (hck : (kS P f && decide (fn.ntmps = N) && iS N mk c) = true) (hl : args.length ≤ N)
  (hw : oQ P N keep ib mk c (fun τ h' => p9 P fn.results (fun r h' => ∃ r1 g, Shift r h' r1 g ∧ K r1 g) () .normal τ h') (p9 P fn.results (fun r h' => ∃ r1 g, Shift r h' r1 g ∧ K r1 g) ()) (p6 0 args) h ()) : eH P f args h K :=
 p8 (fn := fn) (c := c) (N := N) (aC5 N keep ib mk hmix hf hb hck hl (K' := fun r h' => ∃ r1 g, Shift r h' r1 g ∧ K r1 g) (K := fun r h' => ∃ r1 g, Shift r h' r1 g ∧ K r1 g) hw fun _ h' hx => ⟨h', aB.le_refl _, hx⟩) fun r h' hx => hx
theorem cX.nT {E : Env} {h : aB} {w : World} (R : Rel E h w) {n sz : Nat} {es : List (List Cell)} (hn : h n = some (.row sz es)) : ∀ {xs : List aD} {vs : List Value}, cX E h w xs vs → e8 n sz es.length xs = true → cX E (a5 h n .gone) w (kH n (dR es) xs) vs
 | [], [], _, _ => trivial
 |x :: xs, v :: vs, r, hb => by
  simp only [e8, Bool.and_eq_true] at hb
  exact ⟨r.1.nT R hn hb.1, cX.nT R hn r.2 hb.2⟩
 | [], _ :: _, r, _ => r.elim
 | _ :: _, [], r, _ => r.elim
theorem aG.aS0 {P : Program} {f : FuncId} {args : List aD} {h : aB} {K : aD → aB → Prop} {t : Tag K} (n : Nat) {sz : Nat} {es : List (List Cell)} (hn : h n = some (.row sz es)) (hb : e8 n sz es.length args = true)
  (a : eH P f (kH n (dR es) args) (a5 h n .gone) K) : aG P f args h K t :=
 ⟨a.1, fun E w vs R r => (a.2 E w vs (R.gone hn) (r.nT R hn hb)).mono fun e w' q => by
  cases e with
  |returned v =>
   obtain ⟨r, h', E', k, ev, R2, r2⟩ := q
   exact ⟨r, h', E', k, (Ev.gone n).trans ev, R2, r2⟩
  | _ => exact q.elim⟩
def Cell.uM (n : Nat) (es : List (List aD)) : Cell → Cell
 | .v x => .v (x.c9 n es)
 | .own sz ys => .own sz ys
theorem aF5 (m : Nat) (vs : List (List aD)) (es : List (List Cell)) (i j : Nat) : gO (es.map (List.map (Cell.uM m vs))) i j = (gO es i j).map (Cell.uM m vs) := m7 _ _ _ _
theorem aB.aPJ {h : aB} {m b sz sz2 : Nat} {es es2 : List (List Cell)} (hm : h m = some (.row sz es)) (hb : h b = some (.row sz2 es2)) (hne : ¬ b = m) (hok : ∀ i j x, gO es2 i j = some (.v x) → eF m sz es.length x = true) :
  (a5 (a5 h m .gone) b (.row sz2 (es2.map (List.map (Cell.uM m (dR es)))))).wk h := fun E w R => by
 have R1 := R.gone hm
 have jL : (a5 h m .gone) b = some (.row sz2 es2) := by rw [aF _ _ _ _ hne]; exact hb
 have h0 : ∀ b, mH E h w b → mH E (a5 h m .gone) w b := fun b => uW m b

 have hrow := R.obj b _ hb
 have h1b : aCH E h w ((E.loc b).getD (0, 0)).1 ((E.loc b).getD (0, 0)).2 sz2 es2 (E.fp b) ∨ es2 = [] := by
  rcases hrow with ⟨k, o2, hlc, ra⟩ | ⟨he, _⟩
  ·left; rw [hlc]; exact ra
  ·exact .inr he
 have R2 : Rel E (a5 (a5 h m .gone) b (.row sz2 (es2.map (List.map (Cell.uM m (dR es)))))) w ∧ ∀ q, mH E (a5 h m .gone) w q → mH E (a5 (a5 h m .gone) b (.row sz2 (es2.map (List.map (Cell.uM m (dR es)))))) w q := by
  have live : ∀ q o, a5 (a5 h m .gone) b (.row sz2 (es2.map (List.map (Cell.uM m (dR es))))) q = some o → ∃ o', (a5 h m .gone) q = some o' ∧ (o.live → o'.live) := fun q o ho => by
   by_cases e : q = b
   ·subst e; exact ⟨_, jL, fun _ => trivial⟩
   ·rw [aF _ _ _ _ e] at ho; exact ⟨o, ho, id⟩
  have nS : ∀ q, mH E (a5 h m .gone) w q → mH E (a5 (a5 h m .gone) b (.row sz2 (es2.map (List.map (Cell.uM m (dR es)))))) w q := fun q i => ⟨i.1, fun n o ho hl => by
   obtain ⟨o', h1, h2⟩ := live n o ho; exact i.2 n o' h1 (h2 hl)⟩
  refine ⟨⟨R1.fin, fun n hn => R1.dom n fun e => ?_, fun n o c hn hl => ?_, fun n o n' o' c hn hl hn' hl' => ?_, fun n o hn => ?_, R1.laid.nS nS⟩, nS⟩
  ·by_cases e2 : n = b
   ·subst e2; rw [jL] at e; cases e
   ·rw [aF _ _ _ _ e2] at hn; exact hn e
  ·obtain ⟨o2, h1, h2⟩ := live n o hn
   exact R1.lt n o2 c h1 (h2 hl)
  ·obtain ⟨o2, h1, h2⟩ := live n o hn
   obtain ⟨o3, h3, h4⟩ := live n' o' hn'
   exact R1.apart n o2 n' o3 c h1 (h2 hl) h3 (h4 hl')
  ·by_cases e : n = b
   ·subst e
    rw [aH] at hn
    obtain rfl := Option.some.inj hn
    rcases hrow with ⟨k, o2, hlc, ra⟩ | ⟨he, hlc⟩
    ·refine .inl ⟨k, o2, hlc, ra.hb, fun e he => ?_, ?_⟩
     ·obtain ⟨e', he', rfl⟩ := List.mem_map.1 he
      rw [List.length_map]; exact ra.size e' he'
     obtain ⟨cs, t, cv, T, h1, h2, h3, h4, h5, h6⟩ := ra.mem
     refine ⟨cs, t, cv, T, h1, by rw [List.length_map]; exact h2, h3, h4, fun i j x hx => ?_, fun i j x hx => ?_⟩
     ·rw [aF5] at hx
      obtain ⟨y, hy, rfl⟩ := Option.map_eq_some_iff.1 hx
      exact h5 i j y hy
     ·rw [aF5] at hx
      obtain ⟨y, hy, rfl⟩ := Option.map_eq_some_iff.1 hx
      have hr := h6 i j y hy
      cases y with
      |v y =>
       cases hr with
       |v _ _ _ k1 k2 =>
        exact .v _ _ _ k1 ((k2.nT R hm (hok i j y hy)).nS nS)
      |own s ys => exact (hr.nS h0).nS nS
    ·subst he
     exact .inr ⟨rfl, hlc⟩
   ·rw [aF _ _ _ _ e] at hn
    exact (R1.obj n o hn).nS nS
 exact ⟨R2.1, fun q i => R2.2 q (h0 q i)⟩
def oL {α : Type} (c : α → aD) (l : List α) (e : List OV) : Prop := ∃ y, e = [y] ∧ OS (oP c) 1 l y
theorem a2R {α : Type} {c : α → aD} {l : List α} {e : List OV} (h : oL c l e) : e.map OV.lA = [.sl 1 (l.map fun x => [c x]) false] := by
 obtain ⟨y, rfl, hy⟩ := h
 rw [List.map_cons, List.map_nil, OS.lA (c := fun x => [c x]) (fun _ _ q => rO q) hy]
theorem iM.a75 {α : Type} {c : α → aD} {h g : aB} {b k n : Nat} {es : List (List OV)} {l : List α} (X : iM h (OV.bM [OV.sl b 1 es]) g) (hk : es[k]? = some [OV.sl n 1 (l.map fun x => [.v (c x)])]) :
  g n = some (.row 1 ((l.map fun x => [c x]).map (List.map .v))) ∧ ¬ n = b := by
 have hmem : (n, bL.row 1 ((l.map fun x => [c x]).map (List.map .v))) ∈ OV.bG es := by
  refine OV.wS (List.mem_of_getElem? hk) ?_
  rw [OV.cT, OV.eC, List.append_nil, OV.dI, fV]
  exact List.mem_cons_self
 refine ⟨X.iJ (n, _) ?_, fun e => ?_⟩
 ·rw [OV.cT, OV.eC, List.append_nil, OV.dI]
  exact List.mem_cons_of_mem _ hmem
 ·have nd := X.nodup
  rw [OV.cT, OV.eC, List.append_nil, OV.dI] at nd
  simp only [aY, List.map_cons, List.nodup_cons] at nd
  refine nd.1 ?_
  rw [← e]
  exact List.mem_map.2 ⟨_, hmem, rfl⟩
end Go.Hl

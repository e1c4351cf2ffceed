/-
  Contracts of functions and laws of the layer over the walk.
-/
import Derived.Test.YtpnelljgohjjdaaDoorHlC
import Derived.LaidLaws
import Derived.LaidHandle
import Derived.Stop.Joined
import Derived.Lib.LaidTab
import Derived.Shelf.Vars
import Derived.Sort.Grow
import Derived.Deep.Draws
import Derived.Below
namespace Go.Hl
set_option linter.unusedVariables false
set_option linter.unusedSimpArgs false
inductive OV where
 |v (x : aA)
 |nil (sz : Nat)
 |sl (n sz : Nat) (es : List (List OV))
def OV.val : OV → aA
 | .v x => x
 | .nil sz => .sl sz [] true
 | .sl n sz es => .os n sz 0 es.length
mutual
def OV.e9 : OV → aA
 | .v x => x
 | .nil sz => .sl sz [] false
 | .sl n sz es => .sl sz (OV.bA es) false
def OV.bA : List (List OV) → List (List aA)
 | [] => []
 |e :: es => OV.r4 e :: OV.bA es
def OV.r4 : List OV → List aA
 | [] => []
 |x :: e => x.e9 :: OV.r4 e
end
theorem OV.lL : ∀ (e : List OV), OV.r4 e = e.map OV.e9
 | [] => rfl
 |x :: e => by rw [OV.r4, OV.lL e]; rfl
theorem OV.cF : ∀ (es : List (List OV)), OV.bA es = es.map (List.map OV.e9)
 | [] => rfl
 |e :: es => by rw [OV.bA, OV.cF es, OV.lL]; rfl
def OV.cells (es : List (List OV)) : List (List Cell) := es.map (List.map fun c => Cell.v c.val)
mutual
def OV.rows : OV → List (Nat × aM)
 | .v _ => []
 | .nil _ => []
 | .sl n sz es => (n, .row sz (OV.cells es)) :: OV.aS es
def OV.aS : List (List OV) → List (Nat × aM)
 | [] => []
 |e :: es => OV.aR e ++ OV.aS es
def OV.aR : List OV → List (Nat × aM)
 | [] => []
 |x :: e => x.rows ++ OV.aR e
end
def cE (h : Heap) (l : List (Nat × aM)) : Prop := ∀ p ∈ l, h p.1 = some p.2
def dH (h : Heap) (S : List Nat) : Heap := fun m => if m ∈ S then (h m).map fun _ => .gone else h m
theorem gF {h : Heap} {S : List Nat} {m : Nat} {o : aM} (hm : m ∈ S) (ho : dH h S m = some o) : o = .gone := by
 simp only [dH, if_pos hm, Option.map_eq_some_iff] at ho
 obtain ⟨_, _, rfl⟩ := ho; rfl
theorem eK {h : Heap} {S : List Nat} {m : Nat} (hm : m ∉ S) : dH h S m = h m := by simp only [dH, if_neg hm]
theorem fH {E : Env} {h : Heap} {w : World} (S : List Nat) (b : Nat) (i : e8 E h w b) : e8 E (dH h S) w b :=
 ⟨i.1, fun m o hm ho => by
  by_cases e : m ∈ S
  ·rw [gF e hm] at ho; exact ho.elim
  ·rw [eK e] at hm; exact i.2 m o hm ho⟩
theorem r5 {E : Env} {h : Heap} {w : World} (R : Rel E h w) {S : List Nat} {n : Nat} (hS : n ∈ S) {x : aM} (hn : h n = some x) (hx : x.live) (b : Nat) (hb : E.fp n b) : e8 E (dH h S) w b :=
 ⟨R.lt n x b hn hx hb, fun m o hm ho hf => by
  by_cases e : m ∈ S
  ·rw [gF e hm] at ho; exact ho.elim
  ·rw [eK e] at hm
   have := R.apart m o n x b hm ho hn hx hf hb
   exact e (this ▸ hS)⟩
theorem Rel.dH {E : Env} {h : Heap} {w : World} (R : Rel E h w) (S : List Nat) : Rel E (dH h S) w := by
 refine ⟨R.fin, fun m hm => ?_, ?_, ?_, ?_, R.laid.j3 (fH S)⟩
 ·by_cases e : m ∈ S
  ·refine R.nC m fun q => hm ?_
   simp only [Hl.dH, if_pos e, q, Option.map_none]
  ·rw [eK e] at hm; exact R.nC m hm
 ·intro m o b hm ho
  by_cases e : m ∈ S
  ·rw [gF e hm] at ho; exact ho.elim
  ·rw [eK e] at hm; exact R.lt m o b hm ho
 ·intro m o m' o' b hm ho hm' ho'
  by_cases e : m ∈ S
  ·rw [gF e hm] at ho; exact ho.elim
  ·by_cases e' : m' ∈ S
   ·rw [gF e' hm'] at ho'; exact ho'.elim
   ·rw [eK e] at hm; rw [eK e'] at hm'; exact R.apart m o m' o' b hm ho hm' ho'
 ·intro m o hm
  by_cases e : m ∈ S
  ·rw [gF e hm]; trivial
  ·rw [eK e] at hm; exact (R.obj m o hm).j3 fun b => fH S b
theorem Ev.dH {E : Env} {h : Heap} {w : World} (S : List Nat) : Ev E h w E (dH h S) w :=
 ⟨Nat.le_refl _, fun b hb => ⟨rfl, fH S b hb⟩, fun _ _ => rfl, fun _ hn => ⟨rfl, hn⟩, rfl, rfl⟩
mutual
theorem aZ.nO {E : Env} {h : Heap} {w : World} (R : Rel E h w) {S : List Nat} : ∀ (x : OV), cE h x.rows → (∀ p ∈ x.rows, p.1 ∈ S) → ∀ v, aZ E h w x.val v → aZ E (Hl.dH h S) w x.e9 v
 | .v x, _, _, v, r => aZ.j3 (fun b => fH S b) r
 | .nil sz, _, _, v, r => Sub.loose sz [] true _ _ _ _ (aZ.j3 (fun b => fH S b) (show aZ E h w (.sl sz [] true) v from r))
 | .sl n sz es, ho, hS, v, r => by
  have hn : h n = some (.row sz (OV.cells es)) := ho (n, _) (by rw [OV.rows]; exact List.mem_cons_self)
  have hnS : n ∈ S := hS (n, _) (by rw [OV.rows]; exact List.mem_cons_self)
  simp only [OV.val] at r
  simp only [OV.e9]
  have hcells : ∀ i j y, b9 (OV.cells es) i j = some y → ∃ c, b9 es i j = some c ∧ y = .v c.val := by
   intro i j y hy
   rw [OV.cells, fI] at hy
   obtain ⟨c, hc, rfl⟩ := Option.map_eq_some_iff.1 hy
   exact ⟨c, hc, rfl⟩
  have hdat : ∀ i j y, b9 (OV.bA es) i j = some y → ∃ c, b9 es i j = some c ∧ y = c.e9 := by
   intro i j y hy
   rw [OV.cF, fI] at hy
   obtain ⟨c, hc, rfl⟩ := Option.map_eq_some_iff.1 hy
   exact ⟨c, hc, rfl⟩
  have hlen : (OV.bA es).length = es.length := by rw [OV.cF, List.length_map]
  have key : ∀ L, L = es.length → aZ E h w (.os n sz 0 L) v → aZ E (Hl.dH h S) w (.sl sz (OV.bA es) false) v := by
   intro L hL r
   cases r with
   |sR _ _ hd hl =>
    have : es = [] := List.eq_nil_of_length_eq_zero hL.symm
    subst this
    exact .k6 sz false none 0 (fun _ => rfl) (by simp [maxLen]) trivial
   |os _ _ _ _ b o cap t m hd hl hlc hmax hsh hm =>
    obtain ⟨b', o', hl', hbS, hs, cs, ct, cv, T, hh, hm', hT, hD, hc, hrr⟩ := j5 R hn (.inr ⟨_, hl⟩)
    rw [hl] at hl'
    obtain ⟨rfl, rfl⟩ := Prod.mk.inj (Option.some.inj hl')
    have himm : ∀ c, E.fp n c → e8 E (Hl.dH h S) w c := fun c hc => r5 R hnS hn trivial c hc
    have hcs : ∀ i j y, b9 (OV.bA es) i j = some y → ∃ c, b9 es i j = some c ∧ y = c.e9 ∧ cs[o + i * sz + j]? = some (cv i j) ∧ (cv i j).oneCell' = true ∧ aZ E h w c.val (cv i j) := by
     intro i j y hy
     obtain ⟨c, x3, rfl⟩ := hdat i j y hy
     have hcell : b9 (OV.cells es) i j = some (.v c.val) := by rw [OV.cells, fI, x3]; rfl
     have h2 := hrr i j _ hcell
     cases h2 with
     |v x c' S' h1 hx => exact ⟨c, x3, rfl, hc i j _ hcell, h1, hx⟩
    have := aZ.sl (E := E) (h := Hl.dH h S) (w := w) sz (OV.bA es) false b (o + 0 * sz) cap cv (himm b hbS) (by rw [hlen, ← hL]; exact hlc) hmax (fun e => by simp at e)
     (fun e he => by
      rw [OV.cF, List.mem_map] at he
      obtain ⟨e', he', rfl⟩ := he
      have := hs (e'.map fun c => Cell.v c.val) (List.mem_map.2 ⟨e', he', rfl⟩)
      simpa using this)
     (fun i j y hy => by
      obtain ⟨c, _, _, h1, _, _⟩ := hcs i j y hy
      simp only [World.cell?, hh]
      rw [← h1]
      simp)
     (fun i j y hy => by obtain ⟨c, _, _, _, h1, _⟩ := hcs i j y hy; exact h1)
     (fun i j y hy => by
      obtain ⟨c, x3, rfl, _, _, h1⟩ := hcs i j y hy
      obtain ⟨e, he, hj⟩ := dF x3
      exact mX R es (fun p hp => ho p (by rw [OV.rows]; exact List.mem_cons_of_mem _ hp)) (fun p hp => hS p (by rw [OV.rows]; exact List.mem_cons_of_mem _ hp)) e (List.mem_of_getElem? he) c (List.mem_of_getElem? hj) _ h1)
    rw [hlen, ← hL] at this
    exact this
  exact key _ rfl r
theorem mX {E : Env} {h : Heap} {w : World} (R : Rel E h w) {S : List Nat} : ∀ (es : List (List OV)), cE h (OV.aS es) → (∀ p ∈ OV.aS es, p.1 ∈ S) → ∀ e ∈ es, ∀ c ∈ e, ∀ v, aZ E h w c.val v → aZ E (Hl.dH h S) w c.e9 v
 | [], _, _, e, he, _, _, _, _ => by simp at he
 |a :: es, ho, hS, e, he, c, hc, v, r => by
  rcases List.mem_cons.1 he with h1 | h1
  ·rw [h1] at hc
   exact tU R a (fun p hp => ho p (by rw [OV.aS]; exact List.mem_append_left _ hp)) (fun p hp => hS p (by rw [OV.aS]; exact List.mem_append_left _ hp)) c hc v r
  ·exact mX R es (fun p hp => ho p (by rw [OV.aS]; exact List.mem_append_right _ hp)) (fun p hp => hS p (by rw [OV.aS]; exact List.mem_append_right _ hp)) e h1 c hc v r
theorem tU {E : Env} {h : Heap} {w : World} (R : Rel E h w) {S : List Nat} : ∀ (e : List OV), cE h (OV.aR e) → (∀ p ∈ OV.aR e, p.1 ∈ S) → ∀ c ∈ e, ∀ v, aZ E h w c.val v → aZ E (Hl.dH h S) w c.e9 v
 | [], _, _, c, hc, _, _ => by simp at hc
 |a :: e, ho, hS, c, hc, v, r => by
  rcases List.mem_cons.1 hc with h1 | h1
  ·rw [h1] at r ⊢
   exact aZ.nO R a (fun p hp => ho p (by rw [OV.aR]; exact List.mem_append_left _ hp)) (fun p hp => hS p (by rw [OV.aR]; exact List.mem_append_left _ hp)) v r
  ·exact tU R e (fun p hp => ho p (by rw [OV.aR]; exact List.mem_append_right _ hp)) (fun p hp => hS p (by rw [OV.aR]; exact List.mem_append_right _ hp)) c h1 v r
end
mutual
def aA.bF : aA → Bool
 | .any | .bool _ | .int _ _ | .str _ | .dJ | .aV | .gH | .cK | .dX => true
 | .os _ _ _ _ | .op _ _ _ _ | .mp _ => true
 | .sl _ es _ => es.isEmpty
 | .agg cs => aA.iH cs
 | .bY cs => aA.iH cs
 | _ => false
def aA.iH : List aA → Bool
 | [] => true
 |x :: xs => x.bF && aA.iH xs
end
theorem aA.lM : ∀ {l : List aA}, aA.iH l = true → ∀ (i : Nat) x, l[i]? = some x → x.bF = true
 |y :: l, h, 0, x, hx => by simp only [aA.iH, Bool.and_eq_true] at h; simp at hx; subst hx; exact h.1
 |y :: l, h, i + 1, x, hx => by simp only [aA.iH, Bool.and_eq_true] at h; exact aA.lM h.2 i x (by simpa using hx)
 | [], _, i, x, hx => by simp at hx
def Cell.bF : Cell → Bool
 | .v x => x.bF
 | .own _ _ => false
def aM.bF : aM → Bool
 | .row _ es => es.all fun e => e.all Cell.bF
 | .map _ _ _ => false
 | .gone => true
theorem aZ.bF {E E' : Env} {h h' : Heap} {w w' : World} (hl : ∀ n, E.used n → E'.loc n = E.loc n ∧ E'.used n) (hs : ∀ b, b < w.heap.size → w'.shape? b = w.shape? b) {x : aA} {v : Value} (r : aZ E h w x v) (hx : x.bF = true) : aZ E' h' w' x v := by
 induction r with
 |any v => exact .any v
 |bool b => exact .bool b
 |int k n => exact .int k n
 |str s hl => exact .str s hl
 |dJ => exact .dJ
 |aV => exact .aV
 |gH => exact .gH
 |cK => exact .cK
 |dX => exact .dX
 |k6 sz t a cap ht hmax ha => exact .k6 sz t a cap ht hmax ha
 |sl sz es t b o cap cv hi hcap hmax ht hs' hc h1 hr ih =>
  simp only [aA.bF, List.isEmpty_iff] at hx
  subst hx
  exact .k6 sz t _ cap (fun e => by have := ht e; simpa using this) hmax trivial
 |ip sz es i off b o cv hi hs' hc h1 hr ih => simp [aA.bF] at hx
 |os n sz i len b o cap t m hd hl' hlc hmax hsh hm => exact .os n sz i len b o cap t m (hl n hd).2 ((hl n hd).1.trans hl') hlc hmax ((hs b (oH hsh)).trans hsh) hm
 |sR n sz hd hl' => exact .sR n sz (hl n hd).2 ((hl n hd).1.trans hl')
 |op n sz i off b o hd hl' => exact .op n sz i off b o (hl n hd).2 ((hl n hd).1.trans hl')
 |agg cs vs hle hr ih => exact .agg cs vs hle fun i x v a b => ih i x v a b (aA.lM (by simpa only [aA.bF] using hx) i x a)
 |bY cs vs hle hr ih => exact .bY cs vs hle fun i x v a b => ih i x v a b (aA.lM (by simpa only [aA.bF] using hx) i x a)
 |fn f cs ds vs us hle hr hle' hr' ih ih' => simp [aA.bF] at hx
 |iface t x v hr ih => simp [aA.bF] at hx
 |mp n b o hd hl' => exact .mp n b o (hl n hd).2 ((hl n hd).1.trans hl')
theorem lV.bF {E E' : Env} {h h' : Heap} {w w' : World} (hl : ∀ n, E.used n → E'.loc n = E.loc n ∧ E'.used n) (hs : ∀ b, b < w.heap.size → w'.shape? b = w.shape? b) {n : Nat} {o : aM} (hn : E'.loc n = E.loc n) (hfp : E'.fp n = E.fp n)
  (hm : ∀ b, E.fp n b → w'.heap[b]? = w.heap[b]?) (ho : o.bF = true) (r : lV E h w n o) : lV E' h' w' n o := by
 cases o with
 |gone => trivial
 |map _ _ _ => simp [aM.bF] at ho
 |row sz es =>
  rcases r with ⟨b, o', h1, h2⟩ | ⟨h1, h2⟩
  ·refine .inl ⟨b, o', hn.trans h1, ?_⟩
   obtain ⟨hb, hsz, cs, t, cv, T, hh, hle, hT, hD, hc, hr⟩ := h2
   rw [hfp]
   refine ⟨hb, hsz, cs, t, cv, T, (hm b hb).trans hh, hle, hT, hD, hc, fun i j x hx => ?_⟩
   have hsx : x.bF = true := by
    obtain ⟨e, he, hj⟩ := dF hx
    have h3 := List.all_eq_true.1 ho e (List.mem_of_getElem? he)
    exact List.all_eq_true.1 h3 x (List.mem_of_getElem? hj)
   have hx' := hr i j x hx
   cases x with
   |own _ _ => simp [Cell.bF] at hsx
   |v y =>
    generalize cv i j = cc at hx'
    cases hx' with
    |v _ _ _ sX hy => exact .v y _ _ sX (hy.bF hl hs hsx)
  ·exact .inr ⟨h1, hn.trans h2⟩
def OR {α : Type} (R : α → List OV → Prop) : List α → List (List OV) → Prop
 | [], [] => True
 |x :: l, e :: es => R x e ∧ OR R l es
 | _, _ => False
def OS {α : Type} (R : α → List OV → Prop) (sz : Nat) (l : List α) (y : OV) : Prop := (y = .nil sz ∧ l = []) ∨ ∃ n es, y = .sl n sz es ∧ OR R l es
def oP {α : Type} (c : α → aA) (x : α) (e : List OV) : Prop := e = [.v (c x)]
theorem OR.length {α : Type} {R : α → List OV → Prop} : ∀ {l : List α} {es : List (List OV)}, OR R l es → l.length = es.length
 | [], [], _ => rfl
 |x :: l, e :: es, h => by simpa using OR.length h.2
 | [], _ :: _, h => h.elim
 | _ :: _, [], h => h.elim
theorem OR.e9 {α : Type} {R : α → List OV → Prop} {c : α → List aA} (hR : ∀ x e, R x e → e.map OV.e9 = c x) : ∀ {l : List α} {es : List (List OV)}, OR R l es → OV.bA es = l.map c
 | [], [], _ => rfl
 |x :: l, e :: es, h => by rw [OV.bA, OR.e9 hR h.2, OV.lL, hR x e h.1]; rfl
 | [], _ :: _, h => h.elim
 | _ :: _, [], h => h.elim
theorem OS.e9 {α : Type} {R : α → List OV → Prop} {c : α → List aA} {sz : Nat} {l : List α} {y : OV} (hR : ∀ x e, R x e → e.map OV.e9 = c x) (h : OS R sz l y) : y.e9 = .sl sz (l.map c) false := by
 rcases h with ⟨rfl, rfl⟩ | ⟨n, es, rfl, h⟩
 ·rfl
 ·simp only [OV.e9, OR.e9 hR h]
def aH (l : List (Nat × aM)) : List Nat := l.map (·.1)
def aDX (S : List Nat) (h h' : Heap) : Prop := ∀ m, m ∉ S → h' m = h m
open Go.ChangeShapes Go.WideShapes
set_option linter.unusedVariables false
set_option linter.unusedSimpArgs false
def szs {α : Type} (s : α → Nat) (l : List α) : Nat := l.length + (l.map s).sum
theorem vJ {α : Type} (s : α → Nat) (l : List α) : szs s l = l.length + (l.map s).sum := rfl
open Go.ChangeShapes Go.WideShapes
set_option linter.unusedVariables false
set_option linter.unusedSimpArgs false
theorem pH {H : Type} {enc : TypeId × Value → H} {a : Assume} {C : Checked} {os : Os} {f : FuncId} {fn : Func} {s : ChangeSpec} {conds : List PathCond} {apart fresh handsOn again : Bool} {X : World → Array Value → Prop}
  (hX : ∀ (w w' : World) (args : Array Value), w.heap = w'.heap → X w args → X w' args)
  (own : ownKnob C.prog.godebug = none) (started : os.Started) (noInit : C.prog.inits.idxOf? f = none) (hfn : C.prog.funcs[f]? = some fn)
  (witness : ∃ (w : World) (tape : Tape) (i : Input), w.os = os ∧ (w.forCall tape i).Shaped C.prog ∧ i.vars = [] ∧ Input.okWide C.prog (w.forCall tape i) .any w.heap.size f i ∧
   ((s.pre enc C.prog fn conds apart (w.forCall tape i).memory i.args ∧ X (w.forCall tape i).memory i.args) ∧ sizedMet enc C.prog fn (OpenSpec.ofChange s) apart (w.forCall tape i).memory i.args) ∧ a.holds C.prog (lone (Frame.enter C.prog f i.args .normal) [] (w.forCall tape i)))
  (contract : ∀ (W : World) (base : Nat) (args : Array Value) (ds gs : List (DataW H)) (before : List MemPlace), W.ShapedOpen C.prog →
   (∀ (j : Nat) t v, fn.params[j]? = some t → args[j]? = some v → Value.okWide C.prog W .any base t v) →
   DataW.Whole enc C.prog fn.params.toList s.vars apart W args.toList ds gs before →
   conds.all (PathCond.test C.prog ⟨fn.params.toList, ds, s.plain.varTypes C.prog, gs⟩) = true →
   (DataW.weightsEach C.prog (fn.params.toList ++ s.plain.varTypes C.prog) (ds ++ gs)).all (· ≤ reachBytes) = true → X W args →
   a.holds C.prog (lone (Frame.enter C.prog f args .normal) [] W) →
   Calls C.prog f args W fun e W' => ∃ v, e = .returned v ∧ s.post enc C.prog fn apart fresh handsOn again W args v W') :
  ReturnsInHanded a C os f .any (fun w args => (s.pre enc C.prog fn conds apart w args ∧ X w args) ∧ sizedMet enc C.prog fn (OpenSpec.ofChange s) apart w args) (s.post enc C.prog fn apart fresh handsOn again) := by
 refine returnsInHanded_of_calls own started noInit witness ?_
 intro w tape i _ hsh _ hok hpre hholds
 obtain ⟨_, _, _, fn', hfn', _, _, _, _, hval⟩ := hok
 have e : fn' = fn := Option.some.inj (hfn'.symm.trans hfn)
 subst e
 obtain ⟨⟨⟨ds, gs, before, hw, hc⟩, hx⟩, hz⟩ := hpre
 have hw' := DataW.Whole.of_heap (w' := w.forCall tape i) (by rfl) hw
 refine (contract (w.forCall tape i) w.heap.size i.args ds gs before hsh hval hw' hc (hz.weights hw) (hX _ _ _ (by rfl) hx) hholds).mono fun e W' ⟨v, he, hp⟩ => ?_
 subst he
 exact ChangeSpec.post_blind hp
theorem qP {H : Type} {enc : TypeId × Value → H} {C : Checked} {os : Os} {f : FuncId} {fn : Func} {s : ChangeSpec} {laid : List (String × DataW Unit)}
  (own : ownKnob C.prog.godebug = none) (started : os.Started) (noInit : C.prog.inits.idxOf? f = none) (hfn : C.prog.funcs[f]? = some fn)
  (witness : ∃ (w : World) (tape : Tape) (i : Input), w.os = os ∧ (w.forCall tape i).Shaped C.prog ∧ i.vars = [] ∧ Input.okWide C.prog (w.forCall tape i) .any w.heap.size f i ∧
   ((s.pre enc C.prog fn [] false (w.forCall tape i).memory i.args ∧ laidMetH C.prog laid (w.forCall tape i).memory) ∧ sizedMet enc C.prog fn (OpenSpec.ofChange s) false (w.forCall tape i).memory i.args) ∧ ({} : Assume).holds C.prog (lone (Frame.enter C.prog f i.args .normal) [] (w.forCall tape i)))
  (lo : laidOutB C.prog = true) (mr : mapsRowed C.prog = true)
  (hz : ((List.range C.prog.types.size).all fun t => match C.prog.underlying t with | some (.slice e) => decide (0 < C.prog.cellsOf e) | _ => true) = true)
  (T : List TypeId) (hT : xJ C.prog T = true) (hp : fn.params.all (fun t => decide (t < C.prog.types.size) && T.contains t) = true)
  (hsv : s.vars = []) (hs : ∀ ds : List (DataW H), ds.length = fn.params.size → s.fn H ds = { results := [.lit (.bool true)], args := ds })
  {tb : TypeId} (hr : fn.resultTypes = #[tb]) (htb : C.prog.underlying tb = some .bool)
  (hc : ∀ xs, tS C.prog fn.params.toList xs → gC C.prog f xs gQ fun r _ => r = .bool true) (hlaid : ∀ W, laidMetH C.prog laid W → W.ShapedOpen C.prog → ∀ p ∈ c7, ∃ cs t f, W.heap[p.1]? = some (.cells cs t f) ∧ p.2 cs) :
  ReturnsInHanded {} C os f .any (fun w args => (s.pre enc C.prog fn [] false w args ∧ laidMetH C.prog laid w) ∧ sizedMet enc C.prog fn (OpenSpec.ofChange s) false w args) (s.post enc C.prog fn false true false false) := by
 refine pH (X := fun w _ => laidMetH C.prog laid w) (fun _ _ _ hh h => h.of_heap hh) own started noInit hfn witness ?_
 intro W base args ds gs before hsh hval hW _ _ hL _
 have hW0 := hW
 obtain ⟨p, q, hA, hV, _, _, _⟩ := hW
 have hp' := Array.all_eq_true_iff_forall_mem.1 hp
 simp only [Bool.and_eq_true, decide_eq_true_eq] at hp'
 have hbase : ∀ (j : Nat) t v, fn.params.toList[j]? = some t → args.toList[j]? = some v → Value.okWide C.prog W .any base t v := fun j t v h1 h2 => hval j t v (by simpa using h1) (by simpa using h2)
 obtain ⟨xs, h1, h2, h3⟩ := q9 hT (E := tT) (h := gQ) (fun b hb => pG hb) (fun t ht => by have := (hp' t (by simpa using ht)).2; simpa using this) hbase hA
 refine Calls.mono (by simpa using (hc xs h1).2 tT W args.toList (yX W fun p hp => ⟨pG (by obtain ⟨cs, t, f, e, _⟩ := hlaid W hL hsh p hp; exact (Array.getElem?_eq_some_iff.1 e).1), hlaid W hL hsh p hp⟩) h2) fun e W' he => ?_
 cases e with
 |returned v =>
  obtain ⟨r, h', E', rfl, ev, _, rep⟩ := he
  cases rep
  exact ⟨_, rfl, yW lo mr hz (by rw [Array.all_eq_true_iff_forall_mem]; intro t ht; simpa using (hp' t ht).1) hsv hs hr htb hW0 (by simpa using h3) (fun b hb => (ev.keep b (pG hb)).1) ev.os ev.out⟩
 | _ => exact he.elim
theorem bV {P : Program} {n : String} {d : DataW Unit} {r : List (String × DataW Unit)} {w : World} (h : laidMet P ((n, d) :: r) w) : laidMet P r w := by
 obtain ⟨ps, ⟨g, t, cs, fuel, p, q, _, _, _, _, hq, rfl⟩, hn, ha⟩ := h
 exact ⟨q, hq, (List.nodup_append.1 hn).2.1, fun b off hm => ha b off (List.mem_append_right _ hm)⟩
theorem iU {P : Program} {W : World} {g : Nat} {t : TypeId} {n nm : String} {d : DataW Unit} {r : List (String × DataW Unit)}
  (h : laidMet P ((n, .iface nm d) :: r) W) (hg : P.globalNamed n = some g) (ht : (P.globals[g]?).map (·.type) = some t) (hi : iR P t = true) :
  ∃ v, W.cell? ⟨g, 0, none⟩ = some v ∧ (v = .nilIface ∨ ∃ te pe, v = .iface te pe) := by
 obtain ⟨ms, hu⟩ : ∃ ms, P.underlying t = some (.interface ms) := by
  unfold iR at hi
  split at hi
  ·exact ⟨_, by assumption⟩
  ·cases hi
 obtain ⟨ps, ⟨g0, t0, cs0, f0, p0, q0, hg0, ht0, hv0, hd0, _, _⟩, _, _⟩ := h
 obtain rfl := Option.some.inj (hg.symm.trans hg0)
 obtain rfl := Option.some.inj (ht.symm.trans ht0)
 obtain ⟨f1, u, v, hc, _, _⟩ := aLD.Go.iface_of_trod hu hd0
 refine ⟨.iface u v, ?_, .inr ⟨u, v, rfl⟩⟩
 rw [World.var?_cell hg0 hv0 0]
 rw [← Array.getElem?_toList, hc]
 rfl
theorem jK {w : World} {g : Nat} {Q : Value → Prop} (h : ∃ v, w.cell? ⟨g, 0, none⟩ = some v ∧ Q v) : ∃ cs t f, w.heap[g]? = some (.cells cs t f) ∧ ∃ v, cs[0]? = some v ∧ Q v := by
 obtain ⟨v, hv, hq⟩ := h
 unfold World.cell? at hv
 cases hW : w.heap[g]? with
 |none => rw [hW] at hv; cases hv
 |some o =>
  rw [hW] at hv
  cases o with
  |cells c t f => exact ⟨c, t, f, rfl, v, by simpa using hv, hq⟩
  | _ => cases hv
theorem tV {w : World} {g : Nat} {k : IntKind} (h : ∃ m, w.cell? ⟨g, 0, none⟩ = some (.int k m)) : ∃ cs t f, w.heap[g]? = some (.cells cs t f) ∧ ∃ m, cs[0]? = some (.int k m) := by
 obtain ⟨m, hm⟩ := h
 obtain ⟨cs, t, f, h1, v, h2, rfl⟩ := jK (Q := fun v => v = .int k m) ⟨_, hm, rfl⟩
 exact ⟨cs, t, f, h1, m, h2⟩
set_option linter.unusedVariables false
set_option linter.unusedSimpArgs false
theorem OV.jW : ∀ (a b : List (List OV)), OV.aS (a ++ b) = OV.aS a ++ OV.aS b
 | [], b => rfl
 |x :: a, b => by rw [List.cons_append, OV.aS, OV.jW a b, OV.aS, List.append_assoc]
theorem aX (a b : List (Nat × aM)) : aH (a ++ b) = aH a ++ aH b := List.map_append
theorem aY {l : List (Nat × aM)} {m : Nat} : m ∈ aH l ↔ ∃ o, (m, o) ∈ l := by
 simp [aH]
structure eU (h : Heap) (l : List (Nat × aM)) (h' : Heap) : Prop where
 nodup : (aH l).Nodup
 fresh : ∀ m ∈ aH l, h m = none
 fO : cE h' l
 upto : aDX (aH l) h h'
theorem eU.nil (h : Heap) : eU h [] h := ⟨List.nodup_nil, by simp [aH], by simp [cE], fun m _ => rfl⟩
theorem eU.one {h : Heap} {n : Nat} {o : aM} (hn : h n = none) : eU h [(n, o)] (a7 h n o) :=
 ⟨by simp [aH], by simpa [aH] using hn, by simp [cE], fun m hm => aB _ _ _ _ (by simpa [aH] using hm)⟩
def dN (h : Heap) (S : List Nat) : Heap := fun m => if m ∈ S then none else h m
theorem eU.drop {h h' : Heap} {a b : List (Nat × aM)} (x : eU h (a ++ b) h') : eU h b (dN h' (aH a)) := by
 have hnd := x.nodup
 rw [aX] at hnd
 obtain ⟨_, nb, dis⟩ := List.nodup_append.1 hnd
 refine ⟨nb, fun m hm => x.fresh m (by rw [aX]; exact List.mem_append_right _ hm), fun p hp => ?_, fun m hm => ?_⟩
 ·have : p.1 ∉ aH a := fun q => dis _ q _ (aY.2 ⟨p.2, hp⟩) rfl
  simp only [dN, if_neg this]
  exact x.fO p (List.mem_append_right _ hp)
 ·by_cases e : m ∈ aH a
  ·simp only [dN, if_pos e]
   exact (x.fresh m (by rw [aX]; exact List.mem_append_left _ e)).symm
  ·simp only [dN, if_neg e]
   exact x.upto m (by rw [aX]; simp [e, hm])
theorem yY {P : Program} {f : FuncId} {args : List aA} {r : aA} {K : aA → Heap → Prop} (h : Heap) (a : gC P f args h K)
  (hk : ∀ r' h', K r' h' → ∃ l, eU h l h' ∧ ∀ E w v, Rel E h' w → aZ E h' w r' v → aZ E (dH h' (aH l)) w r v) : gC P f args h fun r' h' => r' = r ∧ h' = h :=
 ⟨a.1, fun E w vs R hv => Calls.mono (a.2 E w vs R hv) fun e w' he => by
  cases e <;> try exact he
  obtain ⟨r', h', E', k, ev, R', rx⟩ := he
  obtain ⟨l, nw, hr⟩ := hk r' h' k
  have hle : h.le (dH h' (aH l)) := fun m => by
   by_cases e : m ∈ aH l
   ·exact .inl (nw.fresh m e)
   ·rw [eK e, nw.upto m e]; exact .inr rfl
  refine ⟨r, h, E', ⟨rfl, rfl⟩, ev.trans ((Ev.dH _).forget hle), (R'.dH _).forget hle, ?_⟩
  refine aZ.j3 (fun b hb => e8.le hle hb) (hr E' w' _ R' rx)⟩
theorem aP.nO {E : Env} {h : Heap} {w : World} (R : Rel E h w) {S : List Nat} : ∀ (e : List OV) (vs : List Value), cE h (OV.aR e) → (∀ p ∈ OV.aR e, p.1 ∈ S) → aP E h w (e.map OV.val) vs → aP E (dH h S) w (e.map OV.e9) vs
 | [], [], _, _, _ => trivial
 |x :: e, v :: vs, ho, hS, hr => ⟨aZ.nO R x (fun p hp => ho p (by rw [OV.aR]; exact List.mem_append_left _ hp)) (fun p hp => hS p (by rw [OV.aR]; exact List.mem_append_left _ hp)) v hr.1,
   aP.nO R e vs (fun p hp => ho p (by rw [OV.aR]; exact List.mem_append_right _ hp)) (fun p hp => hS p (by rw [OV.aR]; exact List.mem_append_right _ hp)) hr.2⟩
 | [], _ :: _, _, _, hr => hr.elim
 | _ :: _, [], _, _, hr => hr.elim
theorem aZ.tX {E : Env} {h : Heap} {w : World} (R : Rel E h w) {S : List Nat} (e : List OV) (v : Value) (ho : cE h (OV.aR e)) (hS : ∀ p ∈ OV.aR e, p.1 ∈ S) (hr : aZ E h w (.agg (e.map OV.val)) v) : aZ E (dH h S) w (.agg (e.map OV.e9)) v := by
 cases hr with
 |agg _ vs hl hr =>
  have := aP.nO R e vs ho hS (aP.mk hl hr)
  exact .agg _ vs this.length this.get
theorem pK {α : Type} {c : α → aA} {x : α} {e : List OV} (h : oP c x e) : e.map OV.e9 = [c x] := by
 unfold oP at h; subst h; rfl
set_option linter.unusedVariables false
set_option linter.unusedSimpArgs false
structure aHZ (h : Heap) (T : List Nat) (l : List (Nat × aM)) (h' : Heap) : Prop where
 nodup : (T ++ aH l).Nodup
 fresh : ∀ m ∈ T ++ aH l, h m = none
 there : ∀ m ∈ T, h' m ≠ none
 fO : cE h' l
 upto : aDX (T ++ aH l) h h'
theorem aHZ.drop {h h' : Heap} {T : List Nat} {l : List (Nat × aM)} (x : aHZ h T l h') : eU h l (dN h' T) := by
 obtain ⟨_, nb, dis⟩ := List.nodup_append.1 x.nodup
 refine ⟨nb, fun m hm => x.fresh m (List.mem_append_right _ hm), fun p hp => ?_, fun m hm => ?_⟩
 ·have : p.1 ∉ T := fun q => dis _ q _ (aY.2 ⟨p.2, hp⟩) rfl
  simp only [dN, if_neg this]
  exact x.fO p hp
 ·by_cases e : m ∈ T
  ·simp only [dN, if_pos e]
   exact (x.fresh m (List.mem_append_left _ e)).symm
  ·simp only [dN, if_neg e]
   exact x.upto m (by simp [e, hm])
theorem eU.keep {h h' : Heap} {l : List (Nat × aM)} (x : eU h l h') {n : Nat} {o : aM} (hn : h n = some o) : h' n = some o := by
 rw [x.upto n fun q => by rw [x.fresh n q] at hn; cases hn]; exact hn
theorem pL {α : Type} {c : α → aA} : ∀ (l : List α), OR (oP c) l (l.map fun x => [.v (c x)])
 | [] => trivial
 |x :: l => ⟨rfl, pL l⟩
theorem kW {α : Type} (c : α → aA) (l : List α) : OV.cells (l.map fun x => [OV.v (c x)]) = (l.map fun x => [c x]).map (List.map .v) := by
 simp [OV.cells, OV.val]
theorem iV {α : Type} (c : α → aA) : ∀ (l : List α), OV.aS (l.map fun x => [OV.v (c x)]) = []
 | [] => rfl
 |x :: l => by rw [List.map_cons, OV.aS, iV c l]; rfl
theorem OV.bL (x : aA) : (OV.v x).val = x := rfl
theorem OS.flat {α : Type} {R : α → List OV → Prop} {sz : Nat} {l : List α} {y : OV} (h : OS R sz l y) : y.val.flat = true := by
 rcases h with ⟨rfl, _⟩ | ⟨n, es, rfl, _⟩ <;> rfl
theorem OS.one {α : Type} {R : α → List OV → Prop} {sz : Nat} {l : List α} {y : OV} (h : OS R sz l y) : y.val.cells = [y.val] := by
 rcases h with ⟨rfl, _⟩ | ⟨n, es, rfl, _⟩ <;> rfl
set_option linter.unusedVariables false
set_option linter.unusedSimpArgs false
def pM (P : Program) (f : FuncId) (args : List aA) (Q : aA → List (Nat × aM) → Prop) : Prop := ∀ h : Heap, gC P f args h fun r h' => ∃ l, Q r l ∧ eU h l h'
theorem eU.under {g h' : Heap} {n : Nat} {o : aM} {l : List (Nat × aM)} (hg : g n = none) (x : eU (a7 g n o) l h') : ∃ g', h' = a7 g' n o ∧ eU g l g' ∧ g' n = none := by
 have hn : n ∉ aH l := fun q => by have := x.fresh n q; simp at this
 have hk : h' n = some o := x.keep (aW _ _ _)
 refine ⟨dN h' [n], ?_, ⟨x.nodup, fun m hm => ?_, fun p hp => ?_, fun m hm => ?_⟩, by simp [dN]⟩
 ·funext m
  by_cases e : m = n
  ·subst e; rw [aW, hk]
  ·rw [aB _ _ _ _ e]; simp [dN, e]
 ·have e : m ≠ n := fun e => hn (e ▸ hm)
  have := x.fresh m hm
  rwa [aB _ _ _ _ e] at this
 ·have e : p.1 ≠ n := fun e => hn (e ▸ aY.2 ⟨p.2, hp⟩)
  have : dN h' [n] p.1 = h' p.1 := by simp [dN, e]
  rw [this]; exact x.fO p hp
 ·by_cases e : m = n
  ·subst e; rw [hg]; simp [dN]
  ·have : dN h' [n] m = h' m := by simp [dN, e]
   rw [this, x.upto m hm, aB _ _ _ _ e]
section
variable {P : Program} {f : FuncId} {args : List aA} {Q : aA → List (Nat × aM) → Prop} {K : aA → Heap → Prop} {t : Tag K}
theorem aI.nw {g : Heap} (a : pM P f args Q) (k : ∀ r l g', Q r l → eU g l g' → K r g') : aI P f args g K t :=
 aI.mkH (a g) fun r h' ⟨l, q, hn⟩ => k r l h' q hn
end
theorem yZ {P : Program} {f : FuncId} {fn : Func} {c : Code} (N : Nat) (keep ib : List Nat) (mk : Marks) {args : List aA} {Q : aA → List (Nat × aM) → Prop} (hmix : P.follows .mixedOrders = true) (hf : P.funcs[f]? = some fn) (hb : fn.body = some c)
  (hck : (dG P f && decide (fn.ntmps = N) && dK N mk c) = true) (hl : args.length ≤ N)
  (hw : ∀ h, iG P N keep ib mk c (fun τ h' => kK P fn.results (fun r h' => ∃ r1 g l, Shift r h' r1 g ∧ Q r1 l ∧ eU h l g) () .normal τ h') (kK P fn.results (fun r h' => ∃ r1 g l, Shift r h' r1 g ∧ Q r1 l ∧ eU h l g) ()) (kE 0 args) h ()) : pM P f args Q := by
 intro h
 have h1 : gC P f args h (fun r h' => ∃ r1 g l, Shift r h' r1 g ∧ Q r1 l ∧ eU h l g) :=
  gC.mono (xL (K := fun r h' => ∃ r1 g l, Shift r h' r1 g ∧ Q r1 l ∧ eU h l g) N keep ib mk hmix hf hb hck hl (by
   have := hw h
   refine Eq.mp ?_ this
   have e : (fun r h' => ∃ r1 g l, Shift r h' r1 g ∧ Q r1 l ∧ eU h l g) = (fun r h' => ∃ g' : Heap, g'.le h' ∧ ∃ r1 g l, Shift r g' r1 g ∧ Q r1 l ∧ eU h l g) := by
    funext r h'
    refine propext ⟨fun ⟨r1, g, l, s, q⟩ => ⟨h', Heap.le_refl _, r1, g, l, s, q⟩, fun ⟨g', hl, r1, g, l, s, q⟩ => ⟨r1, g, l, (Shift.of (Sub.refl _) hl).trans s, q⟩⟩
   rw [e])) fun r h' q => q
 exact pA (fn := fn) (c := c) (N := N) h1 fun r h' ⟨r1, g, l, s, q, n⟩ => ⟨r1, g, s, l, q, n⟩
theorem pM.fU {P : Program} {f : FuncId} {args : List aA} {Q : aA → List (Nat × aM) → Prop} {r : aA} (a : pM P f args Q)
  (hk : ∀ r' l, Q r' l → ∀ E w v h', cE h' l → Rel E h' w → aZ E h' w r' v → aZ E (dH h' (aH l)) w r v) : dV P f args r := fun h =>
 yY h (a h) fun r' h' ⟨l, q, hn⟩ => ⟨l, hn, fun E w v R rx => hk r' l q E w v h' hn.fO R rx⟩
theorem pM.sub {P : Program} {f : FuncId} {xs ys : List aA} {Q : aA → List (Nat × aM) → Prop} (s : dZ xs ys) (a : pM P f ys Q) : pM P f xs Q := fun h => gC.sub s (a h)
def fC (h : Heap) : Heap := fun m => (h m).map fun _ => .gone
theorem jL {h : Heap} {m : Nat} {o : aM} (ho : fC h m = some o) : o = .gone := by
 simp only [fC, Option.map_eq_some_iff] at ho
 obtain ⟨_, _, rfl⟩ := ho; rfl
theorem gG {E : Env} {h : Heap} {w : World} {b : Nat} (hb : b < w.heap.size) : e8 E (fC h) w b := ⟨hb, fun m o hm ho => by rw [jL hm] at ho; exact ho.elim⟩
theorem Rel.fC {E : Env} {h : Heap} {w : World} (R : Rel E h w) : Rel E (fC h) w := by
 refine ⟨R.fin, fun m hm => R.nC m fun q => hm (by simp [Hl.fC, q]), ?_, ?_, ?_, R.laid.j3 fun b hb => gG hb.1⟩
 ·intro m o b hm ho; rw [jL hm] at ho; exact ho.elim
 ·intro m o m' o' b hm ho; rw [jL hm] at ho; exact ho.elim
 ·intro m o hm; rw [jL hm]; trivial
theorem gC.aCO {P : Program} {f : FuncId} {args args' : List aA} {h : Heap} {K : aA → Heap → Prop} {K' : aA → List (Nat × aM) → Prop}
  (hview : ∀ E w vs, Rel E h w → aP E h w args vs → aP E (fC h) w args' vs) (a : gC P f args' (fC h) K)
  (hK : ∀ r h', K r h' → ∃ l, K' r l ∧ eU (fC h) l h' ∧ r.bF = true ∧ ∀ p ∈ l, p.2.bF = true) :
  gC P f args h fun r h' => ∃ l, K' r l ∧ eU h l h' := by
 refine ⟨a.1, fun E w vs R hv => Calls.mono (a.2 E w vs R.fC (hview E w vs R hv)) fun e w' he => ?_⟩
 cases e <;> try exact he
 obtain ⟨r, h', E', k, ev, R', rx⟩ := he
 obtain ⟨l, k', nw, hr, hsol⟩ := hK r h' k
 have hnew : ∀ m ∈ aH l, h m = none := fun m hm => by
  have := nw.fresh m hm
  simpa [fC] using this
 let h2 : Heap := fun m => if m ∈ aH l then h' m else h m
 have e1 : ∀ m, m ∈ aH l → h2 m = h' m := fun m hm => if_pos hm
 have e2 : ∀ m, m ∉ aH l → h2 m = h m := fun m hm => if_neg hm
 let E2 : Env := { loc := E'.loc, fp := fun n => if n ∈ aH l then E'.fp n else E.fp n, used := E'.used }
 have f1 : ∀ m, m ∈ aH l → E2.fp m = E'.fp m := fun m hm => if_pos hm
 have f2 : ∀ m, m ∉ aH l → E2.fp m = E.fp m := fun m hm => if_neg hm
 have y0 : ∀ b, b < w.heap.size → e8 E (fC h) w b := fun b hb => gG hb
 have solL : ∀ m o, m ∈ aH l → h' m = some o → o.bF = true := fun m o hm ho => by
  obtain ⟨o', ho'⟩ := aY.1 hm
  have := nw.fO _ ho'
  rw [ho] at this
  obtain rfl := Option.some.inj this
  exact hsol _ ho'
 have evA : Ev E h w E2 h2 w' := by
  refine ⟨ev.size, fun b hb => ?_, ev.shape, ev.loc, ev.os, ev.out⟩
  have h1 := ev.keep b (y0 b hb.1)
  refine ⟨h1.1, h1.2.1, fun m o hm ho hf => ?_⟩
  by_cases e : m ∈ aH l
  ·rw [e1 m e] at hm; rw [f1 m e] at hf; exact h1.2.2 m o hm ho hf
  ·rw [e2 m e] at hm; rw [f2 m e] at hf; exact hb.2 m o hm ho hf
 have R2 : Rel E2 h2 w' := by
  refine ⟨R'.fin, fun m hm => ?_, ?_, ?_, ?_, R.laid.ev evA⟩
  ·by_cases e : m ∈ aH l
   ·rw [e1 m e] at hm; exact R'.nC m hm
   ·rw [e2 m e] at hm; exact (ev.loc m (R.nC m hm)).2
  ·intro m o b hm ho hf
   by_cases e : m ∈ aH l
   ·rw [e1 m e] at hm; rw [f1 m e] at hf; exact R'.lt m o b hm ho hf
   ·rw [e2 m e] at hm; rw [f2 m e] at hf; exact Nat.lt_of_lt_of_le (R.lt m o b hm ho hf) ev.size
  ·intro m o m' o' b hm ho hm' ho' hf hf'
   by_cases e : m ∈ aH l
   ·rw [e1 m e] at hm; rw [f1 m e] at hf
    by_cases e' : m' ∈ aH l
    ·rw [e1 m' e'] at hm'; rw [f1 m' e'] at hf'; exact R'.apart m o m' o' b hm ho hm' ho' hf hf'
    ·rw [e2 m' e'] at hm'; rw [f2 m' e'] at hf'
     exact absurd hf ((ev.keep b (y0 b (R.lt m' o' b hm' ho' hf'))).2.2 m o hm ho)
   ·rw [e2 m e] at hm; rw [f2 m e] at hf
    by_cases e' : m' ∈ aH l
    ·rw [e1 m' e'] at hm'; rw [f1 m' e'] at hf'
     exact absurd hf' ((ev.keep b (y0 b (R.lt m o b hm ho hf))).2.2 m' o' hm' ho')
    ·rw [e2 m' e'] at hm'; rw [f2 m' e'] at hf'; exact R.apart m o m' o' b hm ho hm' ho' hf hf'
  ·intro m o hm
   by_cases e : m ∈ aH l
   ·rw [e1 m e] at hm
    exact lV.bF (E := E') (E' := E2) (fun n hn => ⟨rfl, hn⟩) (fun _ _ => rfl) rfl (f1 m e) (fun _ _ => rfl) (solL m o e hm) (R'.obj m o hm)
   ·rw [e2 m e] at hm
    cases o with
    |gone => trivial
    |row sz es => exact (R.obj m _ hm).ev evA (ev.loc m (R.nC m (by simp [hm]))).1 (f2 m e) fun b _ hb => (ev.keep b (y0 b (R.lt m _ b hm trivial hb))).1
    |map kt et l' => exact (R.obj m _ hm).ev evA (ev.loc m (R.nC m (by simp [hm]))).1 (f2 m e) fun b _ hb => (ev.keep b (y0 b (R.lt m _ b hm trivial hb))).1
 refine ⟨r, h2, E2, ⟨l, k', ⟨nw.nodup, hnew, fun p hp => ?_, fun m hm => e2 m hm⟩⟩, evA, R2, aZ.bF (E := E') (E' := E2) (fun n hn => ⟨rfl, hn⟩) (fun _ _ => rfl) rx hr⟩
 rw [e1 p.1 (aY.2 ⟨p.2, hp⟩)]; exact nw.fO p hp
def View (h : Heap) (x x' : aA) : Prop := ∀ E w v, Rel E h w → aZ E h w x v → aZ E (fC h) w x' v
def aK (h : Heap) : List aA → List aA → Prop
 | [], [] => True
 |x :: xs, y :: ys => View h x y ∧ aK h xs ys
 | _, _ => False
theorem aDY {E : Env} {h : Heap} {w : World} {b : Nat} (i : e8 E h w b) : e8 E (fC h) w b := gG i.1
theorem View.same (h : Heap) (x : aA) : View h x x := fun E w v R r => r.j3 fun b i => aDY i
theorem View.sub {h : Heap} {x y z : aA} (a : View h x y) (s : Sub y z) : View h x z := fun E w v R r => s _ _ _ _ (a E w v R r)
theorem lO {E : Env} {h : Heap} {w : World} {S : List Nat} : ∀ b, e8 E (Hl.dH h S) w b → e8 E (fC h) w b := fun b i => gG i.1
theorem View.ov {h : Heap} (y : OV) (ho : cE h y.rows) : View h y.val y.e9 := fun E w v R r =>
 (aZ.nO R (S := aH y.rows) y ho (fun p hp => aY.2 ⟨p.2, hp⟩) v r).j3 lO
theorem View.agg {h : Heap} (e : List OV) (ho : cE h (OV.aR e)) : View h (.agg (e.map OV.val)) (.agg (e.map OV.e9)) := fun E w v R r =>
 (aZ.tX R (S := aH (OV.aR e)) e v ho (fun p hp => aY.2 ⟨p.2, hp⟩) r).j3 lO
theorem View.op {h : Heap} {n sz i off : Nat} (es : List (List OV)) (hn : h n = some (.row sz (OV.cells es))) (hne : es ≠ []) (ho : cE h (OV.aS es)) : View h (.op n sz i off) (.ip sz (OV.bA es) i off) := by
 intro E w v R r
 cases v <;> try (cases r; done)
 cases r with
 |op _ _ _ _ b o hd hl =>
  obtain ⟨b', o', hl', hbS, hs, cs, ct, cv, T, hh, hm', hT, hD, hc, hrr⟩ := j5 R hn (.inr ⟨_, hl⟩)
  rw [hl] at hl'
  obtain ⟨rfl, rfl⟩ := Prod.mk.inj (Option.some.inj hl')
  have hcs : ∀ i j y, b9 (OV.bA es) i j = some y → ∃ c, b9 es i j = some c ∧ y = c.e9 ∧ cs[o + i * sz + j]? = some (cv i j) ∧ (cv i j).oneCell' = true ∧ aZ E h w c.val (cv i j) := by
   intro i j y hy
   rw [OV.cF, fI] at hy
   obtain ⟨c, x3, rfl⟩ := Option.map_eq_some_iff.1 hy
   have hcell : b9 (OV.cells es) i j = some (.v c.val) := by rw [OV.cells, fI, x3]; rfl
   have h2 := hrr i j _ hcell
   generalize hcv : cv i j = z at h2
   cases h2 with
   |v x c' S' h1 hx => exact ⟨c, x3, rfl, hcv ▸ hc i j _ hcell, h1, hx⟩
  refine .ip sz (OV.bA es) i off b o cv (gG (R.lt n _ b hn trivial hbS)) ?_ ?_ ?_ ?_
  ·intro e he
   rw [OV.cF, List.mem_map] at he
   obtain ⟨e', he', rfl⟩ := he
   have := hs (e'.map fun c => Cell.v c.val) (List.mem_map.2 ⟨e', he', rfl⟩)
   simpa using this
  ·intro i j y hy
   obtain ⟨c, _, _, h1, _, _⟩ := hcs i j y hy
   simp only [World.cell?, hh]
   rw [← h1]
   simp
  ·intro i j y hy; obtain ⟨c, _, _, _, h1, _⟩ := hcs i j y hy; exact h1
  ·intro i j y hy
   obtain ⟨c, x3, rfl, _, _, h1⟩ := hcs i j y hy
   obtain ⟨e, he, hj⟩ := dF x3
   exact (mX R (S := aH (OV.aS es)) es ho (fun p hp => aY.2 ⟨p.2, hp⟩) e (List.mem_of_getElem? he) c (List.mem_of_getElem? hj) _ h1).j3 lO
theorem aK.rZ {h : Heap} : ∀ {xs ys : List aA}, aK h xs ys → ∀ E w vs, Rel E h w → aP E h w xs vs → aP E (fC h) w ys vs
 | [], [], _, E, w, [], R, r => trivial
 |x :: xs, y :: ys, hv, E, w, v :: vs, R, r => ⟨hv.1 E w v R r.1, aK.rZ hv.2 E w vs R r.2⟩
 | [], [], _, E, w, _ :: _, R, r => r.elim
 |x :: xs, y :: ys, hv, E, w, [], R, r => r.elim
 | [], _ :: _, h, _, _, _, _, _ => h.elim
 | _ :: _, [], h, _, _, _, _, _ => h.elim
theorem aK.nil {h : Heap} : aK h [] [] := trivial
theorem aK.cons {h : Heap} {x y : aA} {xs ys : List aA} (a : View h x y) (b : aK h xs ys) : aK h (x :: xs) (y :: ys) := ⟨a, b⟩
def vL (Q : aA → List (Nat × aM) → Prop) : Prop := ∀ r l, Q r l → r.bF = true ∧ ∀ p ∈ l, p.2.bF = true
theorem pM.aDZ {P : Program} {f : FuncId} {args args' : List aA} {Q : aA → List (Nat × aM) → Prop} {h : Heap} (a : pM P f args' Q) (hv : aK h args args') (hQ : vL Q) : gC P f args h fun r h' => ∃ l, Q r l ∧ eU h l h' :=
 gC.aCO hv.rZ (a (fC h)) fun r h' ⟨l, q, n⟩ => ⟨l, q, n, (hQ r l q).1, (hQ r l q).2⟩
theorem dV.aDZ {P : Program} {f : FuncId} {args args' : List aA} {r : aA} {h : Heap} (a : dV P f args' r) (hv : aK h args args') (hr : r.bF = true) : gC P f args h fun r' h' => r' = r ∧ h' = h :=
 (gC.aCO (K' := fun r' l => r' = r ∧ l = []) hv.rZ (a (fC h)) fun r' h' ⟨e, e'⟩ => by
  subst e; subst e'; exact ⟨[], ⟨rfl, rfl⟩, .nil _, hr, by simp⟩).mono fun r' h' ⟨l, ⟨e1, e2⟩, n⟩ => by
  subst e2
  exact ⟨e1, funext fun m => n.upto m (by simp [aH])⟩
section
variable {P : Program} {f : FuncId} {args args' : List aA} {Q : aA → List (Nat × aM) → Prop} {K : aA → Heap → Prop} {t : Tag K} {g : Heap}
theorem aI.eL {r : aA} (a : dV P f args' r) (hv : aK g args args') (hr : r.bF = true) (k : K r g) : aI P f args g K t :=
 aI.mkH (a.aDZ hv hr) fun r' h' ⟨e, e'⟩ => by subst e; subst e'; exact k
end
mutual
def OV.x4 : OV → Bool
 | .v x => x.bF
 | .nil _ => true
 | .sl _ _ es => OV.fY es
def OV.fY : List (List OV) → Bool
 | [] => true
 |e :: es => OV.eC e && OV.fY es
def OV.eC : List OV → Bool
 | [] => true
 |x :: e => x.x4 && OV.eC e
end
theorem OV.rA : ∀ {x : OV}, x.x4 = true → x.val.bF = true
 | .v x, h => by simpa only [OV.x4, OV.val] using h
 | .nil _, _ => by simp [OV.val, aA.bF]
 | .sl _ _ _, _ => by simp [OV.val, aA.bF]
theorem OV.pN : ∀ (e : List OV), OV.eC e = e.all OV.x4
 | [] => rfl
 |x :: e => by rw [OV.eC, OV.pN e]; rfl
theorem OV.nP : ∀ (es : List (List OV)), OV.fY es = es.all (fun e => e.all OV.x4)
 | [] => rfl
 |e :: es => by rw [OV.fY, OV.nP es, OV.pN]; rfl
theorem OV.pO : ∀ {e : List OV}, OV.eC e = true → aA.iH (e.map OV.val) = true
 | [], _ => rfl
 |x :: e, h => by
  simp only [OV.eC, Bool.and_eq_true] at h
  simp only [List.map_cons, aA.iH, OV.rA h.1, OV.pO h.2, Bool.and_self]
theorem OV.tY {sz : Nat} {es : List (List OV)} (h : OV.fY es = true) : (aM.row sz (OV.cells es)).bF = true := by
 rw [OV.nP] at h
 simp only [aM.bF, OV.cells, List.all_map, List.all_eq_true, Function.comp_apply] at h ⊢
 intro e he c hc
 exact OV.rA (h e he c hc)
mutual
theorem OV.vM : ∀ {x : OV}, x.x4 = true → ∀ p ∈ x.rows, p.2.bF = true
 | .v _, _ => by simp [OV.rows]
 | .nil _, _ => by simp [OV.rows]
 | .sl n sz es, h => fun p hp => by
  rw [OV.rows] at hp
  rcases List.mem_cons.1 hp with rfl | hp
  ·exact OV.tY (by simpa only [OV.x4] using h)
  ·exact OV.kM (by simpa only [OV.x4] using h) p hp
theorem OV.kM : ∀ {es : List (List OV)}, OV.fY es = true → ∀ p ∈ OV.aS es, p.2.bF = true
 | [], _ => by simp [OV.aS]
 |e :: es, h => fun p hp => by
  simp only [OV.fY, Bool.and_eq_true] at h
  rw [OV.aS] at hp
  rcases List.mem_append.1 hp with hp | hp
  ·exact OV.iJ h.1 p hp
  ·exact OV.kM h.2 p hp
theorem OV.iJ : ∀ {e : List OV}, OV.eC e = true → ∀ p ∈ OV.aR e, p.2.bF = true
 | [], _ => by simp [OV.aR]
 |x :: e, h => fun p hp => by
  simp only [OV.eC, Bool.and_eq_true] at h
  rw [OV.aR] at hp
  rcases List.mem_append.1 hp with hp | hp
  ·exact OV.vM h.1 p hp
  ·exact OV.iJ h.2 p hp
end
theorem aD0 {α : Type} {c : α → aA} (hc : ∀ x, (c x).bF = true) {x : α} {e : List OV} (h : oP c x e) : OV.eC e = true := by
 unfold oP at h; subst h; simp [OV.eC, OV.x4, hc]
set_option linter.unusedVariables false
set_option linter.unusedSimpArgs false
def QS (R : OV → Prop) (w : aA → aA := fun x => x) : aA → List (Nat × aM) → Prop := fun r l => ∃ y, R y ∧ r = w y.val ∧ l = y.rows
def QA (R : List OV → Prop) (w : aA → aA := fun x => x) : aA → List (Nat × aM) → Prop := fun r l => ∃ e, R e ∧ r = w (.agg (e.map OV.val)) ∧ l = OV.aR e
theorem xP {l : List aA} : (aA.agg l).bF = aA.iH l := by simp only [aA.bF]
theorem QA.bF {R : List OV → Prop} {w : aA → aA} (hR : ∀ e, R e → OV.eC e = true) (hw : ∀ x : aA, x.bF = true → (w x).bF = true) : vL (QA R w) := fun r l ⟨y, hy, e1, e2⟩ => by
 subst e1 e2
 exact ⟨hw _ (by rw [xP]; exact OV.pO (hR y hy)), OV.iJ (hR y hy)⟩
theorem QS.fU {P : Program} {f : FuncId} {args : List aA} {R : OV → Prop} {d : aA} (a : pM P f args (QS R)) (hd : ∀ y, R y → y.e9 = d) : dV P f args d :=
 a.fU fun r' l ⟨y, hy, e1, e2⟩ E w v h' ho R rx => by
  subst e1 e2
  rw [← hd y hy]
  exact aZ.nO R y ho (fun p hp => aY.2 ⟨p.2, hp⟩) v rx
theorem OS.nil {α : Type} {R : α → List OV → Prop} {sz : Nat} : OS R sz [] (.nil sz) := .inl ⟨rfl, rfl⟩
theorem OS.mk {α : Type} {R : α → List OV → Prop} {sz n : Nat} {l : List α} {es : List (List OV)} (h : OR R l es) : OS R sz l (.sl n sz es) := .inr ⟨n, es, rfl, h⟩
theorem OV.kN (sz : Nat) : (OV.nil sz).rows = [] := by rw [OV.rows]
theorem OV.eD (x : aA) : (OV.v x).rows = [] := by rw [OV.rows]
theorem OV.fZ (n sz : Nat) (es : List (List OV)) : (OV.sl n sz es).rows = (n, .row sz (OV.cells es)) :: OV.aS es := by rw [OV.rows]
theorem OV.dC : OV.aR [] = [] := by rw [OV.aR]
theorem OV.cL (x : OV) (e : List OV) : OV.aR (x :: e) = x.rows ++ OV.aR e := by rw [OV.aR]
theorem OV.aBD (sz : Nat) : (OV.nil sz).val = .sl sz [] true := rfl
theorem OV.r7 (n sz : Nat) (es : List (List OV)) : (OV.sl n sz es).val = .os n sz 0 es.length := rfl
theorem OV.aF : List.map OV.val [] = [] := rfl
theorem OV.aU (x : OV) (e : List OV) : List.map OV.val (x :: e) = x.val :: e.map OV.val := rfl
set_option linter.unusedVariables false
set_option linter.unusedSimpArgs false
def y1 (n : Nat) : List UInt8 := if h : n = 0 then [] else y1 (n / 10) ++ [UInt8.ofNat (48 + n % 10)]
termination_by n
decreasing_by omega
def aCP (k : Int) : List UInt8 := if k ≤ 0 then [109, 48] else 109 :: y1 k.toNat
mutual
def OV.ct : OV → Nat
 | .v _ => 1
 | .nil _ => 0
 | .sl _ _ es => OV.bW es
def OV.bW : List (List OV) → Nat
 | [] => 0
 |e :: es => OV.eV e + OV.bW es
def OV.eV : List OV → Nat
 | [] => 0
 |x :: e => x.ct + OV.eV e
end
def pP (k : Int) : aA → aA
 | .int t _ => .int t k
 | .bool _ => .bool (decide (k.tmod 3 = 0))
 | .str _ => .str (aCP k)
 |x => x
mutual
def OV.mk (k : Int) : OV → OV
 | .v x => .v (pP k x)
 | .nil sz => .nil sz
 | .sl n sz es => .sl n sz (OV.b4 k es)
def OV.b4 (k : Int) : List (List OV) → List (List OV)
 | [] => []
 |e :: es => OV.lB k e :: OV.b4 (k + OV.eV e) es
def OV.lB (k : Int) : List OV → List OV
 | [] => []
 |x :: e => x.mk k :: OV.lB (k + x.ct) e
end
theorem OV.fJ : ∀ (a b : List (List OV)), OV.bW (a ++ b) = OV.bW a + OV.bW b
 | [], b => by simp [OV.bW]
 |x :: a, b => by rw [List.cons_append, OV.bW, OV.fJ a b, OV.bW]; omega
theorem OV.iK : ∀ (k : Int) (a b : List (List OV)), OV.b4 k (a ++ b) = OV.b4 k a ++ OV.b4 (k + OV.bW a) b
 |k, [], b => by simp [OV.bW, OV.b4]
 |k, x :: a, b => by
  rw [List.cons_append, OV.b4, OV.iK (k + OV.eV x) a b, OV.b4, OV.bW, List.cons_append]
  congr 3; omega
theorem OV.gR : ∀ (k : Int) (a : List (List OV)), (OV.b4 k a).length = a.length
 |k, [] => rfl
 |k, x :: a => by rw [OV.b4, List.length_cons, List.length_cons, OV.gR]
theorem OV.tZ (k : Int) (a : List (List OV)) (e : List OV) : OV.b4 k (a ++ [e]) = OV.b4 k a ++ [OV.lB (k + OV.bW a) e] := by
 rw [OV.iK]; simp [OV.b4]
theorem OV.nQ (a : List (List OV)) (e : List OV) : OV.bW (a ++ [e]) = OV.bW a + OV.eV e := by
 rw [OV.fJ]; simp [OV.bW]
theorem OV.aBE (x : aA) : (OV.v x).ct = 1 := by rw [OV.ct]
theorem OV.vN (sz : Nat) : (OV.nil sz).ct = 0 := by rw [OV.ct]
theorem OV.uA (n sz : Nat) (es : List (List OV)) : (OV.sl n sz es).ct = OV.bW es := by rw [OV.ct]
theorem OV.rB : OV.eV [] = 0 := by rw [OV.eV]
theorem OV.pQ (x : OV) (e : List OV) : OV.eV (x :: e) = x.ct + OV.eV e := by rw [OV.eV]
theorem OV.aH0 (k : Int) (x : aA) : (OV.v x).mk k = .v (pP k x) := by rw [OV.mk]
theorem OV.pR (k : Int) (sz : Nat) : (OV.nil sz).mk k = .nil sz := by rw [OV.mk]
theorem OV.uB (k : Int) (n sz : Nat) (es : List (List OV)) : (OV.sl n sz es).mk k = .sl n sz (OV.b4 k es) := by rw [OV.mk]
theorem OV.rC (k : Int) : OV.lB k [] = [] := by rw [OV.lB]
theorem OV.pS (k : Int) (x : OV) (e : List OV) : OV.lB k (x :: e) = x.mk k :: OV.lB (k + x.ct) e := by rw [OV.lB]
theorem uC (k : Int) (t : IntKind) (n : Int) : pP k (.int t n) = .int t k := rfl
theorem rD (k : Int) (b : Bool) : pP k (.bool b) = .bool (decide (k.tmod 3 = 0)) := rfl
theorem uD (k : Int) (s : List UInt8) : pP k (.str s) = .str (aCP k) := rfl
theorem pT : ((1 : Nat) : Int) = 1 := rfl
structure j2 (h h' : Heap) (l l' : List (Nat × aM)) : Prop where
 names : aH l' = aH l
 fO : cE h' l'
 upto : aDX (aH l) h h'
theorem j2.refl {h : Heap} {l : List (Nat × aM)} (o : cE h l) : j2 h h l l := ⟨rfl, o, fun _ _ => rfl⟩
theorem j2.trans {h h1 h2 : Heap} {a b c : List (Nat × aM)} (x : j2 h h1 a b) (y : j2 h1 h2 b c) : j2 h h2 a c :=
 ⟨y.names.trans x.names, y.fO, fun m hm => (y.upto m (by rw [x.names]; exact hm)).trans (x.upto m hm)⟩
theorem cE.left {h : Heap} {a b : List (Nat × aM)} (o : cE h (a ++ b)) : cE h a := fun p hp => o p (List.mem_append_left _ hp)
theorem cE.right {h : Heap} {a b : List (Nat × aM)} (o : cE h (a ++ b)) : cE h b := fun p hp => o p (List.mem_append_right _ hp)
theorem j2.mid {h h' : Heap} {a l l' b : List (Nat × aM)} (o : cE h (a ++ (l ++ b))) (nd : (aH (a ++ (l ++ b))).Nodup) (c : j2 h h' l l') : j2 h h' (a ++ (l ++ b)) (a ++ (l' ++ b)) := by
 have nd' := nd
 rw [aX, aX] at nd'
 obtain ⟨_, n2, d1⟩ := List.nodup_append.1 nd'
 obtain ⟨_, _, d2⟩ := List.nodup_append.1 n2
 refine ⟨by rw [aX, aX, aX, aX, c.names], fun p hp => ?_, fun m hm => c.upto m fun q => hm ?_⟩
 ·rcases List.mem_append.1 hp with hp | hp
  ·have hm : p.1 ∈ aH a := aY.2 ⟨p.2, hp⟩
   rw [c.upto p.1 fun q => d1 _ hm _ (List.mem_append_left _ q) rfl]
   exact o p (List.mem_append_left _ hp)
  ·rcases List.mem_append.1 hp with hp | hp
   ·exact c.fO p hp
   ·have hm : p.1 ∈ aH b := aY.2 ⟨p.2, hp⟩
    rw [c.upto p.1 fun q => d2 _ q _ hm rfl]
    exact o p (List.mem_append_right _ (List.mem_append_right _ hp))
 ·rw [aX, aX]
  exact List.mem_append_right _ (List.mem_append_left _ q)
theorem j2.set {h : Heap} {n : Nat} {o o' : aM} {l : List (Nat × aM)} (ow : cE h ((n, o) :: l)) (nd : (aH ((n, o) :: l)).Nodup) : j2 h (a7 h n o') ((n, o) :: l) ((n, o') :: l) := by
 have hn : n ∉ aH l := (List.nodup_cons.1 (show (n :: aH l).Nodup from nd)).1
 refine ⟨rfl, fun p hp => ?_, fun m hm => ?_⟩
 ·rcases List.mem_cons.1 hp with rfl | hp
  ·exact aW _ _ _
  ·have : p.1 ≠ n := fun e => hn (e ▸ aY.2 ⟨p.2, hp⟩)
   rw [aB _ _ _ _ this]; exact ow p (List.mem_cons_of_mem _ hp)
 ·have : m ≠ n := fun e => hm (by rw [e]; exact List.mem_cons_self)
  exact aB _ _ _ _ this
theorem j2.nodup {h h' : Heap} {a b : List (Nat × aM)} (c : j2 h h' a b) (nd : (aH a).Nodup) : (aH b).Nodup := by rw [c.names]; exact nd
theorem xQ {a l b : List (Nat × aM)} (nd : (aH (a ++ (l ++ b))).Nodup) : (aH l).Nodup := by
 rw [aX, aX] at nd
 exact (List.nodup_append.1 (List.nodup_append.1 nd).2.1).1
theorem wQ {α : Type} {X Y : List α} {c : α} {i : Nat} (h : X.length = i) : (X ++ c :: Y)[i]? = some c := by
 rw [List.getElem?_append_right (by omega), h, Nat.sub_self]; rfl
theorem aBF {α : Type} {X Y : List α} {c c' : α} {i : Nat} (h : X.length = i) : (X ++ c :: Y).set i c' = X ++ c' :: Y := by
 rw [List.set_append_right _ _ (by omega), h, Nat.sub_self, List.set_cons_zero]
theorem OR.split {α : Type} {R : α → List OV → Prop} : ∀ {l : List α} {es : List (List OV)}, OR R l es → ∀ k (hk : k < l.length), ∃ A e B, es = A ++ e :: B ∧ A.length = k ∧ R l[k] e
 |x :: l, e :: es, h, 0, _ => ⟨[], e, es, rfl, rfl, h.1⟩
 |x :: l, e :: es, h, k + 1, hk => by
  obtain ⟨A, e', B, h1, h2, h3⟩ := OR.split h.2 k (by simpa using hk)
  exact ⟨e :: A, e', B, by rw [h1]; rfl, by simp [h2], by simpa using h3⟩
 | [], [], _, k, hk => by simp at hk
 | [], _ :: _, h, _, _ => h.elim
 | _ :: _, [], h, _, _ => h.elim
theorem cU (a b : List (List OV)) : OV.cells (a ++ b) = OV.cells a ++ OV.cells b := by simp [OV.cells]
theorem dP (e : List OV) (b : List (List OV)) : OV.cells (e :: b) = (e.map fun c => Cell.v c.val) :: OV.cells b := rfl
theorem pU (a b : List (List OV)) : OV.bA (a ++ b) = OV.bA a ++ OV.bA b := by simp [OV.cF]
theorem r8 (e : List OV) (b : List (List OV)) : OV.bA (e :: b) = e.map OV.e9 :: OV.bA b := by simp [OV.cF]
theorem nR (a : List (List OV)) : (OV.bA a).length = a.length := by simp [OV.cF]
theorem aCQ (x : aA) : (OV.v x).e9 = x := by rw [OV.e9]
theorem r9 (sz : Nat) : (OV.nil sz).e9 = .sl sz [] false := by rw [OV.e9]
theorem vO (n sz : Nat) (es : List (List OV)) : (OV.sl n sz es).e9 = .sl sz (OV.bA es) false := by rw [OV.e9]
theorem mD (x : OV) (e : List OV) : (x :: e).map OV.e9 = x.e9 :: e.map OV.e9 := rfl
theorem nS : ([] : List OV).map OV.e9 = [] := rfl
theorem cM (x : OV) (e : List OV) : ((x :: e).map fun c => Cell.v c.val) = .v x.val :: e.map fun c => Cell.v c.val := rfl
theorem cY : (([] : List OV).map fun c => Cell.v c.val) = [] := rfl
theorem cV (a b : List (List OV)) : OV.aS (a ++ b) = OV.aS a ++ OV.aS b := OV.jW a b
theorem cG (e : List OV) (b : List (List OV)) : OV.aS (e :: b) = OV.aR e ++ OV.aS b := by rw [OV.aS]
def OV.ctT : OV → Nat
 | .v _ => 0
 |x => x.ct
def OV.mkT (k : Int) : OV → OV
 | .v x => .v x
 |x => x.mk k
def OV.hF : List OV → Nat
 | [] => 0
 |x :: e => x.ctT + OV.hF e
def OV.kO (k : Int) : List OV → List OV
 | [] => []
 |x :: e => x.mkT k :: OV.kO (k + x.ctT) e
theorem OS.wR {α : Type} {R : α → List OV → Prop} {sz : Nat} {l : List α} {y : OV} (h : OS R sz l y) (k : Int) : (y.mk k).e9.flat = true := by
 rcases h with ⟨rfl, _⟩ | ⟨n, es, rfl, _⟩
 ·rw [OV.pR, r9]; rfl
 ·rw [OV.uB, vO]; rfl
theorem OS.y2 {α : Type} {R : α → List OV → Prop} {sz : Nat} {l : List α} {y : OV} (h : OS R sz l y) (k : Int) : (y.mk k).e9.cells = [(y.mk k).e9] := by
 rcases h with ⟨rfl, _⟩ | ⟨n, es, rfl, _⟩
 ·rw [OV.pR, r9]; rfl
 ·rw [OV.uB, vO]; rfl
theorem OV.rE : OV.hF [] = 0 := rfl
theorem OV.pV (x : OV) (e : List OV) : OV.hF (x :: e) = x.ctT + OV.hF e := rfl
theorem OV.rF (k : Int) : OV.kO k [] = [] := rfl
theorem OV.pW (k : Int) (x : OV) (e : List OV) : OV.kO k (x :: e) = x.mkT k :: OV.kO (k + x.ctT) e := rfl
theorem OV.aCS (x : aA) : (OV.v x).ctT = 0 := rfl
theorem OV.aCT (k : Int) (x : aA) : (OV.v x).mkT k = .v x := rfl
theorem kX : ((0 : Nat) : Int) = 0 := rfl
theorem OS.ctT {α : Type} {R : α → List OV → Prop} {sz : Nat} {l : List α} {y : OV} (h : OS R sz l y) : y.ctT = y.ct := by
 rcases h with ⟨rfl, _⟩ | ⟨n, es, rfl, _⟩ <;> rfl
theorem OS.mkT {α : Type} {R : α → List OV → Prop} {sz : Nat} {l : List α} {y : OV} (h : OS R sz l y) (k : Int) : y.mkT k = y.mk k := by
 rcases h with ⟨rfl, _⟩ | ⟨n, es, rfl, _⟩ <;> rfl
def aH1 (P : Program) (f : FuncId) (R : OV → Prop) : Prop := ∀ (y : OV) (k : Int) (h : Heap), R y → 0 ≤ k → k + y.ct ≤ 4611686018427387904 → cE h y.rows → (aH y.rows).Nodup →
 gC P f [y.val, .int .i64 k] h fun r h' => r = .int .i64 (k + y.ct) ∧ j2 h h' y.rows (y.mk k).rows
def aH2 (P : Program) (f : FuncId) (R : OV → Prop) : Prop := ∀ (y : OV) (k : Int), R y → 0 ≤ k → k + y.ct ≤ 4611686018427387904 → dV P f [(y.mk k).e9, .int .i64 k] (.int .i64 (k + y.ct))
def aH3 (P : Program) (f : FuncId) (R : List OV → Prop) : Prop := ∀ (e : List OV) (k : Int) (h : Heap), R e → 0 ≤ k → k + OV.hF e ≤ 4611686018427387904 → cE h (OV.aR e) → (aH (OV.aR e)).Nodup →
 gC P f [.agg (e.map OV.val), .int .i64 k] h fun r h' => r = .int .i64 (k + OV.hF e) ∧ j2 h h' (OV.aR e) (OV.aR (OV.kO k e))
def aH4 (P : Program) (f : FuncId) (R : List OV → Prop) : Prop := ∀ (e : List OV) (k : Int), R e → 0 ≤ k → k + OV.hF e ≤ 4611686018427387904 → dV P f [.agg ((OV.kO k e).map OV.e9), .int .i64 k] (.int .i64 (k + OV.hF e))
set_option linter.unusedVariables false
set_option linter.unusedSimpArgs false
theorem cE.up {g : Heap} {l : List (Nat × aM)} {n : Nat} {o : aM} (ow : cE g l) (hn : g n = none) : cE (a7 g n o) l := fun p hp => by
 have : p.1 ≠ n := fun e => by have := ow p hp; rw [e, hn] at this; cases this
 rw [aB _ _ _ _ this]; exact ow p hp
theorem j2.under {g h' : Heap} {n : Nat} {o : aM} {l l' : List (Nat × aM)} (hg : g n = none) (ho : cE g l) (c : j2 (a7 g n o) h' l l') : ∃ g', h' = a7 g' n o ∧ j2 g g' l l' ∧ g' n = none := by
 have hn : n ∉ aH l := fun q => by
  obtain ⟨x, hx⟩ := aY.1 q
  have := ho _ hx
  rw [hg] at this; cases this
 have hk : h' n = some o := by rw [c.upto n hn, aW]
 refine ⟨dN h' [n], ?_, ⟨c.names, fun p hp => ?_, fun m hm => ?_⟩, by simp [dN]⟩
 ·funext m
  by_cases e : m = n
  ·subst e; rw [aW, hk]
  ·rw [aB _ _ _ _ e]; simp [dN, e]
 ·have e : p.1 ≠ n := fun e => hn (by rw [← c.names]; exact e ▸ aY.2 ⟨p.2, hp⟩)
  have : dN h' [n] p.1 = h' p.1 := by simp [dN, e]
  rw [this]; exact c.fO p hp
 ·by_cases e : m = n
  ·subst e; rw [hg]; simp [dN]
  ·have : dN h' [n] m = h' m := by simp [dN, e]
   rw [this, c.upto m hm, aB _ _ _ _ e]
theorem eU.un1 {g h' : Heap} {n0 : Nat} {o0 : aM} {l : List (Nat × aM)} (h0 : g n0 = none) (x : eU (a7 g n0 o0) l h') : ∃ g', h' = (a7 g' n0 o0) ∧ eU g l g' ∧ g' n0 = none := by
 exact x.under h0
theorem j2.un1 {g h' : Heap} {n0 : Nat} {o0 : aM} {l l' : List (Nat × aM)} (h0 : g n0 = none) (ho : cE g l) (x : j2 (a7 g n0 o0) h' l l') : ∃ g', h' = (a7 g' n0 o0) ∧ j2 g g' l l' ∧ g' n0 = none := by
 exact x.under h0 ho
theorem aI.wn1 {P : Program} {f : FuncId} {args : List aA} {Q : aA → List (Nat × aM) → Prop} {K : aA → Heap → Prop} {t : Tag K} {g : Heap} {n0 : Nat} {o0 : aM} (a : pM P f args Q) (h0 : g n0 = none) (k : ∀ r l g', Q r l → eU g l g' → g' n0 = none → K r (a7 g' n0 o0)) : aI P f args (a7 g n0 o0) K t :=
 aI.mkH (a _) fun r h' ⟨l, q, hq⟩ => by
  obtain ⟨g', rfl, q2, z0⟩ := hq.un1 h0
  exact k r l _ q q2 z0
theorem aI.wl1 {P : Program} {f : FuncId} {args args' : List aA} {Q : aA → List (Nat × aM) → Prop} {K : aA → Heap → Prop} {t : Tag K} {g : Heap} {n0 : Nat} {o0 : aM} (a : pM P f args' Q) (hv : aK (a7 g n0 o0) args args') (hQ : vL Q) (h0 : g n0 = none) (k : ∀ r l g', Q r l → eU g l g' → g' n0 = none → K r (a7 g' n0 o0)) : aI P f args (a7 g n0 o0) K t :=
 aI.mkH (a.aDZ hv hQ) fun r h' ⟨l, q, hq⟩ => by
  obtain ⟨g', rfl, q2, z0⟩ := hq.un1 h0
  exact k r l _ q q2 z0
theorem eU.un2 {g h' : Heap} {n0 : Nat} {o0 : aM} {n1 : Nat} {o1 : aM} {l : List (Nat × aM)} (h0 : g n0 = none) (h1 : n1 ≠ n0 ∧ g n1 = none) (x : eU (a7 (a7 g n0 o0) n1 o1) l h') : ∃ g', h' = (a7 (a7 g' n0 o0) n1 o1) ∧ eU g l g' ∧ g' n0 = none ∧ g' n1 = none := by
 obtain ⟨g1, rfl, x1, q1⟩ := x.under (by simp only [fN]; exact h1)
 obtain ⟨g2, rfl, x2, z0⟩ := eU.un1 h0 x1
 refine ⟨g2, rfl, x2, z0, ?_⟩
 simp only [fN] at q1
 exact q1.2
theorem j2.un2 {g h' : Heap} {n0 : Nat} {o0 : aM} {n1 : Nat} {o1 : aM} {l l' : List (Nat × aM)} (h0 : g n0 = none) (h1 : n1 ≠ n0 ∧ g n1 = none) (ho : cE g l) (x : j2 (a7 (a7 g n0 o0) n1 o1) h' l l') : ∃ g', h' = (a7 (a7 g' n0 o0) n1 o1) ∧ j2 g g' l l' ∧ g' n0 = none ∧ g' n1 = none := by
 obtain ⟨g1, rfl, x1, q1⟩ := x.under (by simp only [fN]; exact h1) (ho.up h0)
 obtain ⟨g2, rfl, x2, z0⟩ := j2.un1 h0 ho x1
 refine ⟨g2, rfl, x2, z0, ?_⟩
 simp only [fN] at q1
 exact q1.2
theorem cE.up2 {g : Heap} {n0 : Nat} {o0 : aM} {n1 : Nat} {o1 : aM} {l : List (Nat × aM)} (h0 : g n0 = none) (h1 : n1 ≠ n0 ∧ g n1 = none) (ho : cE g l) : cE (a7 (a7 g n0 o0) n1 o1) l := ((ho.up h0).up (by simp only [fN]; exact h1))
theorem aI.wn2 {P : Program} {f : FuncId} {args : List aA} {Q : aA → List (Nat × aM) → Prop} {K : aA → Heap → Prop} {t : Tag K} {g : Heap} {n0 : Nat} {o0 : aM} {n1 : Nat} {o1 : aM} (a : pM P f args Q) (h0 : g n0 = none) (h1 : n1 ≠ n0 ∧ g n1 = none) (k : ∀ r l g', Q r l → eU g l g' → g' n0 = none → g' n1 = none → K r (a7 (a7 g' n0 o0) n1 o1)) : aI P f args (a7 (a7 g n0 o0) n1 o1) K t :=
 aI.mkH (a _) fun r h' ⟨l, q, hq⟩ => by
  obtain ⟨g', rfl, q2, z0, z1⟩ := hq.un2 h0 h1
  exact k r l _ q q2 z0 z1
theorem aI.wc2 {P : Program} {f : FuncId} {args : List aA} {K : aA → Heap → Prop} {t : Tag K} {g : Heap} {n0 : Nat} {o0 : aM} {n1 : Nat} {o1 : aM} {l l' : List (Nat × aM)} {r0 : aA} (a : gC P f args (a7 (a7 g n0 o0) n1 o1) fun r h' => r = r0 ∧ j2 (a7 (a7 g n0 o0) n1 o1) h' l l') (ho : cE g l) (h0 : g n0 = none) (h1 : n1 ≠ n0 ∧ g n1 = none) (k : ∀ g', j2 g g' l l' → g' n0 = none → g' n1 = none → K r0 (a7 (a7 g' n0 o0) n1 o1)) : aI P f args (a7 (a7 g n0 o0) n1 o1) K t :=
 aI.mkH a fun r h' ⟨e, hq⟩ => by
  subst e
  obtain ⟨g', e0, q2, z0, z1⟩ := hq.un2 h0 h1 ho
  subst e0
  exact k _ q2 z0 z1
theorem cE.up3 {g : Heap} {n0 : Nat} {o0 : aM} {n1 : Nat} {o1 : aM} {n2 : Nat} {o2 : aM} {l : List (Nat × aM)} (h0 : g n0 = none) (h1 : n1 ≠ n0 ∧ g n1 = none) (h2 : n2 ≠ n1 ∧ n2 ≠ n0 ∧ g n2 = none) (ho : cE g l) : cE (a7 (a7 (a7 g n0 o0) n1 o1) n2 o2) l := (((ho.up h0).up (by simp only [fN]; exact h1)).up (by simp only [fN]; exact h2))
theorem OV.aBG (k : Int) (x : OV) : (x.mkT k).val = x.val := by
 cases x with
 |v x => rfl
 |nil sz => show ((OV.nil sz).mk k).val = _; rw [OV.pR]
 |sl n sz es => show ((OV.sl n sz es).mk k).val = _; rw [OV.uB, OV.r7, OV.r7, OV.gR]
theorem OV.rG : ∀ (k : Int) (e : List OV), (OV.kO k e).map OV.val = e.map OV.val
 |k, [] => rfl
 |k, x :: e => by rw [OV.kO, List.map_cons, List.map_cons, OV.aBG, OV.rG]
theorem OR.aBH {α : Type} {R : α → List OV → Prop} : ∀ {l : List α} {es : List (List OV)}, (∀ x ∈ l, ∀ e, R x e → OV.eC e = true) → OR R l es → OV.fY es = true
 | [], [], _, _ => rfl
 |x :: l, e :: es, hR, h => by rw [OV.fY, hR x List.mem_cons_self e h.1, OR.aBH (fun y hy => hR y (List.mem_cons_of_mem _ hy)) h.2]; rfl
 | [], _ :: _, _, h => h.elim
 | _ :: _, [], _, h => h.elim
theorem OS.aBH {α : Type} {R : α → List OV → Prop} {sz : Nat} {l : List α} {y : OV} (hR : ∀ x ∈ l, ∀ e, R x e → OV.eC e = true) (h : OS R sz l y) : y.x4 = true := by
 rcases h with ⟨rfl, _⟩ | ⟨n, es, rfl, h⟩
 ·rfl
 ·simp only [OV.x4]; exact h.aBH hR
theorem OR.ct0 {α : Type} {R : α → List OV → Prop} : ∀ {l : List α} {es : List (List OV)}, OR R l es → (∀ x ∈ l, ∀ e, R x e → OV.eV e ≤ 16) → OV.bW es ≤ 16 * l.length
 | [], [], _, _ => by simp [OV.bW]
 |x :: l, e :: es, h, hc => by
  have h1 := hc x List.mem_cons_self e h.1
  have h2 := OR.ct0 h.2 fun y hy => hc y (List.mem_cons_of_mem _ hy)
  rw [OV.bW]
  simp only [List.length_cons] at h2 ⊢
  omega
 | [], _ :: _, h, _ => h.elim
 | _ :: _, [], h, _ => h.elim
theorem OS.aLG {α : Type} {R : α → List OV → Prop} {sz : Nat} {l : List α} {y : OV} (h : OS R sz l y) (hc : ∀ x ∈ l, ∀ e, R x e → OV.eV e ≤ 16) : y.ct ≤ 16 * l.length := by
 rcases h with ⟨rfl, _⟩ | ⟨n, es, rfl, h⟩
 ·rw [OV.vN]; omega
 ·rw [OV.uA]; exact h.ct0 hc
theorem aH6 {α : Type} {c : α → aA} {x : α} {e : List OV} (h : oP c x e) : OV.eV e ≤ 16 := by
 unfold oP at h; subst h; simp [OV.eV, OV.ct]
theorem OS.ctP {α : Type} {c : α → aA} {sz : Nat} {l : List α} {y : OV} (h : OS (oP c) sz l y) : y.ct ≤ 16 * l.length := h.aLG fun _ _ _ q => aH6 q
set_option linter.unusedVariables false
set_option linter.unusedSimpArgs false
def vP (w : aA → aA) : Prop := ∀ (E : Env) (h g : Heap) (W : World) (x y : aA) (v : Value), (∀ b, e8 E h W b → e8 E g W b) → (∀ u, aZ E h W x u → aZ E g W y u) → aZ E h W (w x) v → aZ E g W (w y) v
theorem aP.hole {E : Env} {h g : Heap} {W : World} {x y : aA} (hi : ∀ b, e8 E h W b → e8 E g W b) (hr : ∀ u, aZ E h W x u → aZ E g W y u) : ∀ (a b : List aA) (vs : List Value), aP E h W (a ++ x :: b) vs → aP E g W (a ++ y :: b) vs
 | [], b, v :: vs, r => ⟨hr v r.1, aP.j3 hi r.2⟩
 |z :: a, b, v :: vs, r => ⟨r.1.j3 hi, aP.hole hi hr a b vs r.2⟩
 | [], b, [], r => r.elim
 |z :: a, b, [], r => r.elim
theorem mE (a b : List aA) : vP fun x => .bY (a ++ x :: b) := fun E h g W x y v hi hr r => by
 generalize hc : a ++ x :: b = cs at r
 cases r with
 |bY _ vs hl hrr =>
  subst hc
  have := aP.hole hi hr a b vs (aP.mk hl hrr)
  exact .bY _ vs this.length this.get
theorem QS.y4 {P : Program} {f : FuncId} {args : List aA} {R : OV → Prop} {w : aA → aA} {d : aA} (a : pM P f args (QS R w)) (hd : ∀ y, R y → y.e9 = d) (hw : vP w) : dV P f args (w d) :=
 a.fU fun r' l ⟨y, hy, e1, e2⟩ E W v h' ho R' rx => by
  subst e1 e2
  rw [← hd y hy]
  exact hw E h' _ W y.val y.e9 v (fun b => fH _ b) (fun u ru => aZ.nO R' y ho (fun p hp => aY.2 ⟨p.2, hp⟩) u ru) rx
theorem QA.y4 {P : Program} {f : FuncId} {args : List aA} {R : List OV → Prop} {w : aA → aA} {d : List aA} (a : pM P f args (QA R w)) (hd : ∀ e, R e → e.map OV.e9 = d) (hw : vP w) : dV P f args (w (.agg d)) :=
 a.fU fun r' l ⟨y, hy, e1, e2⟩ E W v h' ho R' rx => by
  subst e1 e2
  rw [← hd y hy]
  exact hw E h' _ W (.agg (y.map OV.val)) (.agg (y.map OV.e9)) v (fun b => fH _ b) (fun u ru => aZ.tX R' y u ho (fun p hp => aY.2 ⟨p.2, hp⟩) ru) rx
def mF (sz len : Nat) : Option Nat → aA
 |none => .sl sz [] true
 |some n => .os n sz 0 len
def jX (h : Heap) (o : aM) : Option Nat → Heap
 |none => h
 |some n => a7 h n o
theorem cZ (sz len : Nat) : mF sz len none = .sl sz [] true := rfl
theorem bH (sz len n : Nat) : mF sz len (some n) = .os n sz 0 len := rfl
theorem cN (h : Heap) (o : aM) : jX h o none = h := rfl
theorem a6 (h : Heap) (o : aM) (n : Nat) : jX h o (some n) = a7 h n o := rfl
theorem pX {h : Heap} {n b : Nat} {o r : aM} (hn : h n = none) : (a7 h b r).le (a7 (a7 (a7 h n o) n .gone) b r) := fun m => by
 by_cases e : m = b
 ·subst e; right; simp
 ·rw [aB _ _ _ _ e, aB _ _ _ _ e]
  by_cases e2 : m = n
  ·subst e2; exact .inl hn
  ·right; rw [aB _ _ _ _ e2, aB _ _ _ _ e2]
def jY {α : Type} (h : Heap) (l : List α) : Option Nat → Prop
 |none => l = []
 |some n => h n = none
theorem cO {α : Type} (h : Heap) (l : List α) : jY h l none = (l = []) := rfl
theorem bC {α : Type} (h : Heap) (l : List α) (n : Nat) : jY h l (some n) = (h n = none) := rfl
theorem grown {α : Type} {c : α → aA} {h : Heap} {sz : Nat} {l : List α} {o : Option Nat} (hs : jY h l o) :
  ∃ y : OV, OS (oP c) sz l y ∧ y.val = mF sz l.length o ∧ eU h y.rows (jX h (.row sz ((l.map fun x => [c x]).map (List.map .v))) o) := by
 cases o with
 |none => exact ⟨.nil sz, .inl ⟨rfl, hs⟩, rfl, by rw [OV.kN]; exact eU.nil h⟩
 |some n =>
  refine ⟨.sl n sz (l.map fun x => [.v (c x)]), OS.mk (pL l), by simp [OV.val, mF], ?_⟩
  rw [OV.fZ, iV, kW]
  exact eU.one hs
theorem kP {α : Type} (c : α → aA) (l : List α) (x : α) : List.take l.length ((l.map fun x => [c x]).map (List.map Cell.v)) ++ [[Cell.v (c x)]] = ((l ++ [x]).map fun x => [c x]).map (List.map .v) := by
 rw [List.take_of_length_le (by simp)]
 simp
theorem View.aLH {h : Heap} {c : List aA} (e : List OV) (hd : e.map OV.e9 = c) (ho : cE h (OV.aR e)) : View h (.agg (e.map OV.val)) (.agg c) := hd ▸ View.agg e ho
theorem View.aH7 {h : Heap} (k : Int) (e : List OV) (ho : cE h (OV.aR (OV.kO k e))) : View h (.agg (e.map OV.val)) (.agg ((OV.kO k e).map OV.e9)) := by
 have := View.agg (OV.kO k e) ho
 rwa [OV.rG] at this
theorem View.ovD {h : Heap} {d : aA} (y : OV) (hd : y.e9 = d) (ho : cE h y.rows) : View h y.val d := hd ▸ View.ov y ho
set_option linter.unusedVariables false
set_option linter.unusedSimpArgs false
theorem aBM {α : Type} {c : α → aA} {l : List α} {sz : Nat} {h : Heap} (e : (l.map fun x => [c x]) = []) : ∃ r1 g l1, Shift (.sl sz [] true) h r1 g ∧ QS (OS (oP c) sz l) (fun x => x) r1 l1 ∧ eU h l1 g := by
 obtain rfl : l = [] := by simpa using e
 exact ⟨_, _, _, pB _ _, ⟨.nil sz, OS.nil, rfl, rfl⟩, by rw [OV.kN]; exact eU.nil h⟩
theorem wS {α : Type} {c : α → aA} {l : List α} {sz n : Nat} {h : Heap} (hn : h n = none) :
  ∃ r1 g l1, Shift (.os n sz 0 l.length) (a7 h n (.row sz ((l.map fun x => [c x]).map (List.map .v)))) r1 g ∧ QS (OS (oP c) sz l) (fun x => x) r1 l1 ∧ eU h l1 g := by
 refine ⟨_, _, _, pB _ _, ⟨.sl n sz (l.map fun x => [.v (c x)]), OS.mk (pL l), by simp [OV.val], rfl⟩, ?_⟩
 rw [OV.fZ, iV, kW]
 exact eU.one hn
def Heap.wk (g h : Heap) : Prop := ∀ E w, Rel E h w → Rel E g w ∧ ∀ b, e8 E h w b → e8 E g w b
theorem Heap.wk.trans {a b c : Heap} (x : a.wk b) (y : b.wk c) : a.wk c := fun E w R =>
 ⟨(x E w (y E w R).1).1, fun d i => (x E w (y E w R).1).2 d ((y E w R).2 d i)⟩
theorem Heap.wk.ev {g h : Heap} (x : g.wk h) {E : Env} {w : World} (R : Rel E h w) : Ev E h w E g w :=
 ⟨Nat.le_refl _, fun b hb => ⟨rfl, (x E w R).2 b hb⟩, fun _ _ => rfl, fun _ hn => ⟨rfl, hn⟩, rfl, rfl⟩
def aD1 (x y : Cell) : Prop := ∀ E h w c S, iB E h w x c S → iB E h w y c S
def lP : List (List Cell) → List (List Cell) → Prop
 | [], [] => True
 |a :: l, b :: m => (a.length = b.length ∧ ∀ (j : Nat) (x : Cell), b[j]? = some x → ∃ y, a[j]? = some y ∧ aD1 y x) ∧ lP l m
 | _, _ => False
theorem lP.length : ∀ {l m}, lP l m → l.length = m.length
 | [], [], _ => rfl
 |a :: l, b :: m, h => by rw [List.length_cons, List.length_cons, lP.length h.2]
 | [], _ :: _, h => h.elim
 | _ :: _, [], h => h.elim
theorem lP.size {sz : Nat} : ∀ {l m}, lP l m → (∀ e ∈ l, e.length = sz) → ∀ e ∈ m, e.length = sz
 | [], [], _, _ => by simp
 |a :: l, b :: m, h, hs => fun e he => by
  rcases List.mem_cons.1 he with rfl | he
  ·rw [← h.1.1]; exact hs a List.mem_cons_self
  ·exact lP.size h.2 (fun e he => hs e (List.mem_cons_of_mem _ he)) e he
 | [], _ :: _, h, _ => h.elim
 | _ :: _, [], h, _ => h.elim
set_option linter.unusedVariables false
set_option linter.unusedSimpArgs false
abbrev Q4 := Option (Nat × Nat × Nat × Nat)
def q1 : Q4 → Option Nat | none => none | some x => some x.1
def q2 : Q4 → Option Nat | none => none | some x => some x.2.1
def aCU (R : List OV → Prop) (z : List aA) : Prop := ∃ e, R e ∧ OV.aR e = [] ∧ Sub (.agg z) (.agg (e.map OV.val))
def aD2 (w : aA → aA) : Prop := ∀ x y, Sub x y → Sub (w x) (w y)
theorem dZ.mid {x y : aA} (s : Sub x y) (b : List aA) : ∀ a : List aA, dZ (a ++ x :: b) (a ++ y :: b)
 | [] => .cons s (.refl b)
 |z :: a => .cons (.refl z) (dZ.mid s b a)
theorem eW (a b : List aA) : aD2 fun x => .bY (a ++ x :: b) := fun _ _ s => Sub.bY (dZ.mid s b a)
theorem y7 {R : List OV → Prop} {w : aA → aA} {z : List aA} {h h' : Heap} (hz : aCU R z) (hw : aD2 w) (hl : h.le h') : ∃ r1 g l, Shift (w (.agg z)) h' r1 g ∧ QA R w r1 l ∧ eU h l g := by
 obtain ⟨e, h1, h2, h3⟩ := hz
 exact ⟨_, h, _, Shift.of (hw _ _ h3) hl, ⟨e, h1, rfl, h2.symm⟩, eU.nil h⟩
theorem sC {R : List OV → Prop} {w : aA → aA} {e : List OV} {h h' g : Heap} (hR : R e) (hn : eU h (OV.aR e) g) (hl : g.le h') : ∃ r1 g l, Shift (w (.agg (e.map OV.val))) h' r1 g ∧ QA R w r1 l ∧ eU h l g :=
 ⟨_, g, _, Shift.of (Sub.refl _) hl, ⟨e, hR, rfl, rfl⟩, hn⟩
theorem OV.uH {α : Type} (c : α → aA) (n sz : Nat) (l : List α) : (OV.sl n sz (l.map fun x => [.v (c x)])).val = .os n sz 0 l.length := by rw [OV.r7, List.length_map]
theorem pZ {g : Heap} {n m : Nat} {o : aM} (hn : g n = some o) (hm : g m = none) : n ≠ m := fun e => by rw [e, hm] at hn; cases hn
theorem eU.over {h g : Heap} {l : List (Nat × aM)} {n : Nat} {o : aM} (w : eU h l g) (hn : g n = none) : eU (a7 h n o) l (a7 g n o) := by
 have hne : ∀ m ∈ aH l, m ≠ n := fun m hm e => by
  obtain ⟨x, hx⟩ := aY.1 hm
  have := w.fO (m, x) hx
  rw [e, hn] at this; cases this
 refine ⟨w.nodup, fun m hm => ?_, fun p hp => ?_, fun m hm => ?_⟩
 ·rw [aB _ _ _ _ (hne m hm)]; exact w.fresh m hm
 ·rw [aB _ _ _ _ (hne p.1 (aY.2 ⟨p.2, hp⟩))]; exact w.fO p hp
 ·simp only [gB]; split
  ·rfl
  ·exact w.upto m hm
theorem mY (e : List OV) : OV.cells [e] = [e.map fun c => Cell.v c.val] := rfl
theorem View.box {T : List aA} {g : Heap} {nb sz : Nat} {e : List OV} (hd : e.map OV.e9 = T) (hn : g nb = none) (ho : cE g (OV.aR e)) : View (a7 g nb (.row sz (OV.cells [e]))) (.op nb sz 0 0) (.ip sz [T] 0 0) := by
 have := View.op (h := a7 g nb (.row sz (OV.cells [e]))) (n := nb) (sz := sz) (i := 0) (off := 0) [e] (by rw [aW]) (by simp) (by
  have h1 : OV.aS [e] = OV.aR e := by simp [OV.aS]
  rw [h1]; exact ho.up hn)
 have h2 : OV.bA [e] = [T] := by rw [OV.cF]; simp [hd]
 rwa [h2] at this
theorem eU.le {h g : Heap} {l : List (Nat × aM)} (w : eU h l g) : h.le g := fun q => by
 by_cases hq : q ∈ aH l
 ·exact .inl (w.fresh q hq)
 ·exact .inr (w.upto q hq).symm
theorem gC.shift {P : Program} {f : FuncId} {args : List aA} {h : Heap} {K K' : aA → Heap → Prop} (a : gC P f args h K') (hk : ∀ r h', K' r h' → ∃ g : Heap, g.wk h' ∧ K r g) : gC P f args h K :=
 ⟨a.1, fun E w vs R r => by
  exact (a.2 E w vs R r).mono fun e w' q => by
   cases e with
   |returned v =>
    obtain ⟨r, h', E', k, ev, R2, r2⟩ := q
    obtain ⟨g, hg, k'⟩ := hk r h' k
    obtain ⟨R3, hi⟩ := hg E' w' R2
    exact ⟨r, g, E', k', ev.trans (hg.ev R2), R3, aZ.j3 hi r2⟩
   | _ => exact q.elim⟩
set_option linter.unusedVariables false
set_option linter.unusedSimpArgs false
def Env.part (E : Env) (n m i sz : Nat) : Env := ⟨fun k => if k = m then (E.loc n).map fun p => (p.1, p.2 + i * sz) else E.loc k, fun k b => if k = m then E.fp n b else E.fp k b, fun k => k = m ∨ E.used k⟩
theorem uI {α : Type} (es : List (List α)) (i a j : Nat) : b9 (es.drop i) a j = b9 es (i + a) j := by
 unfold b9; rw [List.getElem?_drop]
theorem Rel.part {E : Env} {h : Heap} {w : World} (R : Rel E h w) {n sz i : Nat} {es : List (List Cell)} (hn : h n = some (.row sz es)) (hi : i ≤ es.length) :
  ∃ m, ¬ E.used m ∧ h m = Option.none ∧ Ev E h w (E.part n m i sz) (a7 (a7 h n .gone) m (.row sz (es.drop i))) w ∧ Rel (E.part n m i sz) (a7 (a7 h n .gone) m (.row sz (es.drop i))) w ∧
   ∀ len v, aZ E h w (.os n sz i len) v → aZ (E.part n m i sz) (a7 (a7 h n .gone) m (.row sz (es.drop i))) w (.os m sz 0 len) v := by
 obtain ⟨N, hN⟩ := R.fin
 have hm : ¬ E.used N := hN N (Nat.le_refl _)
 have hmn : ¬ N = n := fun e => hm (by rw [e]; exact R.nC n (by rw [hn]; simp))
 have hnm : ¬ n = N := fun e => hmn e.symm
 have hh : h N = Option.none := by
  cases e : h N with
  |none => rfl
  |some o => exact absurd (R.nC N (by rw [e]; simp)) hm
 have hlive : ∀ {k o}, a7 (a7 h n .gone) N (.row sz (es.drop i)) k = some o → o.live → (k = N ∧ o = .row sz (es.drop i)) ∨ (¬ k = N ∧ ¬ k = n ∧ h k = some o) := fun {k o} hk ho => by
  simp only [gB] at hk
  split at hk
  ·exact .inl ⟨by assumption, (Option.some.inj hk).symm⟩
  ·split at hk
   ·rw [← Option.some.inj hk] at ho; exact ho.elim
   ·exact .inr ⟨by assumption, by assumption, hk⟩
 have himm : ∀ b, e8 E h w b → e8 (E.part n N i sz) (a7 (a7 h n .gone) N (.row sz (es.drop i))) w b := fun b ib => ⟨ib.1, fun k o hk ho hf => by
  rcases hlive hk ho with ⟨rfl, rfl⟩ | ⟨h1, h2, h3⟩
  ·simp only [Env.part, ↓reduceIte] at hf
   exact ib.2 n _ hn trivial hf
  ·simp only [Env.part, if_neg h1] at hf
   exact ib.2 k o h3 ho hf⟩
 have hloc : ∀ k, E.used k → (E.part n N i sz).loc k = E.loc k ∧ (E.part n N i sz).used k := fun k hk => ⟨by simp only [Env.part]; rw [if_neg (fun e : k = N => hm (by rw [← e]; exact hk))], .inr hk⟩
 have ev : Ev E h w (E.part n N i sz) (a7 (a7 h n .gone) N (.row sz (es.drop i))) w := ⟨Nat.le_refl _, fun b ib => ⟨rfl, himm b ib⟩, fun _ _ => rfl, hloc, rfl, rfl⟩
 have hfp : ∀ {k}, ¬ k = N → (E.part n N i sz).fp k = E.fp k := fun {k} hk => by funext b; simp only [Env.part, if_neg hk]
 have hfpN : (E.part n N i sz).fp N = E.fp n := by funext b; simp only [Env.part, ↓reduceIte]
 have hlocN : (E.part n N i sz).loc N = (E.loc n).map fun p => (p.1, p.2 + i * sz) := by simp only [Env.part, ↓reduceIte]
 refine ⟨N, hm, hh, ev, ⟨⟨N + 1, fun k hk q => ?_⟩, fun k hk => ?_, fun k o b hk ho hf => ?_, fun k o k' o' b hk ho hk' ho' hf hf' => ?_, fun k o hk => ?_, R.laid.ev ev⟩, fun len v r => ?_⟩
 ·rcases q with q | q
  ·omega
  ·exact hN k (by omega) q
 ·by_cases e : k = N
  ·exact .inl e
  ·right
   simp only [gB, if_neg e] at hk
   split at hk
   ·rename_i e2; rw [e2]; exact R.nC n (by rw [hn]; simp)
   ·exact R.nC k hk
 ·rcases hlive hk ho with ⟨rfl, rfl⟩ | ⟨h1, h2, h3⟩
  ·rw [hfpN] at hf; exact R.lt n _ b hn trivial hf
  ·rw [hfp h1] at hf; exact R.lt k o b h3 ho hf
 ·rcases hlive hk ho with ⟨rfl, rfl⟩ | ⟨h1, h2, h3⟩
  ·rcases hlive hk' ho' with ⟨rfl, rfl⟩ | ⟨sX, h2', h3'⟩
   ·rfl
   ·rw [hfpN] at hf; rw [hfp sX] at hf'
    exact absurd (R.apart n _ k' o' b hn trivial h3' ho' hf hf').symm h2'
  ·rcases hlive hk' ho' with ⟨rfl, rfl⟩ | ⟨sX, h2', h3'⟩
   ·rw [hfpN] at hf'; rw [hfp h1] at hf
    exact absurd (R.apart k o n _ b h3 ho hn trivial hf hf') h2
   ·rw [hfp h1] at hf; rw [hfp sX] at hf'
    exact R.apart k o k' o' b h3 ho h3' ho' hf hf'
 ·by_cases e : k = N
  ·subst e
   simp only [gB, ↓reduceIte] at hk
   rw [← Option.some.inj hk]
   have hro := R.obj n _ hn
   rcases hro with ⟨b, o', hl, ra⟩ | ⟨he, hl⟩
   ·refine .inl ⟨b, o' + i * sz, by rw [hlocN, hl]; rfl, ?_⟩
    rw [hfpN]
    obtain ⟨cs, t, cv, T, q1, q2, q3, q4, q5, q6⟩ := ra.mem
    refine ⟨ra.hb, fun e he => ra.size e (List.mem_of_mem_drop he), cs, t, fun a j => cv (i + a) j, fun a j => T (i + a) j, q1, ?_, fun a j c hc => q3 _ _ c hc, fun a j a' j' c x y => by have := q4 _ _ _ _ c x y; omega, fun a j x hx => ?_, fun a j x hx => ?_⟩
    ·rw [List.length_drop]
     have : i * sz + (es.length - i) * sz = es.length * sz := by rw [← Nat.add_mul, Nat.add_sub_cancel' hi]
     omega
    ·rw [uI] at hx
     have := q5 _ _ _ hx
     rw [Nat.add_mul] at this
     rw [show o' + i * sz + a * sz + j = o' + (i * sz + a * sz) + j by omega]; exact this
    ·rw [uI] at hx
     exact (q6 _ _ _ hx).ev ev (fun _ _ => rfl)
   ·refine .inr ⟨by rw [he]; simp, by rw [hlocN, hl]; rfl⟩
  ·simp only [gB, if_neg e] at hk
   split at hk
   ·rw [← Option.some.inj hk]; trivial
   ·rename_i e2
    have hu : E.used k := R.nC k (by rw [hk]; simp)
    exact (R.obj k o hk).ev ev (hloc k hu).1 (hfp e) fun c hx hc => rfl
 ·cases r with
  |os _ _ _ _ b o cap t m hd hl hlc hmax hsh hmm =>
   have := aZ.os (E := E.part n N i sz) (h := a7 (a7 h n .gone) N (.row sz (es.drop i))) (w := w) N sz 0 len b (o + i * sz) cap t m (.inl rfl) (by rw [hlocN, hl]; rfl) hlc hmax hsh (by rw [Nat.zero_add]; rw [Nat.add_mul] at hmm; omega)
   rw [Nat.zero_mul, Nat.add_zero] at this
   exact this
  |sR _ _ hd hl => exact .sR N sz (.inl rfl) (by rw [hlocN, hl]; rfl)
theorem gC.aLM {P : Program} {f : FuncId} {args : List aA} {h : Heap} {K K' : aA → Heap → Prop} (a : gC P f args h K')
  (hk : ∀ r h' E w v, K' r h' → Rel E h' w → aZ E h' w r v → ∃ r2 h2 E2, K r2 h2 ∧ Ev E h' w E2 h2 w ∧ Rel E2 h2 w ∧ aZ E2 h2 w r2 v) : gC P f args h K :=
 ⟨a.1, fun E w vs R r => by
  exact (a.2 E w vs R r).mono fun e w' q => by
   cases e with
   |returned v =>
    obtain ⟨r, h', E', k, ev, R2, r2⟩ := q
    obtain ⟨r3, h3, E3, k3, ev3, R3, rr3⟩ := hk r h' E' w' v k R2 r2
    exact ⟨r3, h3, E3, k3, ev.trans ev3, R3, rr3⟩
   | _ => exact q.elim⟩
theorem View.part {h : Heap} {n sz i len : Nat} {es : List (List Cell)} (hn : h n = some (.row sz es)) (hle : i + len ≤ es.length) : View h (.os n sz i len) (.sl sz (((cD es).drop i).take len) false) := fun E w v R r => by
 have := aZ.rO R hn r (by simp [kG]; omega)
 simp only [aA.jJ, ↓reduceIte] at this
 exact this.j3 fun b i => gG i.1
theorem View.vR {h : Heap} {xs ys : List aA} (a : aK h xs ys) : View h (.agg xs) (.agg ys) := fun E w v R r => by
 cases r with
 |agg _ vs hl hr =>
  have := a.rZ E w vs R (aP.mk hl hr)
  exact .agg _ _ this.length this.get
theorem sD {α : Type} (c : α → aA) (l : List α) : cD ((l.map fun x => [c x]).map (List.map Cell.v)) = l.map fun x => [c x] := by
 rw [gI]; simp [Function.comp_def, Cell.val]
set_option linter.unusedVariables false
set_option linter.unusedSimpArgs false
theorem wT {E : Env} {h : Heap} {w : World} (k : Nat) (os : Array Obj) : Ev E h w E h (Go.Sort.grow (w.drewN k) os) := by
 have hb : ∀ b, b < w.heap.size → (Go.Sort.grow (w.drewN k) os).heap[b]? = w.heap[b]? := fun b hb => by
  show (w.heap ++ os)[b]? = _
  rw [Array.getElem?_append_left hb]
 refine ⟨?_, fun b i => ⟨hb b i.1, ?_, i.2⟩, fun b i => ?_, fun _ hn => ⟨rfl, hn⟩, rfl, rfl⟩
 ·show w.heap.size ≤ (w.heap ++ os).size
  simp
 ·show b < (w.heap ++ os).size
  have := i.1
  simp; omega
 ·simp only [World.shape?, hb b i]
theorem y8 {E : Env} {h : Heap} {w : World} (R : Rel E h w) (k : Nat) (os : Array Obj) : Rel E h (Go.Sort.grow (w.drewN k) os) :=
 have ev := wT (E := E) (h := h) (w := w) k os
 ⟨R.fin, R.nC, fun n x b hn hx hb => Nat.lt_of_lt_of_le (R.lt n x b hn hx hb) ev.size, R.apart,
  fun n x hn => (R.obj n x hn).ev ev rfl rfl fun c hx hc => by
   have := R.lt n x c hn hx hc
   show (w.heap ++ os)[c]? = _
   rw [Array.getElem?_append_left this], R.laid.ev ev⟩
theorem xR {P : Program} {f : FuncId} {args : List aA} {r : aA} (hc : dG P f = true)
  (H : ∀ E h w vs, Rel E h w → aP E h w args vs → Calls P f vs.toArray w fun e w' => ∃ v, e = .returned v ∧ (∀ E' h' w', aZ E' h' w' r v) ∧ ∃ k os, w' = Go.Sort.grow (w.drewN k) os) : dV P f args r := fun h =>
 ⟨hc, fun E w vs R rl => (H E h w vs R rl).mono fun e w' q => by
  obtain ⟨v, rfl, hv, k, os, rfl⟩ := q
  exact ⟨r, h, E, ⟨rfl, rfl⟩, wT k os, y8 R k os, hv _ _ _⟩⟩
theorem LaidIn.var {E : Env} {h : Heap} {w : World} (x : LaidIn E h w) {P : Program} {name : String} {g : Nat} {Q : Array Value → Prop} (hg : P.globalNamed name = some g) (hm : (g, Q) ∈ c7) : ∃ cs, w.var? P name = some cs ∧ Q cs := by
 obtain ⟨_, cs, t, f, ht, q⟩ := x _ hm
 exact ⟨cs, by simp only [World.var?, hg, Option.bind_some, ht], q⟩
theorem LaidIn.cell {E : Env} {h : Heap} {w : World} (x : LaidIn E h w) {g : Nat} {Q : Array Value → Prop} (hm : (g, Q) ∈ c7) : ∃ cs, (∀ i, w.cell? ⟨g, i, none⟩ = cs[i]?) ∧ Q cs := by
 obtain ⟨_, cs, t, f, ht, q⟩ := x _ hm
 exact ⟨cs, fun i => by simp only [World.cell?, ht]; simp, q⟩
set_option linter.unusedVariables false
theorem p1 {E : Env} {h : Heap} {w w' : World} (x : Go.RowKit.Below w.heap.size w w') : Ev E h w E h w' := by
 refine ⟨x.size, fun b i => ⟨x.block b i.1, Nat.lt_of_lt_of_le i.1 x.size, i.2⟩, fun b i => ?_, fun _ hn => ⟨rfl, hn⟩, x.os, x.output⟩
 unfold World.shape?
 rw [x.block b i]
theorem rH {E : Env} {h : Heap} {w w' : World} (R : Rel E h w) (x : Go.RowKit.Below w.heap.size w w') : Rel E h w' :=
 have ev := p1 (E := E) (h := h) x
 ⟨R.fin, R.nC, fun n o b hn hx hb => Nat.lt_of_lt_of_le (R.lt n o b hn hx hb) ev.size, R.apart,
  fun n o hn => (R.obj n o hn).ev ev rfl rfl fun c hx hc => x.block c (R.lt n o c hn hx hc), R.laid.ev ev⟩
theorem kY {P : Program} {f : FuncId} {args : List aA} {r : aA} (hc : dG P f = true)
  (H : ∀ E h w vs, Rel E h w → aP E h w args vs → Calls P f vs.toArray w fun e w' => ∃ v, e = .returned v ∧ (∀ E' h' w', aZ E' h' w' r v) ∧ Go.RowKit.Below w.heap.size w w') : dV P f args r := fun h =>
 ⟨hc, fun E w vs R rl => (H E h w vs R rl).mono fun e w' q => by
  obtain ⟨v, rfl, hv, b⟩ := q
  exact ⟨r, h, E, ⟨rfl, rfl⟩, p1 b, rH R b, hv _ _ _⟩⟩
end Go.Hl

/-
  Contracts of functions and laws of the layer over the walk.
-/
import Derived.Test.YtpnelljgohjjdaaGreatHlC
namespace Go.Hl
set_option linter.unusedVariables false
set_option linter.unusedSimpArgs false
inductive OV where
 |v (x : aD)
 |nil (sz : Nat)
 |sl (n sz : Nat) (es : List (List OV))
def OV.val : OV → aD
 | .v x => x
 | .nil sz => .sl sz [] true
 | .sl n sz es => .os n sz 0 es.length
mutual
def OV.mK : OV → aD
 | .v x => x
 | .nil sz => .sl sz [] false
 | .sl n sz es => .sl sz (OV.cN es) false
def OV.cN : List (List OV) → List (List aD)
 | [] => []
 |e :: es => OV.aNI e :: OV.cN es
def OV.aNI : List OV → List aD
 | [] => []
 |x :: e => x.mK :: OV.aNI e
end
theorem OV.xW : ∀ (e : List OV), OV.aNI e = e.map OV.mK
 | [] => rfl
 |x :: e => by rw [OV.aNI, OV.xW e]; rfl
theorem OV.kA : ∀ (es : List (List OV)), OV.cN es = es.map (List.map OV.mK)
 | [] => rfl
 |e :: es => by rw [OV.cN, OV.kA es, OV.xW]; rfl
def OV.cells (es : List (List OV)) : List (List Cell) := es.map (List.map fun c => Cell.v c.val)
mutual
def OV.rows : OV → List (Nat × bM)
 | .v _ => []
 | .nil _ => []
 | .sl n sz es => (n, .row sz (OV.cells es)) :: OV.bP es
def OV.bP : List (List OV) → List (Nat × bM)
 | [] => []
 |e :: es => OV.bZ e ++ OV.bP es
def OV.bZ : List OV → List (Nat × bM)
 | [] => []
 |x :: e => x.rows ++ OV.bZ e
end
theorem OV.aD4 : ∀ {e : List OV} {x : OV} {p : Nat × bM}, x ∈ e → p ∈ x.rows → p ∈ OV.bZ e
 |y :: e, x, p, hx, hp => by
  rw [OV.bZ]
  rcases List.mem_cons.1 hx with rfl | hx
  ·exact List.mem_append_left _ hp
  ·exact List.mem_append_right _ (OV.aD4 hx hp)
def fJ (h : aB) (l : List (Nat × bM)) : Prop := ∀ p ∈ l, h p.1 = some p.2
def nC (h : aB) (S : List Nat) : aB := fun m => if m ∈ S then (h m).map fun _ => .gone else h m
theorem uH {h : aB} {S : List Nat} {m : Nat} {o : bM} (hm : m ∈ S) (ho : nC h S m = some o) : o = .gone := by
 simp only [nC, if_pos hm, Option.map_eq_some_iff] at ho
 obtain ⟨_, _, rfl⟩ := ho; rfl
theorem rA {h : aB} {S : List Nat} {m : Nat} (hm : m ∉ S) : nC h S m = h m := by simp only [nC, if_neg hm]
theorem uI {E : Env} {h : aB} {w : World} (S : List Nat) (b : Nat) (i : sD E h w b) : sD E (nC h S) w b :=
 ⟨i.1, fun m o hm ho => by
  by_cases e : m ∈ S
  ·rw [uH e hm] at ho; exact ho.elim
  ·rw [rA e] at hm; exact i.2 m o hm ho⟩
theorem aNJ {E : Env} {h : aB} {w : World} (R : Rel E h w) {S : List Nat} {n : Nat} (hS : n ∈ S) {x : bM} (hn : h n = some x) (hx : x.live) (b : Nat) (hb : E.fp n b) : sD E (nC h S) w b :=
 ⟨R.lt n x b hn hx hb, fun m o hm ho hf => by
  by_cases e : m ∈ S
  ·rw [uH e hm] at ho; exact ho.elim
  ·rw [rA e] at hm
   have := R.apart m o n x b hm ho hn hx hf hb
   exact e (this ▸ hS)⟩
theorem Rel.nC {E : Env} {h : aB} {w : World} (R : Rel E h w) (S : List Nat) : Rel E (nC h S) w := by
 refine ⟨R.fin, fun m hm => ?_, ?_, ?_, ?_, R.laid.vM (uI S)⟩
 ·by_cases e : m ∈ S
  ·refine R.dom m fun q => hm ?_
   simp only [Hl.nC, if_pos e, q, Option.map_none]
  ·rw [rA e] at hm; exact R.dom m hm
 ·intro m o b hm ho
  by_cases e : m ∈ S
  ·rw [uH e hm] at ho; exact ho.elim
  ·rw [rA e] at hm; exact R.lt m o b hm ho
 ·intro m o m' o' b hm ho hm' ho'
  by_cases e : m ∈ S
  ·rw [uH e hm] at ho; exact ho.elim
  ·by_cases e' : m' ∈ S
   ·rw [uH e' hm'] at ho'; exact ho'.elim
   ·rw [rA e] at hm; rw [rA e'] at hm'; exact R.apart m o m' o' b hm ho hm' ho'
 ·intro m o hm
  by_cases e : m ∈ S
  ·rw [uH e hm]; trivial
  ·rw [rA e] at hm; exact (R.obj m o hm).vM fun b => uI S b
theorem Ev.nC {E : Env} {h : aB} {w : World} (S : List Nat) : Ev E h w E (nC h S) w :=
 ⟨Nat.le_refl _, fun b hb => ⟨rfl, uI S b hb⟩, fun _ _ => rfl, fun _ hn => ⟨rfl, hn⟩, rfl, rfl⟩
mutual
theorem fL.aMA {E : Env} {h : aB} {w : World} (R : Rel E h w) {S : List Nat} : ∀ (x : OV), fJ h x.rows → (∀ p ∈ x.rows, p.1 ∈ S) → ∀ v, fL E h w x.val v → fL E (Hl.nC h S) w x.mK v
 | .v x, _, _, v, r => fL.vM (fun b => uI S b) r
 | .nil sz, _, _, v, r => Sub.loose sz [] true _ _ _ _ (fL.vM (fun b => uI S b) (show fL E h w (.sl sz [] true) v from r))
 | .sl n sz es, ho, hS, v, r => by
  have hn : h n = some (.row sz (OV.cells es)) := ho (n, _) (by rw [OV.rows]; exact List.mem_cons_self)
  have hnS : n ∈ S := hS (n, _) (by rw [OV.rows]; exact List.mem_cons_self)
  simp only [OV.val] at r
  simp only [OV.mK]
  have hcells : ∀ i j y, jH (OV.cells es) i j = some y → ∃ c, jH es i j = some c ∧ y = .v c.val := by
   intro i j y hy
   rw [OV.cells, s5] at hy
   obtain ⟨c, hc, rfl⟩ := Option.map_eq_some_iff.1 hy
   exact ⟨c, hc, rfl⟩
  have hdat : ∀ i j y, jH (OV.cN es) i j = some y → ∃ c, jH es i j = some c ∧ y = c.mK := by
   intro i j y hy
   rw [OV.kA, s5] at hy
   obtain ⟨c, hc, rfl⟩ := Option.map_eq_some_iff.1 hy
   exact ⟨c, hc, rfl⟩
  have hlen : (OV.cN es).length = es.length := by rw [OV.kA, List.length_map]
  have key : ∀ L, L = es.length → fL E h w (.os n sz 0 L) v → fL E (Hl.nC h S) w (.sl sz (OV.cN es) false) v := by
   intro L hL r
   cases r with
   |os0 _ _ hd hl =>
    have : es = [] := List.eq_nil_of_length_eq_zero hL.symm
    subst this
    exact .sl0 sz false none 0 (fun _ => rfl) (by simp [maxLen]) trivial
   |os _ _ _ _ b o cap t m hd hl hlc hmax hsh hm =>
    obtain ⟨b', o', hl', hbS, hs, cs, ct, cv, T, hh, hm', hT, hD, hc, hrr⟩ := zS R hn (.inr ⟨_, hl⟩)
    rw [hl] at hl'
    obtain ⟨rfl, rfl⟩ := Prod.mk.inj (Option.some.inj hl')
    have himm : ∀ c, E.fp n c → sD E (Hl.nC h S) w c := fun c hc => aNJ R hnS hn trivial c hc
    have hcs : ∀ i j y, jH (OV.cN es) i j = some y → ∃ c, jH es i j = some c ∧ y = c.mK ∧ cs[o + i * sz + j]? = some (cv i j) ∧ (cv i j).oneCell' = true ∧ fL E h w c.val (cv i j) := by
     intro i j y hy
     obtain ⟨c, hc1, rfl⟩ := hdat i j y hy
     have hcell : jH (OV.cells es) i j = some (.v c.val) := by rw [OV.cells, s5, hc1]; rfl
     have h2 := hrr i j _ hcell
     cases h2 with
     |v x c' S' h1 hx => exact ⟨c, hc1, rfl, hc i j _ hcell, h1, hx⟩
    have := fL.sl (E := E) (h := Hl.nC h S) (w := w) sz (OV.cN es) false b (o + 0 * sz) cap cv (himm b hbS) (by rw [hlen, ← hL]; exact hlc) hmax (fun e => by simp at e)
     (fun e he => by
      rw [OV.kA, List.mem_map] at he
      obtain ⟨e', he', rfl⟩ := he
      have := hs (e'.map fun c => Cell.v c.val) (List.mem_map.2 ⟨e', he', rfl⟩)
      simpa using this)
     (fun i j y hy => by
      obtain ⟨c, _, _, h1, _, _⟩ := hcs i j y hy
      simp only [World.cell?, hh]
      rw [← h1]
      simp)
     (fun i j y hy => by obtain ⟨c, _, _, _, h1, _⟩ := hcs i j y hy; exact h1)
     (fun i j y hy => by
      obtain ⟨c, hc1, rfl, _, _, h1⟩ := hcs i j y hy
      obtain ⟨e, he, hj⟩ := m6 hc1
      exact aFY R es (fun p hp => ho p (by rw [OV.rows]; exact List.mem_cons_of_mem _ hp)) (fun p hp => hS p (by rw [OV.rows]; exact List.mem_cons_of_mem _ hp)) e (List.mem_of_getElem? he) c (List.mem_of_getElem? hj) _ h1)
    rw [hlen, ← hL] at this
    exact this
  exact key _ rfl r
theorem aFY {E : Env} {h : aB} {w : World} (R : Rel E h w) {S : List Nat} : ∀ (es : List (List OV)), fJ h (OV.bP es) → (∀ p ∈ OV.bP es, p.1 ∈ S) → ∀ e ∈ es, ∀ c ∈ e, ∀ v, fL E h w c.val v → fL E (Hl.nC h S) w c.mK v
 | [], _, _, e, he, _, _, _, _ => by simp at he
 |a :: es, ho, hS, e, he, c, hc, v, r => by
  rcases List.mem_cons.1 he with h1 | h1
  ·rw [h1] at hc
   exact aQ4 R a (fun p hp => ho p (by rw [OV.bP]; exact List.mem_append_left _ hp)) (fun p hp => hS p (by rw [OV.bP]; exact List.mem_append_left _ hp)) c hc v r
  ·exact aFY R es (fun p hp => ho p (by rw [OV.bP]; exact List.mem_append_right _ hp)) (fun p hp => hS p (by rw [OV.bP]; exact List.mem_append_right _ hp)) e h1 c hc v r
theorem aQ4 {E : Env} {h : aB} {w : World} (R : Rel E h w) {S : List Nat} : ∀ (e : List OV), fJ h (OV.bZ e) → (∀ p ∈ OV.bZ e, p.1 ∈ S) → ∀ c ∈ e, ∀ v, fL E h w c.val v → fL E (Hl.nC h S) w c.mK v
 | [], _, _, c, hc, _, _ => by simp at hc
 |a :: e, ho, hS, c, hc, v, r => by
  rcases List.mem_cons.1 hc with h1 | h1
  ·rw [h1] at r ⊢
   exact fL.aMA R a (fun p hp => ho p (by rw [OV.bZ]; exact List.mem_append_left _ hp)) (fun p hp => hS p (by rw [OV.bZ]; exact List.mem_append_left _ hp)) v r
  ·exact aQ4 R e (fun p hp => ho p (by rw [OV.bZ]; exact List.mem_append_right _ hp)) (fun p hp => hS p (by rw [OV.bZ]; exact List.mem_append_right _ hp)) c h1 v r
end
mutual
def aD.fN : aD → Bool
 | .any | .bool _ | .int _ _ | .str _ | .nN | .bC | .uM | .uN | .p5 => true
 | .os _ _ _ _ | .op _ _ _ _ | .mp _ => true
 | .sl _ es _ => es.isEmpty
 | .agg cs => aD.wK cs
 | .lR cs => aD.wK cs
 | _ => false
def aD.wK : List aD → Bool
 | [] => true
 |x :: xs => x.fN && aD.wK xs
end
theorem aD.aB7 : ∀ {l : List aD}, aD.wK l = true → ∀ (i : Nat) x, l[i]? = some x → x.fN = true
 |y :: l, h, 0, x, hx => by simp only [aD.wK, Bool.and_eq_true] at h; simp at hx; subst hx; exact h.1
 |y :: l, h, i + 1, x, hx => by simp only [aD.wK, Bool.and_eq_true] at h; exact aD.aB7 h.2 i x (by simpa using hx)
 | [], _, i, x, hx => by simp at hx
def Cell.fN : Cell → Bool
 | .v x => x.fN
 | .own _ _ => false
def bM.fN : bM → Bool
 | .row _ es => es.all fun e => e.all Cell.fN
 | .map _ _ _ => false
 | .gone => true
theorem fL.fN {E E' : Env} {h h' : aB} {w w' : World} (hl : ∀ n, E.used n → E'.loc n = E.loc n ∧ E'.used n) (hs : ∀ b, b < w.heap.size → w'.shape? b = w.shape? b) {x : aD} {v : Value} (r : fL E h w x v) (hx : x.fN = true) : fL E' h' w' x v := by
 induction r with
 |any v => exact .any v
 |bool b => exact .bool b
 |int k n => exact .int k n
 |str s hl => exact .str s hl
 |nN => exact .nN
 |bC => exact .bC
 |uM => exact .uM
 |uN => exact .uN
 |p5 => exact .p5
 |sl0 sz t a cap ht hmax ha => exact .sl0 sz t a cap ht hmax ha
 |sl sz es t b o cap cv hi hcap hmax ht hs' hc h1 hr ih =>
  simp only [aD.fN, List.isEmpty_iff] at hx
  subst hx
  exact .sl0 sz t _ cap (fun e => by have := ht e; simpa using this) hmax trivial
 |ip sz es i off b o cv hi hs' hc h1 hr ih => simp [aD.fN] at hx
 |os n sz i len b o cap t m hd hl' hlc hmax hsh hm => exact .os n sz i len b o cap t m (hl n hd).2 ((hl n hd).1.trans hl') hlc hmax ((hs b (aID hsh)).trans hsh) hm
 |os0 n sz hd hl' => exact .os0 n sz (hl n hd).2 ((hl n hd).1.trans hl')
 |op n sz i off b o hd hl' => exact .op n sz i off b o (hl n hd).2 ((hl n hd).1.trans hl')
 |agg cs vs hle hr ih => exact .agg cs vs hle fun i x v a b => ih i x v a b (aD.aB7 (by simpa only [aD.fN] using hx) i x a)
 |lR cs vs hle hr ih => exact .lR cs vs hle fun i x v a b => ih i x v a b (aD.aB7 (by simpa only [aD.fN] using hx) i x a)
 |fn f cs ds vs us hle hr hle' hr' ih ih' => simp [aD.fN] at hx
 |iface t x v hr ih => simp [aD.fN] at hx
 |mp n b o hd hl' => exact .mp n b o (hl n hd).2 ((hl n hd).1.trans hl')
theorem aDO.fN {E E' : Env} {h h' : aB} {w w' : World} (hl : ∀ n, E.used n → E'.loc n = E.loc n ∧ E'.used n) (hs : ∀ b, b < w.heap.size → w'.shape? b = w.shape? b) {n : Nat} {o : bM} (hn : E'.loc n = E.loc n) (hfp : E'.fp n = E.fp n)
  (hm : ∀ b, E.fp n b → w'.heap[b]? = w.heap[b]?) (ho : o.fN = true) (r : aDO E h w n o) : aDO E' h' w' n o := by
 cases o with
 |gone => trivial
 |map _ _ _ => simp [bM.fN] at ho
 |row sz es =>
  rcases r with ⟨b, o', h1, h2⟩ | ⟨h1, h2⟩
  ·refine .inl ⟨b, o', hn.trans h1, ?_⟩
   obtain ⟨hb, hsz, cs, t, cv, T, hh, hle, hT, hD, hc, hr⟩ := h2
   rw [hfp]
   refine ⟨hb, hsz, cs, t, cv, T, (hm b hb).trans hh, hle, hT, hD, hc, fun i j x hx => ?_⟩
   have hsx : x.fN = true := by
    obtain ⟨e, he, hj⟩ := m6 hx
    have h3 := List.all_eq_true.1 ho e (List.mem_of_getElem? he)
    exact List.all_eq_true.1 h3 x (List.mem_of_getElem? hj)
   have hx' := hr i j x hx
   cases x with
   |own _ _ => simp [Cell.fN] at hsx
   |v y =>
    generalize cv i j = cc at hx'
    cases hx' with
    |v _ _ _ h1' hy => exact .v y _ _ h1' (hy.fN hl hs hsx)
  ·exact .inr ⟨h1, hn.trans h2⟩
def OR {α : Type} (R : α → List OV → Prop) : List α → List (List OV) → Prop
 | [], [] => True
 |x :: l, e :: es => R x e ∧ OR R l es
 | _, _ => False
def OS {α : Type} (R : α → List OV → Prop) (sz : Nat) (l : List α) (y : OV) : Prop := (y = .nil sz ∧ l = []) ∨ ∃ n es, y = .sl n sz es ∧ OR R l es
def oP {α : Type} (c : α → aD) (x : α) (e : List OV) : Prop := e = [.v (c x)]
theorem OR.length {α : Type} {R : α → List OV → Prop} : ∀ {l : List α} {es : List (List OV)}, OR R l es → l.length = es.length
 | [], [], _ => rfl
 |x :: l, e :: es, h => by simpa using OR.length h.2
 | [], _ :: _, h => h.elim
 | _ :: _, [], h => h.elim
theorem OR.get {α : Type} {R : α → List OV → Prop} : ∀ {l : List α} {es : List (List OV)}, OR R l es → ∀ (i : Nat) x e, l[i]? = some x → es[i]? = some e → R x e
 |x :: l, e :: es, h, 0, y, d, hy, hd => by simp at hy hd; subst hy; subst hd; exact h.1
 |x :: l, e :: es, h, i + 1, y, d, hy, hd => OR.get h.2 i y d (by simpa using hy) (by simpa using hd)
 | [], [], _, i, y, d, hy, _ => by simp at hy
 | [], _ :: _, h, _, _, _, _, _ => h.elim
 | _ :: _, [], h, _, _, _, _, _ => h.elim
theorem OR.append {α : Type} {R : α → List OV → Prop} : ∀ {l l' : List α} {es es' : List (List OV)}, OR R l es → OR R l' es' → OR R (l ++ l') (es ++ es')
 | [], _, [], _, _, h => h
 |x :: l, _, e :: es, _, a, h => ⟨a.1, OR.append a.2 h⟩
 | [], _, _ :: _, _, a, _ => a.elim
 | _ :: _, _, [], _, a, _ => a.elim
theorem OR.mK {α : Type} {R : α → List OV → Prop} {c : α → List aD} (hR : ∀ x e, R x e → e.map OV.mK = c x) : ∀ {l : List α} {es : List (List OV)}, OR R l es → OV.cN es = l.map c
 | [], [], _ => rfl
 |x :: l, e :: es, h => by rw [OV.cN, OR.mK hR h.2, OV.xW, hR x e h.1]; rfl
 | [], _ :: _, h => h.elim
 | _ :: _, [], h => h.elim
theorem OS.mK {α : Type} {R : α → List OV → Prop} {c : α → List aD} {sz : Nat} {l : List α} {y : OV} (hR : ∀ x e, R x e → e.map OV.mK = c x) (h : OS R sz l y) : y.mK = .sl sz (l.map c) false := by
 rcases h with ⟨rfl, rfl⟩ | ⟨n, es, rfl, h⟩
 ·rfl
 ·simp only [OV.mK, OR.mK hR h]
def bR (l : List (Nat × bM)) : List Nat := l.map (·.1)
def bB9 (S : List Nat) (h h' : aB) : Prop := ∀ m, m ∉ S → h' m = h m
open Go.ChangeShapes Go.WideShapes
set_option linter.unusedVariables false
set_option linter.unusedSimpArgs false
theorem aNK {H : Type} {enc : TypeId × Value → H} {C : Checked} {os : Os} {f : FuncId} {fn : Func} {s : ChangeSpec}
  (own : ownKnob C.prog.godebug = none) (started : os.Started) (noInit : C.prog.inits.idxOf? f = none) (hfn : C.prog.funcs[f]? = some fn)
  (witness : ∃ (w : World) (tape : Tape) (i : Input), w.os = os ∧ (w.forCall tape i).Shaped C.prog ∧ i.vars = [] ∧ Input.okWide C.prog (w.forCall tape i) .any w.heap.size f i ∧
   s.pre6 enc C.prog fn [] false (w.forCall tape i).memory i.args ∧ ({} : Assume).holds C.prog (lone (Frame.enter C.prog f i.args .normal) [] (w.forCall tape i)))
  (lo : laidOutB C.prog = true) (mr : mapsRowed C.prog = true)
  (hz : ((List.range C.prog.types.size).all fun t => match C.prog.underlying t with | some (.slice e) => decide (0 < C.prog.cellsOf e) | _ => true) = true)
  (T : List TypeId) (hT : aYG C.prog T = true) (hp : fn.params.all (fun t => decide (t < C.prog.types.size) && T.contains t) = true)
  (hsv : s.vars = []) (hs : ∀ ds : List (DataW H), ds.length = fn.params.size → s.fn H ds = { results := [.lit (.bool true)], args := ds })
  {tb : TypeId} (hr : fn.resultTypes = #[tb]) (htb : C.prog.underlying tb = some .bool)
  (hc : ∀ xs, aQ1 C.prog fn.params.toList xs → fO C.prog f xs sR fun r _ => r = .bool true) (hl0 : aIC = [] := by rfl) :
  ReturnsInHanded {} C os f .any (s.pre6 enc C.prog fn [] false) (s.post enc C.prog fn false true false false) := by
 refine returnsInHanded_of_change own started noInit hfn witness ?_
 intro W base args ds gs before hval hW _ _
 have hW0 := hW
 obtain ⟨p, q, hA, hV, _, _, _⟩ := hW
 have hp' := Array.all_eq_true_iff_forall_mem.1 hp
 simp only [Bool.and_eq_true, decide_eq_true_eq] at hp'
 have hbase : ∀ (j : Nat) t v, fn.params.toList[j]? = some t → args.toList[j]? = some v → Value.okWide C.prog W .any base t v := fun j t v h1 h2 => hval j t v (by simpa using h1) (by simpa using h2)
 obtain ⟨xs, h1, h2, h3⟩ := aL9 hT (E := aQ2) (h := sR) (fun b hb => aQ3 hb) (fun t ht => by have := (hp' t (by simpa using ht)).2; simpa using this) hbase hA
 refine Calls.mono (by simpa using (hc xs h1).2 aQ2 W args.toList (a0A W fun p hp => by rw [hl0] at hp; cases hp) h2) fun e W' he => ?_
 cases e with
 |returned v =>
  obtain ⟨r, h', E', rfl, ev, _, rep⟩ := he
  cases rep
  exact ⟨_, rfl, aZ9 lo mr hz (by rw [Array.all_eq_true_iff_forall_mem]; intro t ht; simpa using (hp' t ht).1) hsv hs hr htb hW0 (by simpa using h3) (fun b hb => (ev.keep b (aQ3 hb)).1) ev.os ev.out⟩
 | _ => exact he.elim
def uX {α : Type} (s : α → Nat) (l : List α) : Nat := l.length + (l.map s).sum
theorem eN {α : Type} (s : α → Nat) (l : List α) : uX s l = l.length + (l.map s).sum := rfl
set_option linter.unusedVariables false
set_option linter.unusedSimpArgs false
theorem OV.jL : ∀ (a b : List OV), OV.bZ (a ++ b) = OV.bZ a ++ OV.bZ b
 | [], b => rfl
 |x :: a, b => by rw [List.cons_append, OV.bZ, OV.jL a b, OV.bZ, List.append_assoc]
theorem OV.tS : ∀ (a b : List (List OV)), OV.bP (a ++ b) = OV.bP a ++ OV.bP b
 | [], b => rfl
 |x :: a, b => by rw [List.cons_append, OV.bP, OV.tS a b, OV.bP, List.append_assoc]
theorem dW (a b : List (Nat × bM)) : bR (a ++ b) = bR a ++ bR b := List.map_append
theorem dH {l : List (Nat × bM)} {m : Nat} : m ∈ bR l ↔ ∃ o, (m, o) ∈ l := by
 simp [bR]
structure eM (h : aB) (l : List (Nat × bM)) (h' : aB) : Prop where
 nodup : (bR l).Nodup
 fresh : ∀ m ∈ bR l, h m = none
 fI : fJ h' l
 upto : bB9 (bR l) h h'
theorem eM.nil (h : aB) : eM h [] h := ⟨List.nodup_nil, by simp [bR], by simp [fJ], fun m _ => rfl⟩
theorem eM.one {h : aB} {n : Nat} {o : bM} (hn : h n = none) : eM h [(n, o)] (bK h n o) :=
 ⟨by simp [bR], by simpa [bR] using hn, by simp [fJ], fun m hm => aC _ _ _ _ (by simpa [bR] using hm)⟩
theorem eM.append {h h1 h2 : aB} {a b : List (Nat × bM)} (x : eM h a h1) (y : eM h1 b h2) : eM h (a ++ b) h2 := by
 have dis : ∀ m ∈ bR a, m ∉ bR b := fun m hm hb => by
  obtain ⟨o, ho⟩ := dH.1 hm
  have := y.fresh m hb
  rw [x.fI _ ho] at this; cases this
 refine ⟨?_, ?_, ?_, ?_⟩
 ·rw [dW]
  exact List.nodup_append.2 ⟨x.nodup, y.nodup, fun p hp q hq e => dis p hp (e ▸ hq)⟩
 ·intro m hm
  rw [dW, List.mem_append] at hm
  by_cases hb : m ∈ bR a
  ·exact x.fresh m hb
  ·rcases hm with hm | hm
   ·exact absurd hm hb
   ·rw [← x.upto m hb]; exact y.fresh m hm
 ·intro p hp
  rcases List.mem_append.1 hp with hp | hp
  ·have : p.1 ∈ bR a := dH.2 ⟨p.2, hp⟩
   rw [y.upto p.1 (dis _ this)]; exact x.fI p hp
  ·exact y.fI p hp
 ·intro m hm
  rw [dW, List.mem_append] at hm
  rw [y.upto m fun q => hm (.inr q), x.upto m fun q => hm (.inl q)]
theorem eM.perm {h h' : aB} {a b : List (Nat × bM)} (x : eM h a h') (p : a.Perm b) : eM h b h' :=
 ⟨(p.map _).nodup_iff.1 x.nodup, fun m hm => x.fresh m (((p.map (·.1)).mem_iff).2 hm), fun q hq => x.fI q (p.mem_iff.2 hq), fun m hm => x.upto m fun q => hm (((p.map (·.1)).mem_iff).1 q)⟩
theorem eM.set {h h' : aB} {n : Nat} {o o' : bM} {l : List (Nat × bM)} (x : eM h ((n, o) :: l) h') : eM h ((n, o') :: l) (bK h' n o') := by
 have hnd := x.nodup
 have hn : n ∉ bR l := by
  have : (bR ((n, o) :: l)).Nodup := hnd
  simp only [bR, List.map_cons, List.nodup_cons] at this
  exact this.1
 refine ⟨hnd, x.fresh, ?_, fun m hm => ?_⟩
 ·intro p hp
  rcases List.mem_cons.1 hp with rfl | hp
  ·exact aU _ _ _
  ·have : p.1 ≠ n := fun e => hn (e ▸ dH.2 ⟨p.2, hp⟩)
   rw [aC _ _ _ _ this]; exact x.fI p (List.mem_cons_of_mem _ hp)
 ·have : m ≠ n := fun e => hm (by subst e; simp [bR])
  rw [aC _ _ _ _ this]; exact x.upto m hm
def lX (h : aB) (S : List Nat) : aB := fun m => if m ∈ S then none else h m
theorem aQ9 (h : aB) (S : List Nat) : (lX h S).le h := fun m => by
 by_cases e : m ∈ S
 ·exact .inl (if_pos e)
 ·exact .inr (if_neg e)
theorem eM.drop {h h' : aB} {a b : List (Nat × bM)} (x : eM h (a ++ b) h') : eM h b (lX h' (bR a)) := by
 have hnd := x.nodup
 rw [dW] at hnd
 obtain ⟨_, nb, dis⟩ := List.nodup_append.1 hnd
 refine ⟨nb, fun m hm => x.fresh m (by rw [dW]; exact List.mem_append_right _ hm), fun p hp => ?_, fun m hm => ?_⟩
 ·have : p.1 ∉ bR a := fun q => dis _ q _ (dH.2 ⟨p.2, hp⟩) rfl
  simp only [lX, if_neg this]
  exact x.fI p (List.mem_append_right _ hp)
 ·by_cases e : m ∈ bR a
  ·simp only [lX, if_pos e]
   exact (x.fresh m (by rw [dW]; exact List.mem_append_left _ e)).symm
  ·simp only [lX, if_neg e]
   exact x.upto m (by rw [dW]; simp [e, hm])
theorem a0U {P : Program} {f : FuncId} {args : List aD} {r : aD} {K : aD → aB → Prop} (h : aB) (a : fO P f args h K)
  (hk : ∀ r' h', K r' h' → ∃ l, eM h l h' ∧ ∀ E w v, Rel E h' w → fL E h' w r' v → fL E (nC h' (bR l)) w r v) : fO P f args h fun r' h' => r' = r ∧ h' = h :=
 ⟨a.1, fun E w vs R hv => Calls.mono (a.2 E w vs R hv) fun e w' he => by
  cases e <;> try exact he
  obtain ⟨r', h', E', k, ev, R', rx⟩ := he
  obtain ⟨l, nw, hr⟩ := hk r' h' k
  have hle : h.le (nC h' (bR l)) := fun m => by
   by_cases e : m ∈ bR l
   ·exact .inl (nw.fresh m e)
   ·rw [rA e, nw.upto m e]; exact .inr rfl
  refine ⟨r, h, E', ⟨rfl, rfl⟩, ev.trans ((Ev.nC _).forget hle), (R'.nC _).forget hle, ?_⟩
  refine fL.vM (fun b hb => sD.le hle hb) (hr E' w' _ R' rx)⟩
theorem eO.aMA {E : Env} {h : aB} {w : World} (R : Rel E h w) {S : List Nat} : ∀ (e : List OV) (vs : List Value), fJ h (OV.bZ e) → (∀ p ∈ OV.bZ e, p.1 ∈ S) → eO E h w (e.map OV.val) vs → eO E (nC h S) w (e.map OV.mK) vs
 | [], [], _, _, _ => trivial
 |x :: e, v :: vs, ho, hS, hr => ⟨fL.aMA R x (fun p hp => ho p (by rw [OV.bZ]; exact List.mem_append_left _ hp)) (fun p hp => hS p (by rw [OV.bZ]; exact List.mem_append_left _ hp)) v hr.1,
   eO.aMA R e vs (fun p hp => ho p (by rw [OV.bZ]; exact List.mem_append_right _ hp)) (fun p hp => hS p (by rw [OV.bZ]; exact List.mem_append_right _ hp)) hr.2⟩
 | [], _ :: _, _, _, hr => hr.elim
 | _ :: _, [], _, _, hr => hr.elim
theorem fL.aRA {E : Env} {h : aB} {w : World} (R : Rel E h w) {S : List Nat} (e : List OV) (v : Value) (ho : fJ h (OV.bZ e)) (hS : ∀ p ∈ OV.bZ e, p.1 ∈ S) (hr : fL E h w (.agg (e.map OV.val)) v) : fL E (nC h S) w (.agg (e.map OV.mK)) v := by
 cases hr with
 |agg _ vs hl hr =>
  have := eO.aMA R e vs ho hS (eO.mk hl hr)
  exact .agg _ vs this.length this.get
def oS {α : Type} (R : α → List OV → Prop) (sz : Nat) (l : List α) (e : List OV) : Prop := ∃ y, e = [y] ∧ OS R sz l y
theorem aAG {α : Type} {c : α → aD} {x : α} {e : List OV} (h : oP c x e) : e.map OV.mK = [c x] := by
 unfold oP at h; subst h; rfl
theorem bCH {α : Type} {R : α → List OV → Prop} {c : α → List aD} {sz : Nat} {l : List α} {e : List OV} (hR : ∀ x e, R x e → e.map OV.mK = c x) (h : oS R sz l e) : e.map OV.mK = [.sl sz (l.map c) false] := by
 obtain ⟨y, rfl, h⟩ := h
 simp only [List.map_cons, List.map_nil, OS.mK hR h]
set_option linter.unusedVariables false
set_option linter.unusedSimpArgs false
structure aFZ (h : aB) (T : List Nat) (l : List (Nat × bM)) (h' : aB) : Prop where
 nodup : (T ++ bR l).Nodup
 fresh : ∀ m ∈ T ++ bR l, h m = none
 there : ∀ m ∈ T, h' m ≠ none
 fI : fJ h' l
 upto : bB9 (T ++ bR l) h h'
theorem aFZ.bJD {h h' : aB} {l : List (Nat × bM)} (x : aFZ h [] l h') : eM h l h' := ⟨x.nodup, x.fresh, x.fI, x.upto⟩
theorem eM.toT {h h' : aB} {l : List (Nat × bM)} (x : eM h l h') : aFZ h [] l h' := ⟨x.nodup, x.fresh, by simp, x.fI, x.upto⟩
theorem aFZ.drop {h h' : aB} {T : List Nat} {l : List (Nat × bM)} (x : aFZ h T l h') : eM h l (lX h' T) := by
 obtain ⟨_, nb, dis⟩ := List.nodup_append.1 x.nodup
 refine ⟨nb, fun m hm => x.fresh m (List.mem_append_right _ hm), fun p hp => ?_, fun m hm => ?_⟩
 ·have : p.1 ∉ T := fun q => dis _ q _ (dH.2 ⟨p.2, hp⟩) rfl
  simp only [lX, if_neg this]
  exact x.fI p hp
 ·by_cases e : m ∈ T
  ·simp only [lX, if_pos e]
   exact (x.fresh m (List.mem_append_left _ e)).symm
  ·simp only [lX, if_neg e]
   exact x.upto m (by simp [e, hm])
theorem aFZ.some {h h' : aB} {T : List Nat} {l : List (Nat × bM)} (x : aFZ h T l h') {m : Nat} (hm : m ∈ T ++ bR l) : h' m ≠ none := by
 rcases List.mem_append.1 hm with hm | hm
 ·exact x.there m hm
 ·obtain ⟨o, ho⟩ := dH.1 hm
  rw [x.fI _ ho]; simp
theorem aFZ.row {h h' : aB} {T : List Nat} {l : List (Nat × bM)} (x : aFZ h T l h') {n : Nat} {o : bM} (hn : h' n = none) : aFZ h T ((n, o) :: l) (bK h' n o) := by
 have tV : n ∉ T ++ bR l := fun q => x.some q hn
 have nd := List.nodup_append.1 x.nodup
 refine ⟨List.nodup_append.2 ⟨nd.1, ?_, ?_⟩, ?_, ?_, fun p hp => ?_, fun m hm => ?_⟩
 ·show (n :: bR l).Nodup
  exact List.nodup_cons.2 ⟨fun q => tV (List.mem_append_right _ q), nd.2.1⟩
 ·intro a ha b hb e
  have hb' : b ∈ n :: bR l := hb
  rcases List.mem_cons.1 hb' with rfl | hb'
  ·exact tV (e ▸ List.mem_append_left _ ha)
  ·exact nd.2.2 a ha b hb' e
 ·intro m hm
  rcases List.mem_append.1 hm with hm | hm
  ·exact x.fresh m (List.mem_append_left _ hm)
  ·have hm' : m ∈ n :: bR l := hm
   rcases List.mem_cons.1 hm' with rfl | hm'
   ·rw [← x.upto m tV]; exact hn
   ·exact x.fresh m (List.mem_append_right _ hm')
 ·intro m hm
  have : m ≠ n := fun e => tV (e ▸ List.mem_append_left _ hm)
  rw [aC _ _ _ _ this]; exact x.there m hm
 ·rcases List.mem_cons.1 hp with rfl | hp
  ·exact aU _ _ _
  ·have : p.1 ≠ n := fun e => tV (e ▸ List.mem_append_right _ (dH.2 ⟨p.2, hp⟩))
   rw [aC _ _ _ _ this]; exact x.fI p hp
 ·have h1 : m ≠ n := fun e => hm (e ▸ List.mem_append_right _ (by simp [bR]))
  rw [aC _ _ _ _ h1]
  refine x.upto m fun q => hm ?_
  rcases List.mem_append.1 q with q | q
  ·exact List.mem_append_left _ q
  ·exact List.mem_append_right _ (List.mem_cons_of_mem _ q)
theorem eM.keep {h h' : aB} {l : List (Nat × bM)} (x : eM h l h') {n : Nat} {o : bM} (hn : h n = some o) : h' n = some o := by
 rw [x.upto n fun q => by rw [x.fresh n q] at hn; cases hn]; exact hn
theorem aFZ.set {h h' : aB} {T : List Nat} {n : Nat} {o o' : bM} {l : List (Nat × bM)} (x : aFZ h T ((n, o) :: l) h') : aFZ h T ((n, o') :: l) (bK h' n o') := by
 have nd := List.nodup_append.1 x.nodup
 have nd2 : (n :: bR l).Nodup := nd.2.1
 refine ⟨x.nodup, x.fresh, fun m hm => ?_, fun p hp => ?_, fun m hm => ?_⟩
 ·by_cases e : m = n
  ·subst e; simp
  ·rw [aC _ _ _ _ e]; exact x.there m hm
 ·rcases List.mem_cons.1 hp with rfl | hp
  ·exact aU _ _ _
  ·have : p.1 ≠ n := fun e => (List.nodup_cons.1 nd2).1 (e ▸ dH.2 ⟨p.2, hp⟩)
   rw [aC _ _ _ _ this]; exact x.fI p (List.mem_cons_of_mem _ hp)
 ·have h1 : m ≠ n := fun e => hm (e ▸ List.mem_append_right _ (by simp [bR]))
  rw [aC _ _ _ _ h1]; exact x.upto m hm
theorem uZ {α : Type} {c : α → aD} : ∀ (l : List α), OR (oP c) l (l.map fun x => [.v (c x)])
 | [] => trivial
 |x :: l => ⟨rfl, uZ l⟩
theorem rD {α : Type} (c : α → aD) (l : List α) : OV.cells (l.map fun x => [OV.v (c x)]) = (l.map fun x => [c x]).map (List.map .v) := by
 simp [OV.cells, OV.val]
theorem tC {α : Type} (c : α → aD) : ∀ (l : List α), OV.bP (l.map fun x => [OV.v (c x)]) = []
 | [] => rfl
 |x :: l => by rw [List.map_cons, OV.bP, tC c l]; rfl
theorem OV.aS (x : aD) : (OV.v x).val = x := rfl
theorem OS.flat {α : Type} {R : α → List OV → Prop} {sz : Nat} {l : List α} {y : OV} (h : OS R sz l y) : y.val.flat = true := by
 rcases h with ⟨rfl, _⟩ | ⟨n, es, rfl, _⟩ <;> rfl
theorem OS.one {α : Type} {R : α → List OV → Prop} {sz : Nat} {l : List α} {y : OV} (h : OS R sz l y) : y.val.cells = [y.val] := by
 rcases h with ⟨rfl, _⟩ | ⟨n, es, rfl, _⟩ <;> rfl
theorem aYI {es : List (List OV)} (e : List OV) {z : List Cell} {k m : Nat} (hk : es.length = k) (hm : 0 < m) :
  (OV.cells es ++ List.replicate m z).set k (e.map fun c => Cell.v c.val) = OV.cells (es ++ [e]) ++ List.replicate (m - 1) z := by
 obtain ⟨m, rfl⟩ : ∃ j, m = j + 1 := ⟨m - 1, by omega⟩
 have hl : (OV.cells es).length = k := by simp [OV.cells, hk]
 rw [List.set_append_right _ _ (by omega), hl, Nat.sub_self, List.replicate_succ, List.set_cons_zero]
 simp [OV.cells]
theorem pR (es : List (List OV)) (e : List OV) : OV.bP (es ++ [e]) = OV.bP es ++ OV.bZ e := by
 rw [OV.tS]; simp only [OV.bP, List.append_nil]
set_option linter.unusedVariables false
set_option linter.unusedSimpArgs false
def pN (P : Program) (f : FuncId) (args : List aD) (Q : aD → List (Nat × bM) → Prop) : Prop := ∀ h : aB, fO P f args h fun r h' => ∃ l, Q r l ∧ eM h l h'
theorem eM.under {g h' : aB} {n : Nat} {o : bM} {l : List (Nat × bM)} (hg : g n = none) (x : eM (bK g n o) l h') : ∃ g', h' = bK g' n o ∧ eM g l g' ∧ g' n = none := by
 have hn : n ∉ bR l := fun q => by have := x.fresh n q; simp at this
 have hk : h' n = some o := x.keep (aU _ _ _)
 refine ⟨lX h' [n], ?_, ⟨x.nodup, fun m hm => ?_, fun p hp => ?_, fun m hm => ?_⟩, by simp [lX]⟩
 ·funext m
  by_cases e : m = n
  ·subst e; rw [aU, hk]
  ·rw [aC _ _ _ _ e]; simp [lX, e]
 ·have e : m ≠ n := fun e => hn (e ▸ hm)
  have := x.fresh m hm
  rwa [aC _ _ _ _ e] at this
 ·have e : p.1 ≠ n := fun e => hn (e ▸ dH.2 ⟨p.2, hp⟩)
  have : lX h' [n] p.1 = h' p.1 := by simp [lX, e]
  rw [this]; exact x.fI p hp
 ·by_cases e : m = n
  ·subst e; rw [hg]; simp [lX]
  ·have : lX h' [n] m = h' m := by simp [lX, e]
   rw [this, x.upto m hm, aC _ _ _ _ e]
theorem eM.bCI {g h' : aB} {n m : Nat} {x y : bM} {l : List (Nat × bM)} (hn : g n = none) (hm : bK g n x m = none) (q : eM (bK (bK g n x) m y) l h') : ∃ g', h' = bK (bK g' n x) m y ∧ eM g l g' ∧ g' n = none ∧ bK g' n x m = none := by
 obtain ⟨g1, rfl, q1, h1⟩ := q.under hm
 obtain ⟨g2, rfl, q2, h2⟩ := q1.under hn
 exact ⟨g2, rfl, q2, h2, h1⟩
section
variable {P : Program} {f : FuncId} {args : List aD} {Q : aD → List (Nat × bM) → Prop} {K : aD → aB → Prop} {t : Tag K}
theorem aJ.nw1 {g : aB} {n : Nat} {x : bM} (a : pN P f args Q) (hn : g n = none) (k : ∀ r l g', Q r l → eM g l g' → g' n = none → K r (bK g' n x)) : aJ P f args (bK g n x) K t :=
 aJ.iF (a _) fun r h' ⟨l, q, hq⟩ => by obtain ⟨g', rfl, q2, h1⟩ := hq.under hn; exact k r l g' q q2 h1
theorem aJ.nw2 {g : aB} {n m : Nat} {x y : bM} (a : pN P f args Q) (hn : g n = none) (hm : m ≠ n ∧ g m = none) (k : ∀ r l g', Q r l → eM g l g' → g' n = none → g' m = none → K r (bK (bK g' n x) m y)) : aJ P f args (bK (bK g n x) m y) K t :=
 aJ.iF (a _) fun r h' ⟨l, q, hq⟩ => by
  obtain ⟨g', rfl, q2, h1, h2⟩ := hq.bCI hn (bU.2 hm)
  exact k r l g' q q2 h1 (bU.1 h2).2
end
theorem sV {P : Program} {f : FuncId} {fn : Func} {c : Code} (N : Nat) (keep ib : List Nat) (mk : Marks) {args : List aD} {Q : aD → List (Nat × bM) → Prop} (hmix : P.follows .mixedOrders = true) (hf : P.funcs[f]? = some fn) (hb : fn.body = some c)
  (hck : (nA P f && decide (fn.ntmps = N) && j3 N mk c) = true) (hl : args.length ≤ N)
  (hw : ∀ h, tA P N keep ib mk c (fun τ h' => uW P fn.results (fun r h' => ∃ r1 g l, Shift r h' r1 g ∧ Q r1 l ∧ eM h l g) () .normal τ h') (uW P fn.results (fun r h' => ∃ r1 g l, Shift r h' r1 g ∧ Q r1 l ∧ eM h l g) ()) (uT 0 args) h ()) : pN P f args Q := by
 intro h
 have h1 : fO P f args h (fun r h' => ∃ r1 g l, Shift r h' r1 g ∧ Q r1 l ∧ eM h l g) :=
  fO.mono (wJ (K := fun r h' => ∃ r1 g l, Shift r h' r1 g ∧ Q r1 l ∧ eM h l g) N keep ib mk hmix hf hb hck hl (by
   have := hw h
   refine Eq.mp ?_ this
   have e : (fun r h' => ∃ r1 g l, Shift r h' r1 g ∧ Q r1 l ∧ eM h l g) = (fun r h' => ∃ g' : aB, g'.le h' ∧ ∃ r1 g l, Shift r g' r1 g ∧ Q r1 l ∧ eM h l g) := by
    funext r h'
    refine propext ⟨fun ⟨r1, g, l, s, q⟩ => ⟨h', aB.le_refl _, r1, g, l, s, q⟩, fun ⟨g', hl, r1, g, l, s, q⟩ => ⟨r1, g, l, (Shift.of (Sub.refl _) hl).trans s, q⟩⟩
   rw [e])) fun r h' q => q
 exact uV (fn := fn) (c := c) (N := N) h1 fun r h' ⟨r1, g, l, s, q, n⟩ => ⟨r1, g, s, l, q, n⟩
theorem pN.gC {P : Program} {f : FuncId} {args : List aD} {Q : aD → List (Nat × bM) → Prop} {r : aD} (a : pN P f args Q)
  (hk : ∀ r' l, Q r' l → ∀ E w v h', fJ h' l → Rel E h' w → fL E h' w r' v → fL E (nC h' (bR l)) w r v) : e8 P f args r := fun h =>
 a0U h (a h) fun r' h' ⟨l, q, hn⟩ => ⟨l, hn, fun E w v R rx => hk r' l q E w v h' hn.fI R rx⟩
theorem pN.sub {P : Program} {f : FuncId} {xs ys : List aD} {Q : aD → List (Nat × bM) → Prop} (s : cD xs ys) (a : pN P f ys Q) : pN P f xs Q := fun h => fO.sub s (a h)
def sI (h : aB) : aB := fun m => (h m).map fun _ => .gone
theorem xX {h : aB} {m : Nat} {o : bM} (ho : sI h m = some o) : o = .gone := by
 simp only [sI, Option.map_eq_some_iff] at ho
 obtain ⟨_, _, rfl⟩ := ho; rfl
theorem wZ {E : Env} {h : aB} {w : World} {b : Nat} (hb : b < w.heap.size) : sD E (sI h) w b := ⟨hb, fun m o hm ho => by rw [xX hm] at ho; exact ho.elim⟩
theorem Rel.sI {E : Env} {h : aB} {w : World} (R : Rel E h w) : Rel E (sI h) w := by
 refine ⟨R.fin, fun m hm => R.dom m fun q => hm (by simp [Hl.sI, q]), ?_, ?_, ?_, R.laid.vM fun b hb => wZ hb.1⟩
 ·intro m o b hm ho; rw [xX hm] at ho; exact ho.elim
 ·intro m o m' o' b hm ho; rw [xX hm] at ho; exact ho.elim
 ·intro m o hm; rw [xX hm]; trivial
theorem fO.a85 {P : Program} {f : FuncId} {args args' : List aD} {h : aB} {K : aD → aB → Prop} {K' : aD → List (Nat × bM) → Prop}
  (hview : ∀ E w vs, Rel E h w → eO E h w args vs → eO E (sI h) w args' vs) (a : fO P f args' (sI h) K)
  (hK : ∀ r h', K r h' → ∃ l, K' r l ∧ eM (sI h) l h' ∧ r.fN = true ∧ ∀ p ∈ l, p.2.fN = true) :
  fO P f args h fun r h' => ∃ l, K' r l ∧ eM h l h' := by
 refine ⟨a.1, fun E w vs R hv => Calls.mono (a.2 E w vs R.sI (hview E w vs R hv)) fun e w' he => ?_⟩
 cases e <;> try exact he
 obtain ⟨r, h', E', k, ev, R', rx⟩ := he
 obtain ⟨l, k', nw, hr, hsol⟩ := hK r h' k
 have hnew : ∀ m ∈ bR l, h m = none := fun m hm => by
  have := nw.fresh m hm
  simpa [sI] using this
 let h2 : aB := fun m => if m ∈ bR l then h' m else h m
 have e1 : ∀ m, m ∈ bR l → h2 m = h' m := fun m hm => if_pos hm
 have e2 : ∀ m, m ∉ bR l → h2 m = h m := fun m hm => if_neg hm
 let E2 : Env := { loc := E'.loc, fp := fun n => if n ∈ bR l then E'.fp n else E.fp n, used := E'.used }
 have f1 : ∀ m, m ∈ bR l → E2.fp m = E'.fp m := fun m hm => if_pos hm
 have f2 : ∀ m, m ∉ bR l → E2.fp m = E.fp m := fun m hm => if_neg hm
 have a0V : ∀ b, b < w.heap.size → sD E (sI h) w b := fun b hb => wZ hb
 have solL : ∀ m o, m ∈ bR l → h' m = some o → o.fN = true := fun m o hm ho => by
  obtain ⟨o', ho'⟩ := dH.1 hm
  have := nw.fI _ ho'
  rw [ho] at this
  obtain rfl := Option.some.inj this
  exact hsol _ ho'
 have evA : Ev E h w E2 h2 w' := by
  refine ⟨ev.size, fun b hb => ?_, ev.shape, ev.loc, ev.os, ev.out⟩
  have h1 := ev.keep b (a0V b hb.1)
  refine ⟨h1.1, h1.2.1, fun m o hm ho hf => ?_⟩
  by_cases e : m ∈ bR l
  ·rw [e1 m e] at hm; rw [f1 m e] at hf; exact h1.2.2 m o hm ho hf
  ·rw [e2 m e] at hm; rw [f2 m e] at hf; exact hb.2 m o hm ho hf
 have R2 : Rel E2 h2 w' := by
  refine ⟨R'.fin, fun m hm => ?_, ?_, ?_, ?_, R.laid.ev evA⟩
  ·by_cases e : m ∈ bR l
   ·rw [e1 m e] at hm; exact R'.dom m hm
   ·rw [e2 m e] at hm; exact (ev.loc m (R.dom m hm)).2
  ·intro m o b hm ho hf
   by_cases e : m ∈ bR l
   ·rw [e1 m e] at hm; rw [f1 m e] at hf; exact R'.lt m o b hm ho hf
   ·rw [e2 m e] at hm; rw [f2 m e] at hf; exact Nat.lt_of_lt_of_le (R.lt m o b hm ho hf) ev.size
  ·intro m o m' o' b hm ho hm' ho' hf hf'
   by_cases e : m ∈ bR l
   ·rw [e1 m e] at hm; rw [f1 m e] at hf
    by_cases e' : m' ∈ bR l
    ·rw [e1 m' e'] at hm'; rw [f1 m' e'] at hf'; exact R'.apart m o m' o' b hm ho hm' ho' hf hf'
    ·rw [e2 m' e'] at hm'; rw [f2 m' e'] at hf'
     exact absurd hf ((ev.keep b (a0V b (R.lt m' o' b hm' ho' hf'))).2.2 m o hm ho)
   ·rw [e2 m e] at hm; rw [f2 m e] at hf
    by_cases e' : m' ∈ bR l
    ·rw [e1 m' e'] at hm'; rw [f1 m' e'] at hf'
     exact absurd hf' ((ev.keep b (a0V b (R.lt m o b hm ho hf))).2.2 m' o' hm' ho')
    ·rw [e2 m' e'] at hm'; rw [f2 m' e'] at hf'; exact R.apart m o m' o' b hm ho hm' ho' hf hf'
  ·intro m o hm
   by_cases e : m ∈ bR l
   ·rw [e1 m e] at hm
    exact aDO.fN (E := E') (E' := E2) (fun n hn => ⟨rfl, hn⟩) (fun _ _ => rfl) rfl (f1 m e) (fun _ _ => rfl) (solL m o e hm) (R'.obj m o hm)
   ·rw [e2 m e] at hm
    cases o with
    |gone => trivial
    |row sz es => exact (R.obj m _ hm).ev evA (ev.loc m (R.dom m (by simp [hm]))).1 (f2 m e) fun b _ hb => (ev.keep b (a0V b (R.lt m _ b hm trivial hb))).1
    |map kt et l' => exact (R.obj m _ hm).ev evA (ev.loc m (R.dom m (by simp [hm]))).1 (f2 m e) fun b _ hb => (ev.keep b (a0V b (R.lt m _ b hm trivial hb))).1
 refine ⟨r, h2, E2, ⟨l, k', ⟨nw.nodup, hnew, fun p hp => ?_, fun m hm => e2 m hm⟩⟩, evA, R2, fL.fN (E := E') (E' := E2) (fun n hn => ⟨rfl, hn⟩) (fun _ _ => rfl) rx hr⟩
 rw [e1 p.1 (dH.2 ⟨p.2, hp⟩)]; exact nw.fI p hp
def View (h : aB) (x x' : aD) : Prop := ∀ E w v, Rel E h w → fL E h w x v → fL E (sI h) w x' v
def hH (h : aB) : List aD → List aD → Prop
 | [], [] => True
 |x :: xs, y :: ys => View h x y ∧ hH h xs ys
 | _, _ => False
theorem bCJ {E : Env} {h : aB} {w : World} {b : Nat} (i : sD E h w b) : sD E (sI h) w b := wZ i.1
theorem View.same (h : aB) (x : aD) : View h x x := fun E w v R r => r.vM fun b i => bCJ i
theorem View.sub {h : aB} {x y z : aD} (a : View h x y) (s : Sub y z) : View h x z := fun E w v R r => s _ _ _ _ (a E w v R r)
theorem aB8 {E : Env} {h : aB} {w : World} {S : List Nat} : ∀ b, sD E (Hl.nC h S) w b → sD E (sI h) w b := fun b i => wZ i.1
theorem View.ov {h : aB} (y : OV) (ho : fJ h y.rows) : View h y.val y.mK := fun E w v R r =>
 (fL.aMA R (S := bR y.rows) y ho (fun p hp => dH.2 ⟨p.2, hp⟩) v r).vM aB8
theorem View.agg {h : aB} (e : List OV) (ho : fJ h (OV.bZ e)) : View h (.agg (e.map OV.val)) (.agg (e.map OV.mK)) := fun E w v R r =>
 (fL.aRA R (S := bR (OV.bZ e)) e v ho (fun p hp => dH.2 ⟨p.2, hp⟩) r).vM aB8
theorem View.op {h : aB} {n sz i off : Nat} (es : List (List OV)) (hn : h n = some (.row sz (OV.cells es))) (hne : es ≠ []) (ho : fJ h (OV.bP es)) : View h (.op n sz i off) (.ip sz (OV.cN es) i off) := by
 intro E w v R r
 cases v <;> try (cases r; done)
 cases r with
 |op _ _ _ _ b o hd hl =>
  obtain ⟨b', o', hl', hbS, hs, cs, ct, cv, T, hh, hm', hT, hD, hc, hrr⟩ := zS R hn (.inr ⟨_, hl⟩)
  rw [hl] at hl'
  obtain ⟨rfl, rfl⟩ := Prod.mk.inj (Option.some.inj hl')
  have hcs : ∀ i j y, jH (OV.cN es) i j = some y → ∃ c, jH es i j = some c ∧ y = c.mK ∧ cs[o + i * sz + j]? = some (cv i j) ∧ (cv i j).oneCell' = true ∧ fL E h w c.val (cv i j) := by
   intro i j y hy
   rw [OV.kA, s5] at hy
   obtain ⟨c, hc1, rfl⟩ := Option.map_eq_some_iff.1 hy
   have hcell : jH (OV.cells es) i j = some (.v c.val) := by rw [OV.cells, s5, hc1]; rfl
   have h2 := hrr i j _ hcell
   generalize hcv : cv i j = z at h2
   cases h2 with
   |v x c' S' h1 hx => exact ⟨c, hc1, rfl, hcv ▸ hc i j _ hcell, h1, hx⟩
  refine .ip sz (OV.cN es) i off b o cv (wZ (R.lt n _ b hn trivial hbS)) ?_ ?_ ?_ ?_
  ·intro e he
   rw [OV.kA, List.mem_map] at he
   obtain ⟨e', he', rfl⟩ := he
   have := hs (e'.map fun c => Cell.v c.val) (List.mem_map.2 ⟨e', he', rfl⟩)
   simpa using this
  ·intro i j y hy
   obtain ⟨c, _, _, h1, _, _⟩ := hcs i j y hy
   simp only [World.cell?, hh]
   rw [← h1]
   simp
  ·intro i j y hy; obtain ⟨c, _, _, _, h1, _⟩ := hcs i j y hy; exact h1
  ·intro i j y hy
   obtain ⟨c, hc1, rfl, _, _, h1⟩ := hcs i j y hy
   obtain ⟨e, he, hj⟩ := m6 hc1
   exact (aFY R (S := bR (OV.bP es)) es ho (fun p hp => dH.2 ⟨p.2, hp⟩) e (List.mem_of_getElem? he) c (List.mem_of_getElem? hj) _ h1).vM aB8
theorem hH.aQX {h : aB} : ∀ {xs ys : List aD}, hH h xs ys → ∀ E w vs, Rel E h w → eO E h w xs vs → eO E (sI h) w ys vs
 | [], [], _, E, w, [], R, r => trivial
 |x :: xs, y :: ys, hv, E, w, v :: vs, R, r => ⟨hv.1 E w v R r.1, hH.aQX hv.2 E w vs R r.2⟩
 | [], [], _, E, w, _ :: _, R, r => r.elim
 |x :: xs, y :: ys, hv, E, w, [], R, r => r.elim
 | [], _ :: _, h, _, _, _, _, _ => h.elim
 | _ :: _, [], h, _, _, _, _, _ => h.elim
theorem hH.nil {h : aB} : hH h [] [] := trivial
theorem hH.cons {h : aB} {x y : aD} {xs ys : List aD} (a : View h x y) (b : hH h xs ys) : hH h (x :: xs) (y :: ys) := ⟨a, b⟩
def aTA (Q : aD → List (Nat × bM) → Prop) : Prop := ∀ r l, Q r l → r.fN = true ∧ ∀ p ∈ l, p.2.fN = true
theorem pN.bCK {P : Program} {f : FuncId} {args args' : List aD} {Q : aD → List (Nat × bM) → Prop} {h : aB} (a : pN P f args' Q) (hv : hH h args args') (hQ : aTA Q) : fO P f args h fun r h' => ∃ l, Q r l ∧ eM h l h' :=
 fO.a85 hv.aQX (a (sI h)) fun r h' ⟨l, q, n⟩ => ⟨l, q, n, (hQ r l q).1, (hQ r l q).2⟩
theorem e8.bCK {P : Program} {f : FuncId} {args args' : List aD} {r : aD} {h : aB} (a : e8 P f args' r) (hv : hH h args args') (hr : r.fN = true) : fO P f args h fun r' h' => r' = r ∧ h' = h :=
 (fO.a85 (K' := fun r' l => r' = r ∧ l = []) hv.aQX (a (sI h)) fun r' h' ⟨e, e'⟩ => by
  subst e; subst e'; exact ⟨[], ⟨rfl, rfl⟩, .nil _, hr, by simp⟩).mono fun r' h' ⟨l, ⟨e1, e2⟩, n⟩ => by
  subst e2
  exact ⟨e1, funext fun m => n.upto m (by simp [bR])⟩
section
variable {P : Program} {f : FuncId} {args args' : List aD} {Q : aD → List (Nat × bM) → Prop} {K : aD → aB → Prop} {t : Tag K} {g : aB}
theorem aJ.aG5 {r : aD} (a : e8 P f args' r) (hv : hH g args args') (hr : r.fN = true) (k : K r g) : aJ P f args g K t :=
 aJ.iF (a.bCK hv hr) fun r' h' ⟨e, e'⟩ => by subst e; subst e'; exact k
end
mutual
def OV.sol : OV → Bool
 | .v x => x.fN
 | .nil _ => true
 | .sl _ _ es => OV.uA es
def OV.uA : List (List OV) → Bool
 | [] => true
 |e :: es => OV.j4 e && OV.uA es
def OV.j4 : List OV → Bool
 | [] => true
 |x :: e => x.sol && OV.j4 e
end
theorem OV.aMB : ∀ {x : OV}, x.sol = true → x.val.fN = true
 | .v x, h => by simpa only [OV.sol, OV.val] using h
 | .nil _, _ => by simp [OV.val, aD.fN]
 | .sl _ _ _, _ => by simp [OV.val, aD.fN]
theorem OV.aJC : ∀ (e : List OV), OV.j4 e = e.all OV.sol
 | [] => rfl
 |x :: e => by rw [OV.j4, OV.aJC e]; rfl
theorem OV.aG6 : ∀ (es : List (List OV)), OV.uA es = es.all (fun e => e.all OV.sol)
 | [] => rfl
 |e :: es => by rw [OV.uA, OV.aG6 es, OV.aJC]; rfl
theorem OV.aJD : ∀ {e : List OV}, OV.j4 e = true → aD.wK (e.map OV.val) = true
 | [], _ => rfl
 |x :: e, h => by
  simp only [OV.j4, Bool.and_eq_true] at h
  simp only [List.map_cons, aD.wK, OV.aMB h.1, OV.aJD h.2, Bool.and_self]
theorem OV.aRB {sz : Nat} {es : List (List OV)} (h : OV.uA es = true) : (bM.row sz (OV.cells es)).fN = true := by
 rw [OV.aG6] at h
 simp only [bM.fN, OV.cells, List.all_map, List.all_eq_true, Function.comp_apply] at h ⊢
 intro e he c hc
 exact OV.aMB (h e he c hc)
mutual
theorem OV.aTC : ∀ {x : OV}, x.sol = true → ∀ p ∈ x.rows, p.2.fN = true
 | .v _, _ => by simp [OV.rows]
 | .nil _, _ => by simp [OV.rows]
 | .sl n sz es, h => fun p hp => by
  rw [OV.rows] at hp
  rcases List.mem_cons.1 hp with rfl | hp
  ·exact OV.aRB (by simpa only [OV.sol] using h)
  ·exact OV.aAH (by simpa only [OV.sol] using h) p hp
theorem OV.aAH : ∀ {es : List (List OV)}, OV.uA es = true → ∀ p ∈ OV.bP es, p.2.fN = true
 | [], _ => by simp [OV.bP]
 |e :: es, h => fun p hp => by
  simp only [OV.uA, Bool.and_eq_true] at h
  rw [OV.bP] at hp
  rcases List.mem_append.1 hp with hp | hp
  ·exact OV.wM h.1 p hp
  ·exact OV.aAH h.2 p hp
theorem OV.wM : ∀ {e : List OV}, OV.j4 e = true → ∀ p ∈ OV.bZ e, p.2.fN = true
 | [], _ => by simp [OV.bZ]
 |x :: e, h => fun p hp => by
  simp only [OV.j4, Bool.and_eq_true] at h
  rw [OV.bZ] at hp
  rcases List.mem_append.1 hp with hp | hp
  ·exact OV.aTC h.1 p hp
  ·exact OV.wM h.2 p hp
end
theorem aF0 {α : Type} {c : α → aD} (hc : ∀ x, (c x).fN = true) {x : α} {e : List OV} (h : oP c x e) : OV.j4 e = true := by
 unfold oP at h; subst h; simp [OV.j4, OV.sol, hc]
set_option linter.unusedVariables false
set_option linter.unusedSimpArgs false
def QS (R : OV → Prop) (w : aD → aD := fun x => x) : aD → List (Nat × bM) → Prop := fun r l => ∃ y, R y ∧ r = w y.val ∧ l = y.rows
def QA (R : List OV → Prop) (w : aD → aD := fun x => x) : aD → List (Nat × bM) → Prop := fun r l => ∃ e, R e ∧ r = w (.agg (e.map OV.val)) ∧ l = OV.bZ e
theorem eM.row {h h' : aB} {l : List (Nat × bM)} (x : eM h l h') {n : Nat} {o : bM} (hn : h' n = none) : eM h ((n, o) :: l) (bK h' n o) := (x.toT.row hn).bJD
theorem aYJ {l : List aD} : (aD.agg l).fN = aD.wK l := by simp only [aD.fN]
theorem QA.fN {R : List OV → Prop} {w : aD → aD} (hR : ∀ e, R e → OV.j4 e = true) (hw : ∀ x : aD, x.fN = true → (w x).fN = true) : aTA (QA R w) := fun r l ⟨y, hy, e1, e2⟩ => by
 subst e1 e2
 exact ⟨hw _ (by rw [aYJ]; exact OV.aJD (hR y hy)), OV.wM (hR y hy)⟩
theorem OS.nil {α : Type} {R : α → List OV → Prop} {sz : Nat} : OS R sz [] (.nil sz) := .inl ⟨rfl, rfl⟩
theorem OS.mk {α : Type} {R : α → List OV → Prop} {sz n : Nat} {l : List α} {es : List (List OV)} (h : OR R l es) : OS R sz l (.sl n sz es) := .inr ⟨n, es, rfl, h⟩
theorem OV.lY (sz : Nat) : (OV.nil sz).rows = [] := by rw [OV.rows]
theorem OV.c8 (x : aD) : (OV.v x).rows = [] := by rw [OV.rows]
theorem OV.eV (n sz : Nat) (es : List (List OV)) : (OV.sl n sz es).rows = (n, .row sz (OV.cells es)) :: OV.bP es := by rw [OV.rows]
theorem OV.cF : OV.bZ [] = [] := by rw [OV.bZ]
theorem OV.bL (x : OV) (e : List OV) : OV.bZ (x :: e) = x.rows ++ OV.bZ e := by rw [OV.bZ]
theorem OV.pZ (sz : Nat) : (OV.nil sz).val = .sl sz [] true := rfl
theorem OV.p9 (n sz : Nat) (es : List (List OV)) : (OV.sl n sz es).val = .os n sz 0 es.length := rfl
theorem OV.aE : List.map OV.val [] = [] := rfl
theorem OV.aO (x : OV) (e : List OV) : List.map OV.val (x :: e) = x.val :: e.map OV.val := rfl
theorem aD6 {es : List (List OV)} (e : List OV) {z : List aD} {k m : Nat} (hk : es.length = k) (hm : 0 < m) (c : List Cell) (hc : c = e.map fun c => Cell.v c.val) :
  ((OV.cells es ++ (List.replicate m z).map (List.map Cell.v)).set k c) = OV.cells (es ++ [e]) ++ (List.replicate (m - 1) z).map (List.map Cell.v) := by
 subst hc
 rw [List.map_replicate, List.map_replicate]
 exact aYI e hk hm
theorem aD7 {es : List (List OV)} {z : List aD} {k m : Nat} (hk : es.length = k) (hm : 0 < m) : (OV.cells es ++ (List.replicate m z).map (List.map Cell.v))[k]? = some (z.map .v) := by
 rw [List.getElem?_append_right (by simp [OV.cells, hk])]
 simp only [OV.cells, List.length_map, hk, Nat.sub_self, List.map_replicate]
 obtain ⟨m, rfl⟩ : ∃ j, m = j + 1 := ⟨m - 1, by omega⟩
 rfl
theorem iY {g h : aB} {n : Nat} {o : bM} (hn : g n = none) (hl : g.le h) : g.le (bK h n o) := (bD hn).2 hl
set_option linter.unusedVariables false
set_option linter.unusedSimpArgs false
def wN (n : Nat) : List UInt8 := if h : n = 0 then [] else wN (n / 10) ++ [UInt8.ofNat (48 + n % 10)]
termination_by n
decreasing_by omega
theorem aG7 : wN 0 = [] := by rw [wN]; simp
theorem aJE {n : Nat} (h : n ≠ 0) : wN n = wN (n / 10) ++ [UInt8.ofNat (48 + n % 10)] := by rw [wN]; simp [h]
theorem aTD (n : Nat) : (wN n).length ≤ n := by
 induction n using Nat.strongRecOn with
 |ind n ih =>
  by_cases h : n = 0
  ·subst h; simp [aG7]
  ·rw [aJE h]
   have := ih (n / 10) (by omega)
   simp; omega
def aBX (k : Int) : List UInt8 := if k ≤ 0 then [109, 48] else 109 :: wN k.toNat
mutual
def OV.ct : OV → Nat
 | .v _ => 1
 | .nil _ => 0
 | .sl _ _ es => OV.cV es
def OV.cV : List (List OV) → Nat
 | [] => 0
 |e :: es => OV.jP e + OV.cV es
def OV.jP : List OV → Nat
 | [] => 0
 |x :: e => x.ct + OV.jP e
end
def aJF (k : Int) : aD → aD
 | .int t _ => .int t k
 | .bool _ => .bool (decide (k.tmod 3 = 0))
 | .str _ => .str (aBX k)
 |x => x
mutual
def OV.mk (k : Int) : OV → OV
 | .v x => .v (aJF k x)
 | .nil sz => .nil sz
 | .sl n sz es => .sl n sz (OV.cE k es)
def OV.cE (k : Int) : List (List OV) → List (List OV)
 | [] => []
 |e :: es => OV.rE k e :: OV.cE (k + OV.jP e) es
def OV.rE (k : Int) : List OV → List OV
 | [] => []
 |x :: e => x.mk k :: OV.rE (k + x.ct) e
end
theorem OV.fF : ∀ (a b : List (List OV)), OV.cV (a ++ b) = OV.cV a + OV.cV b
 | [], b => by simp [OV.cV]
 |x :: a, b => by rw [List.cons_append, OV.cV, OV.fF a b, OV.cV]; omega
theorem OV.kB : ∀ (k : Int) (a b : List (List OV)), OV.cE k (a ++ b) = OV.cE k a ++ OV.cE (k + OV.cV a) b
 |k, [], b => by simp [OV.cV, OV.cE]
 |k, x :: a, b => by
  rw [List.cons_append, OV.cE, OV.kB (k + OV.jP x) a b, OV.cE, OV.cV, List.cons_append]
  congr 3; omega
theorem OV.e6 : ∀ (k : Int) (a : List (List OV)), (OV.cE k a).length = a.length
 |k, [] => rfl
 |k, x :: a => by rw [OV.cE, List.length_cons, List.length_cons, OV.e6]
theorem OV.rF (k : Int) (a : List (List OV)) (e : List OV) : OV.cE k (a ++ [e]) = OV.cE k a ++ [OV.rE (k + OV.cV a) e] := by
 rw [OV.kB]; simp [OV.cE]
theorem OV.iU (a : List (List OV)) (e : List OV) : OV.cV (a ++ [e]) = OV.cV a + OV.jP e := by
 rw [OV.fF]; simp [OV.cV]
theorem OV.vJ (x : aD) : (OV.v x).ct = 1 := by rw [OV.ct]
theorem OV.rP (sz : Nat) : (OV.nil sz).ct = 0 := by rw [OV.ct]
theorem OV.mO (n sz : Nat) (es : List (List OV)) : (OV.sl n sz es).ct = OV.cV es := by rw [OV.ct]
theorem OV.k5 : OV.jP [] = 0 := by rw [OV.jP]
theorem OV.jV (x : OV) (e : List OV) : OV.jP (x :: e) = x.ct + OV.jP e := by rw [OV.jP]
theorem OV.aHN (k : Int) (x : aD) : (OV.v x).mk k = .v (aJF k x) := by rw [OV.mk]
theorem OV.pO (k : Int) (sz : Nat) : (OV.nil sz).mk k = .nil sz := by rw [OV.mk]
theorem OV.tW (k : Int) (n sz : Nat) (es : List (List OV)) : (OV.sl n sz es).mk k = .sl n sz (OV.cE k es) := by rw [OV.mk]
theorem OV.k6 (k : Int) : OV.rE k [] = [] := by rw [OV.rE]
theorem OV.jW (k : Int) (x : OV) (e : List OV) : OV.rE k (x :: e) = x.mk k :: OV.rE (k + x.ct) e := by rw [OV.rE]
theorem nD (k : Int) (t : IntKind) (n : Int) : aJF k (.int t n) = .int t k := rfl
theorem k7 (k : Int) (b : Bool) : aJF k (.bool b) = .bool (decide (k.tmod 3 = 0)) := rfl
theorem nE (k : Int) (s : List UInt8) : aJF k (.str s) = .str (aBX k) := rfl
theorem iZ : ((1 : Nat) : Int) = 1 := rfl
theorem OS.mk_val {α : Type} {R : α → List OV → Prop} {sz : Nat} {l : List α} {y : OV} (h : OS R sz l y) (k : Int) : (y.mk k).val = y.val := by
 rcases h with ⟨rfl, _⟩ | ⟨n, es, rfl, _⟩
 ·rw [OV.pO]
 ·rw [OV.tW, OV.p9, OV.p9, OV.e6]
structure kE (h h' : aB) (l l' : List (Nat × bM)) : Prop where
 names : bR l' = bR l
 fI : fJ h' l'
 upto : bB9 (bR l) h h'
theorem kE.refl {h : aB} {l : List (Nat × bM)} (o : fJ h l) : kE h h l l := ⟨rfl, o, fun _ _ => rfl⟩
theorem kE.trans {h h1 h2 : aB} {a b c : List (Nat × bM)} (x : kE h h1 a b) (y : kE h1 h2 b c) : kE h h2 a c :=
 ⟨y.names.trans x.names, y.fI, fun m hm => (y.upto m (by rw [x.names]; exact hm)).trans (x.upto m hm)⟩
theorem fJ.left {h : aB} {a b : List (Nat × bM)} (o : fJ h (a ++ b)) : fJ h a := fun p hp => o p (List.mem_append_left _ hp)
theorem fJ.right {h : aB} {a b : List (Nat × bM)} (o : fJ h (a ++ b)) : fJ h b := fun p hp => o p (List.mem_append_right _ hp)
theorem kE.mid {h h' : aB} {a l l' b : List (Nat × bM)} (o : fJ h (a ++ (l ++ b))) (nd : (bR (a ++ (l ++ b))).Nodup) (c : kE h h' l l') : kE h h' (a ++ (l ++ b)) (a ++ (l' ++ b)) := by
 have nd' := nd
 rw [dW, dW] at nd'
 obtain ⟨_, n2, d1⟩ := List.nodup_append.1 nd'
 obtain ⟨_, _, d2⟩ := List.nodup_append.1 n2
 refine ⟨by rw [dW, dW, dW, dW, c.names], fun p hp => ?_, fun m hm => c.upto m fun q => hm ?_⟩
 ·rcases List.mem_append.1 hp with hp | hp
  ·have hm : p.1 ∈ bR a := dH.2 ⟨p.2, hp⟩
   rw [c.upto p.1 fun q => d1 _ hm _ (List.mem_append_left _ q) rfl]
   exact o p (List.mem_append_left _ hp)
  ·rcases List.mem_append.1 hp with hp | hp
   ·exact c.fI p hp
   ·have hm : p.1 ∈ bR b := dH.2 ⟨p.2, hp⟩
    rw [c.upto p.1 fun q => d2 _ q _ hm rfl]
    exact o p (List.mem_append_right _ (List.mem_append_right _ hp))
 ·rw [dW, dW]
  exact List.mem_append_right _ (List.mem_append_left _ q)
theorem kE.set {h : aB} {n : Nat} {o o' : bM} {l : List (Nat × bM)} (ow : fJ h ((n, o) :: l)) (nd : (bR ((n, o) :: l)).Nodup) : kE h (bK h n o') ((n, o) :: l) ((n, o') :: l) := by
 have hn : n ∉ bR l := (List.nodup_cons.1 (show (n :: bR l).Nodup from nd)).1
 refine ⟨rfl, fun p hp => ?_, fun m hm => ?_⟩
 ·rcases List.mem_cons.1 hp with rfl | hp
  ·exact aU _ _ _
  ·have : p.1 ≠ n := fun e => hn (e ▸ dH.2 ⟨p.2, hp⟩)
   rw [aC _ _ _ _ this]; exact ow p (List.mem_cons_of_mem _ hp)
 ·have : m ≠ n := fun e => hm (by rw [e]; exact List.mem_cons_self)
  exact aC _ _ _ _ this
theorem kE.nodup {h h' : aB} {a b : List (Nat × bM)} (c : kE h h' a b) (nd : (bR a).Nodup) : (bR b).Nodup := by rw [c.names]; exact nd
theorem eM.chg {h h1 h2 : aB} {l l' : List (Nat × bM)} (x : eM h l h1) (c : kE h1 h2 l l') : eM h l' h2 :=
 ⟨c.nodup x.nodup, fun m hm => x.fresh m (c.names ▸ hm), c.fI, fun m hm => (c.upto m (c.names ▸ hm)).trans (x.upto m (c.names ▸ hm))⟩
theorem jC {a l b : List (Nat × bM)} (nd : (bR (a ++ (l ++ b))).Nodup) : (bR l).Nodup := by
 rw [dW, dW] at nd
 exact (List.nodup_append.1 (List.nodup_append.1 nd).2.1).1
theorem p0 {α : Type} {X Y : List α} {c : α} {i : Nat} (h : X.length = i) : (X ++ c :: Y)[i]? = some c := by
 rw [List.getElem?_append_right (by omega), h, Nat.sub_self]; rfl
theorem aBA {α : Type} {X Y : List α} {c c' : α} {i : Nat} (h : X.length = i) : (X ++ c :: Y).set i c' = X ++ c' :: Y := by
 rw [List.set_append_right _ _ (by omega), h, Nat.sub_self, List.set_cons_zero]
theorem OR.split {α : Type} {R : α → List OV → Prop} : ∀ {l : List α} {es : List (List OV)}, OR R l es → ∀ k (hk : k < l.length), ∃ A e B, es = A ++ e :: B ∧ A.length = k ∧ R l[k] e
 |x :: l, e :: es, h, 0, _ => ⟨[], e, es, rfl, rfl, h.1⟩
 |x :: l, e :: es, h, k + 1, hk => by
  obtain ⟨A, e', B, h1, h2, h3⟩ := OR.split h.2 k (by simpa using hk)
  exact ⟨e :: A, e', B, by rw [h1]; rfl, by simp [h2], by simpa using h3⟩
 | [], [], _, k, hk => by simp at hk
 | [], _ :: _, h, _, _ => h.elim
 | _ :: _, [], h, _, _ => h.elim
theorem bJ (a b : List (List OV)) : OV.cells (a ++ b) = OV.cells a ++ OV.cells b := by simp [OV.cells]
theorem b6 (e : List OV) (b : List (List OV)) : OV.cells (e :: b) = (e.map fun c => Cell.v c.val) :: OV.cells b := rfl
theorem lZ (a b : List (List OV)) : OV.cN (a ++ b) = OV.cN a ++ OV.cN b := by simp [OV.kA]
theorem pC (e : List OV) (b : List (List OV)) : OV.cN (e :: b) = e.map OV.mK :: OV.cN b := by simp [OV.kA]
theorem iV (a : List (List OV)) : (OV.cN a).length = a.length := by simp [OV.kA]
theorem aAI (x : aD) : (OV.v x).mK = x := by rw [OV.mK]
theorem vU (sz : Nat) : (OV.nil sz).mK = .sl sz [] false := by rw [OV.mK]
theorem aAJ (n sz : Nat) (es : List (List OV)) : (OV.sl n sz es).mK = .sl sz (OV.cN es) false := by rw [OV.mK]
theorem iL (x : OV) (e : List OV) : (x :: e).map OV.mK = x.mK :: e.map OV.mK := rfl
theorem jM : ([] : List OV).map OV.mK = [] := rfl
theorem aP (x : OV) (e : List OV) : ((x :: e).map fun c => Cell.v c.val) = .v x.val :: e.map fun c => Cell.v c.val := rfl
theorem aT : (([] : List OV).map fun c => Cell.v c.val) = [] := rfl
theorem bH (a b : List (List OV)) : OV.bP (a ++ b) = OV.bP a ++ OV.bP b := OV.tS a b
theorem bB (e : List OV) (b : List (List OV)) : OV.bP (e :: b) = OV.bZ e ++ OV.bP b := by rw [OV.bP]
def OV.oY : OV → Nat
 | .v _ => 0
 |x => x.ct
def OV.pI (k : Int) : OV → OV
 | .v x => .v x
 |x => x.mk k
def OV.u1 : List OV → Nat
 | [] => 0
 |x :: e => x.oY + OV.u1 e
def OV.aAK (k : Int) : List OV → List OV
 | [] => []
 |x :: e => x.pI k :: OV.aAK (k + x.oY) e
theorem OS.dC {α : Type} {R : α → List OV → Prop} {sz : Nat} {l : List α} {y : OV} (h : OS R sz l y) (k : Int) : (y.mk k).mK.flat = true := by
 rcases h with ⟨rfl, _⟩ | ⟨n, es, rfl, _⟩
 ·rw [OV.pO, vU]; rfl
 ·rw [OV.tW, aAJ]; rfl
theorem OS.dX {α : Type} {R : α → List OV → Prop} {sz : Nat} {l : List α} {y : OV} (h : OS R sz l y) (k : Int) : (y.mk k).mK.cells = [(y.mk k).mK] := by
 rcases h with ⟨rfl, _⟩ | ⟨n, es, rfl, _⟩
 ·rw [OV.pO, vU]; rfl
 ·rw [OV.tW, aAJ]; rfl
theorem OV.jQ : OV.u1 [] = 0 := rfl
theorem OV.iM (x : OV) (e : List OV) : OV.u1 (x :: e) = x.oY + OV.u1 e := rfl
theorem OV.jR (k : Int) : OV.aAK k [] = [] := rfl
theorem OV.iN (k : Int) (x : OV) (e : List OV) : OV.aAK k (x :: e) = x.pI k :: OV.aAK (k + x.oY) e := rfl
theorem OV.vV (x : aD) : (OV.v x).oY = 0 := rfl
theorem OV.vW (k : Int) (x : aD) : (OV.v x).pI k = .v x := rfl
theorem eU : ((0 : Nat) : Int) = 0 := rfl
theorem OS.oY {α : Type} {R : α → List OV → Prop} {sz : Nat} {l : List α} {y : OV} (h : OS R sz l y) : y.oY = y.ct := by
 rcases h with ⟨rfl, _⟩ | ⟨n, es, rfl, _⟩ <;> rfl
theorem OS.pI {α : Type} {R : α → List OV → Prop} {sz : Nat} {l : List α} {y : OV} (h : OS R sz l y) (k : Int) : y.pI k = y.mk k := by
 rcases h with ⟨rfl, _⟩ | ⟨n, es, rfl, _⟩ <;> rfl
def aG8 (P : Program) (f : FuncId) (R : OV → Prop) : Prop := ∀ (y : OV) (k : Int) (h : aB), R y → 0 ≤ k → k + y.ct ≤ 4611686018427387904 → fJ h y.rows → (bR y.rows).Nodup →
 fO P f [y.val, .int .i64 k] h fun r h' => r = .int .i64 (k + y.ct) ∧ kE h h' y.rows (y.mk k).rows
def aG9 (P : Program) (f : FuncId) (R : OV → Prop) : Prop := ∀ (y : OV) (k : Int), R y → 0 ≤ k → k + y.ct ≤ 4611686018427387904 → e8 P f [(y.mk k).mK, .int .i64 k] (.int .i64 (k + y.ct))
def a0W (P : Program) (f : FuncId) (R : List OV → Prop) : Prop := ∀ (e : List OV) (k : Int) (h : aB), R e → 0 ≤ k → k + OV.u1 e ≤ 4611686018427387904 → fJ h (OV.bZ e) → (bR (OV.bZ e)).Nodup →
 fO P f [.agg (e.map OV.val), .int .i64 k] h fun r h' => r = .int .i64 (k + OV.u1 e) ∧ kE h h' (OV.bZ e) (OV.bZ (OV.aAK k e))
def a0X (P : Program) (f : FuncId) (R : List OV → Prop) : Prop := ∀ (e : List OV) (k : Int), R e → 0 ≤ k → k + OV.u1 e ≤ 4611686018427387904 → e8 P f [.agg ((OV.aAK k e).map OV.mK), .int .i64 k] (.int .i64 (k + OV.u1 e))
set_option linter.unusedVariables false
set_option linter.unusedSimpArgs false
theorem fJ.up {g : aB} {l : List (Nat × bM)} {n : Nat} {o : bM} (ow : fJ g l) (hn : g n = none) : fJ (bK g n o) l := fun p hp => by
 have : p.1 ≠ n := fun e => by have := ow p hp; rw [e, hn] at this; cases this
 rw [aC _ _ _ _ this]; exact ow p hp
theorem kE.under {g h' : aB} {n : Nat} {o : bM} {l l' : List (Nat × bM)} (hg : g n = none) (ho : fJ g l) (c : kE (bK g n o) h' l l') : ∃ g', h' = bK g' n o ∧ kE g g' l l' ∧ g' n = none := by
 have hn : n ∉ bR l := fun q => by
  obtain ⟨x, hx⟩ := dH.1 q
  have := ho _ hx
  rw [hg] at this; cases this
 have hk : h' n = some o := by rw [c.upto n hn, aU]
 refine ⟨lX h' [n], ?_, ⟨c.names, fun p hp => ?_, fun m hm => ?_⟩, by simp [lX]⟩
 ·funext m
  by_cases e : m = n
  ·subst e; rw [aU, hk]
  ·rw [aC _ _ _ _ e]; simp [lX, e]
 ·have e : p.1 ≠ n := fun e => hn (by rw [← c.names]; exact e ▸ dH.2 ⟨p.2, hp⟩)
  have : lX h' [n] p.1 = h' p.1 := by simp [lX, e]
  rw [this]; exact c.fI p hp
 ·by_cases e : m = n
  ·subst e; rw [hg]; simp [lX]
  ·have : lX h' [n] m = h' m := by simp [lX, e]
   rw [this, c.upto m hm, aC _ _ _ _ e]
theorem eM.un0 {g h' : aB} {l : List (Nat × bM)}  (x : eM g l h') : ∃ g', h' = g' ∧ eM g l g' := by
 exact ⟨h', rfl, x⟩
theorem aJ.wn0 {P : Program} {f : FuncId} {args : List aD} {Q : aD → List (Nat × bM) → Prop} {K : aD → aB → Prop} {t : Tag K} {g : aB} (a : pN P f args Q)  (k : ∀ r l g', Q r l → eM g l g' → K r g') : aJ P f args g K t :=
 aJ.iF (a _) fun r h' ⟨l, q, hq⟩ => by
  obtain ⟨g', e0, q2⟩ := hq.un0; subst e0
  exact k r l _ q q2
theorem eM.un1 {g h' : aB} {n0 : Nat} {o0 : bM} {l : List (Nat × bM)} (h0 : g n0 = none) (x : eM (bK g n0 o0) l h') : ∃ g', h' = (bK g' n0 o0) ∧ eM g l g' ∧ g' n0 = none := by
 exact x.under h0
theorem kE.un1 {g h' : aB} {n0 : Nat} {o0 : bM} {l l' : List (Nat × bM)} (h0 : g n0 = none) (ho : fJ g l) (x : kE (bK g n0 o0) h' l l') : ∃ g', h' = (bK g' n0 o0) ∧ kE g g' l l' ∧ g' n0 = none := by
 exact x.under h0 ho
theorem aJ.wn1 {P : Program} {f : FuncId} {args : List aD} {Q : aD → List (Nat × bM) → Prop} {K : aD → aB → Prop} {t : Tag K} {g : aB} {n0 : Nat} {o0 : bM} (a : pN P f args Q) (h0 : g n0 = none) (k : ∀ r l g', Q r l → eM g l g' → g' n0 = none → K r (bK g' n0 o0)) : aJ P f args (bK g n0 o0) K t :=
 aJ.iF (a _) fun r h' ⟨l, q, hq⟩ => by
  obtain ⟨g', rfl, q2, z0⟩ := hq.un1 h0
  exact k r l _ q q2 z0
theorem eM.un2 {g h' : aB} {n0 : Nat} {o0 : bM} {n1 : Nat} {o1 : bM} {l : List (Nat × bM)} (h0 : g n0 = none) (h1 : n1 ≠ n0 ∧ g n1 = none) (x : eM (bK (bK g n0 o0) n1 o1) l h') : ∃ g', h' = (bK (bK g' n0 o0) n1 o1) ∧ eM g l g' ∧ g' n0 = none ∧ g' n1 = none := by
 obtain ⟨g1, rfl, x1, q1⟩ := x.under (by simp only [bU]; exact h1)
 obtain ⟨g2, rfl, x2, z0⟩ := eM.un1 h0 x1
 refine ⟨g2, rfl, x2, z0, ?_⟩
 simp only [bU] at q1
 exact q1.2
theorem kE.un2 {g h' : aB} {n0 : Nat} {o0 : bM} {n1 : Nat} {o1 : bM} {l l' : List (Nat × bM)} (h0 : g n0 = none) (h1 : n1 ≠ n0 ∧ g n1 = none) (ho : fJ g l) (x : kE (bK (bK g n0 o0) n1 o1) h' l l') : ∃ g', h' = (bK (bK g' n0 o0) n1 o1) ∧ kE g g' l l' ∧ g' n0 = none ∧ g' n1 = none := by
 obtain ⟨g1, rfl, x1, q1⟩ := x.under (by simp only [bU]; exact h1) (ho.up h0)
 obtain ⟨g2, rfl, x2, z0⟩ := kE.un1 h0 ho x1
 refine ⟨g2, rfl, x2, z0, ?_⟩
 simp only [bU] at q1
 exact q1.2
theorem fJ.up2 {g : aB} {n0 : Nat} {o0 : bM} {n1 : Nat} {o1 : bM} {l : List (Nat × bM)} (h0 : g n0 = none) (h1 : n1 ≠ n0 ∧ g n1 = none) (ho : fJ g l) : fJ (bK (bK g n0 o0) n1 o1) l := ((ho.up h0).up (by simp only [bU]; exact h1))
theorem aJ.tM {P : Program} {f : FuncId} {args : List aD} {Q : aD → List (Nat × bM) → Prop} {K : aD → aB → Prop} {t : Tag K} {g : aB} {n0 : Nat} {o0 : bM} {n1 : Nat} {o1 : bM} (a : pN P f args Q) (h0 : g n0 = none) (h1 : n1 ≠ n0 ∧ g n1 = none) (k : ∀ r l g', Q r l → eM g l g' → g' n0 = none → g' n1 = none → K r (bK (bK g' n0 o0) n1 o1)) : aJ P f args (bK (bK g n0 o0) n1 o1) K t :=
 aJ.iF (a _) fun r h' ⟨l, q, hq⟩ => by
  obtain ⟨g', rfl, q2, z0, z1⟩ := hq.un2 h0 h1
  exact k r l _ q q2 z0 z1
theorem aJ.wl2 {P : Program} {f : FuncId} {args args' : List aD} {Q : aD → List (Nat × bM) → Prop} {K : aD → aB → Prop} {t : Tag K} {g : aB} {n0 : Nat} {o0 : bM} {n1 : Nat} {o1 : bM} (a : pN P f args' Q) (hv : hH (bK (bK g n0 o0) n1 o1) args args') (hQ : aTA Q) (h0 : g n0 = none) (h1 : n1 ≠ n0 ∧ g n1 = none) (k : ∀ r l g', Q r l → eM g l g' → g' n0 = none → g' n1 = none → K r (bK (bK g' n0 o0) n1 o1)) : aJ P f args (bK (bK g n0 o0) n1 o1) K t :=
 aJ.iF (a.bCK hv hQ) fun r h' ⟨l, q, hq⟩ => by
  obtain ⟨g', rfl, q2, z0, z1⟩ := hq.un2 h0 h1
  exact k r l _ q q2 z0 z1
theorem eM.un3 {g h' : aB} {n0 : Nat} {o0 : bM} {n1 : Nat} {o1 : bM} {n2 : Nat} {o2 : bM} {l : List (Nat × bM)} (h0 : g n0 = none) (h1 : n1 ≠ n0 ∧ g n1 = none) (h2 : n2 ≠ n1 ∧ n2 ≠ n0 ∧ g n2 = none) (x : eM (bK (bK (bK g n0 o0) n1 o1) n2 o2) l h') : ∃ g', h' = (bK (bK (bK g' n0 o0) n1 o1) n2 o2) ∧ eM g l g' ∧ g' n0 = none ∧ g' n1 = none ∧ g' n2 = none := by
 obtain ⟨g1, rfl, x1, q1⟩ := x.under (by simp only [bU]; exact h2)
 obtain ⟨g2, rfl, x2, z0, z1⟩ := eM.un2 h0 h1 x1
 refine ⟨g2, rfl, x2, z0, z1, ?_⟩
 simp only [bU] at q1
 exact q1.2.2
theorem kE.un3 {g h' : aB} {n0 : Nat} {o0 : bM} {n1 : Nat} {o1 : bM} {n2 : Nat} {o2 : bM} {l l' : List (Nat × bM)} (h0 : g n0 = none) (h1 : n1 ≠ n0 ∧ g n1 = none) (h2 : n2 ≠ n1 ∧ n2 ≠ n0 ∧ g n2 = none) (ho : fJ g l) (x : kE (bK (bK (bK g n0 o0) n1 o1) n2 o2) h' l l') : ∃ g', h' = (bK (bK (bK g' n0 o0) n1 o1) n2 o2) ∧ kE g g' l l' ∧ g' n0 = none ∧ g' n1 = none ∧ g' n2 = none := by
 obtain ⟨g1, rfl, x1, q1⟩ := x.under (by simp only [bU]; exact h2) ((ho.up h0).up (by simp only [bU]; exact h1))
 obtain ⟨g2, rfl, x2, z0, z1⟩ := kE.un2 h0 h1 ho x1
 refine ⟨g2, rfl, x2, z0, z1, ?_⟩
 simp only [bU] at q1
 exact q1.2.2
theorem fJ.up3 {g : aB} {n0 : Nat} {o0 : bM} {n1 : Nat} {o1 : bM} {n2 : Nat} {o2 : bM} {l : List (Nat × bM)} (h0 : g n0 = none) (h1 : n1 ≠ n0 ∧ g n1 = none) (h2 : n2 ≠ n1 ∧ n2 ≠ n0 ∧ g n2 = none) (ho : fJ g l) : fJ (bK (bK (bK g n0 o0) n1 o1) n2 o2) l := (((ho.up h0).up (by simp only [bU]; exact h1)).up (by simp only [bU]; exact h2))
theorem aJ.wn3 {P : Program} {f : FuncId} {args : List aD} {Q : aD → List (Nat × bM) → Prop} {K : aD → aB → Prop} {t : Tag K} {g : aB} {n0 : Nat} {o0 : bM} {n1 : Nat} {o1 : bM} {n2 : Nat} {o2 : bM} (a : pN P f args Q) (h0 : g n0 = none) (h1 : n1 ≠ n0 ∧ g n1 = none) (h2 : n2 ≠ n1 ∧ n2 ≠ n0 ∧ g n2 = none) (k : ∀ r l g', Q r l → eM g l g' → g' n0 = none → g' n1 = none → g' n2 = none → K r (bK (bK (bK g' n0 o0) n1 o1) n2 o2)) : aJ P f args (bK (bK (bK g n0 o0) n1 o1) n2 o2) K t :=
 aJ.iF (a _) fun r h' ⟨l, q, hq⟩ => by
  obtain ⟨g', rfl, q2, z0, z1, z2⟩ := hq.un3 h0 h1 h2
  exact k r l _ q q2 z0 z1 z2
theorem aJ.wc3 {P : Program} {f : FuncId} {args : List aD} {K : aD → aB → Prop} {t : Tag K} {g : aB} {n0 : Nat} {o0 : bM} {n1 : Nat} {o1 : bM} {n2 : Nat} {o2 : bM} {l l' : List (Nat × bM)} {r0 : aD} (a : fO P f args (bK (bK (bK g n0 o0) n1 o1) n2 o2) fun r h' => r = r0 ∧ kE (bK (bK (bK g n0 o0) n1 o1) n2 o2) h' l l') (ho : fJ g l) (h0 : g n0 = none) (h1 : n1 ≠ n0 ∧ g n1 = none) (h2 : n2 ≠ n1 ∧ n2 ≠ n0 ∧ g n2 = none) (k : ∀ g', kE g g' l l' → g' n0 = none → g' n1 = none → g' n2 = none → K r0 (bK (bK (bK g' n0 o0) n1 o1) n2 o2)) : aJ P f args (bK (bK (bK g n0 o0) n1 o1) n2 o2) K t :=
 aJ.iF a fun r h' ⟨e, hq⟩ => by
  subst e
  obtain ⟨g', e0, q2, z0, z1, z2⟩ := hq.un3 h0 h1 h2 ho
  subst e0
  exact k _ q2 z0 z1 z2
theorem eM.un4 {g h' : aB} {n0 : Nat} {o0 : bM} {n1 : Nat} {o1 : bM} {n2 : Nat} {o2 : bM} {n3 : Nat} {o3 : bM} {l : List (Nat × bM)} (h0 : g n0 = none) (h1 : n1 ≠ n0 ∧ g n1 = none) (h2 : n2 ≠ n1 ∧ n2 ≠ n0 ∧ g n2 = none) (h3 : n3 ≠ n2 ∧ n3 ≠ n1 ∧ n3 ≠ n0 ∧ g n3 = none) (x : eM (bK (bK (bK (bK g n0 o0) n1 o1) n2 o2) n3 o3) l h') : ∃ g', h' = (bK (bK (bK (bK g' n0 o0) n1 o1) n2 o2) n3 o3) ∧ eM g l g' ∧ g' n0 = none ∧ g' n1 = none ∧ g' n2 = none ∧ g' n3 = none := by
 obtain ⟨g1, rfl, x1, q1⟩ := x.under (by simp only [bU]; exact h3)
 obtain ⟨g2, rfl, x2, z0, z1, z2⟩ := eM.un3 h0 h1 h2 x1
 refine ⟨g2, rfl, x2, z0, z1, z2, ?_⟩
 simp only [bU] at q1
 exact q1.2.2.2
theorem fJ.up4 {g : aB} {n0 : Nat} {o0 : bM} {n1 : Nat} {o1 : bM} {n2 : Nat} {o2 : bM} {n3 : Nat} {o3 : bM} {l : List (Nat × bM)} (h0 : g n0 = none) (h1 : n1 ≠ n0 ∧ g n1 = none) (h2 : n2 ≠ n1 ∧ n2 ≠ n0 ∧ g n2 = none) (h3 : n3 ≠ n2 ∧ n3 ≠ n1 ∧ n3 ≠ n0 ∧ g n3 = none) (ho : fJ g l) : fJ (bK (bK (bK (bK g n0 o0) n1 o1) n2 o2) n3 o3) l := ((((ho.up h0).up (by simp only [bU]; exact h1)).up (by simp only [bU]; exact h2)).up (by simp only [bU]; exact h3))
theorem aJ.wn4 {P : Program} {f : FuncId} {args : List aD} {Q : aD → List (Nat × bM) → Prop} {K : aD → aB → Prop} {t : Tag K} {g : aB} {n0 : Nat} {o0 : bM} {n1 : Nat} {o1 : bM} {n2 : Nat} {o2 : bM} {n3 : Nat} {o3 : bM} (a : pN P f args Q) (h0 : g n0 = none) (h1 : n1 ≠ n0 ∧ g n1 = none) (h2 : n2 ≠ n1 ∧ n2 ≠ n0 ∧ g n2 = none) (h3 : n3 ≠ n2 ∧ n3 ≠ n1 ∧ n3 ≠ n0 ∧ g n3 = none) (k : ∀ r l g', Q r l → eM g l g' → g' n0 = none → g' n1 = none → g' n2 = none → g' n3 = none → K r (bK (bK (bK (bK g' n0 o0) n1 o1) n2 o2) n3 o3)) : aJ P f args (bK (bK (bK (bK g n0 o0) n1 o1) n2 o2) n3 o3) K t :=
 aJ.iF (a _) fun r h' ⟨l, q, hq⟩ => by
  obtain ⟨g', rfl, q2, z0, z1, z2, z3⟩ := hq.un4 h0 h1 h2 h3
  exact k r l _ q q2 z0 z1 z2 z3
theorem eM.un5 {g h' : aB} {n0 : Nat} {o0 : bM} {n1 : Nat} {o1 : bM} {n2 : Nat} {o2 : bM} {n3 : Nat} {o3 : bM} {n4 : Nat} {o4 : bM} {l : List (Nat × bM)} (h0 : g n0 = none) (h1 : n1 ≠ n0 ∧ g n1 = none) (h2 : n2 ≠ n1 ∧ n2 ≠ n0 ∧ g n2 = none) (h3 : n3 ≠ n2 ∧ n3 ≠ n1 ∧ n3 ≠ n0 ∧ g n3 = none) (h4 : n4 ≠ n3 ∧ n4 ≠ n2 ∧ n4 ≠ n1 ∧ n4 ≠ n0 ∧ g n4 = none) (x : eM (bK (bK (bK (bK (bK g n0 o0) n1 o1) n2 o2) n3 o3) n4 o4) l h') : ∃ g', h' = (bK (bK (bK (bK (bK g' n0 o0) n1 o1) n2 o2) n3 o3) n4 o4) ∧ eM g l g' ∧ g' n0 = none ∧ g' n1 = none ∧ g' n2 = none ∧ g' n3 = none ∧ g' n4 = none := by
 obtain ⟨g1, rfl, x1, q1⟩ := x.under (by simp only [bU]; exact h4)
 obtain ⟨g2, rfl, x2, z0, z1, z2, z3⟩ := eM.un4 h0 h1 h2 h3 x1
 refine ⟨g2, rfl, x2, z0, z1, z2, z3, ?_⟩
 simp only [bU] at q1
 exact q1.2.2.2.2
theorem aJ.wn5 {P : Program} {f : FuncId} {args : List aD} {Q : aD → List (Nat × bM) → Prop} {K : aD → aB → Prop} {t : Tag K} {g : aB} {n0 : Nat} {o0 : bM} {n1 : Nat} {o1 : bM} {n2 : Nat} {o2 : bM} {n3 : Nat} {o3 : bM} {n4 : Nat} {o4 : bM} (a : pN P f args Q) (h0 : g n0 = none) (h1 : n1 ≠ n0 ∧ g n1 = none) (h2 : n2 ≠ n1 ∧ n2 ≠ n0 ∧ g n2 = none) (h3 : n3 ≠ n2 ∧ n3 ≠ n1 ∧ n3 ≠ n0 ∧ g n3 = none) (h4 : n4 ≠ n3 ∧ n4 ≠ n2 ∧ n4 ≠ n1 ∧ n4 ≠ n0 ∧ g n4 = none) (k : ∀ r l g', Q r l → eM g l g' → g' n0 = none → g' n1 = none → g' n2 = none → g' n3 = none → g' n4 = none → K r (bK (bK (bK (bK (bK g' n0 o0) n1 o1) n2 o2) n3 o3) n4 o4)) : aJ P f args (bK (bK (bK (bK (bK g n0 o0) n1 o1) n2 o2) n3 o3) n4 o4) K t :=
 aJ.iF (a _) fun r h' ⟨l, q, hq⟩ => by
  obtain ⟨g', rfl, q2, z0, z1, z2, z3, z4⟩ := hq.un5 h0 h1 h2 h3 h4
  exact k r l _ q q2 z0 z1 z2 z3 z4
theorem eM.un6 {g h' : aB} {n0 : Nat} {o0 : bM} {n1 : Nat} {o1 : bM} {n2 : Nat} {o2 : bM} {n3 : Nat} {o3 : bM} {n4 : Nat} {o4 : bM} {n5 : Nat} {o5 : bM} {l : List (Nat × bM)} (h0 : g n0 = none) (h1 : n1 ≠ n0 ∧ g n1 = none) (h2 : n2 ≠ n1 ∧ n2 ≠ n0 ∧ g n2 = none) (h3 : n3 ≠ n2 ∧ n3 ≠ n1 ∧ n3 ≠ n0 ∧ g n3 = none) (h4 : n4 ≠ n3 ∧ n4 ≠ n2 ∧ n4 ≠ n1 ∧ n4 ≠ n0 ∧ g n4 = none) (h5 : n5 ≠ n4 ∧ n5 ≠ n3 ∧ n5 ≠ n2 ∧ n5 ≠ n1 ∧ n5 ≠ n0 ∧ g n5 = none) (x : eM (bK (bK (bK (bK (bK (bK g n0 o0) n1 o1) n2 o2) n3 o3) n4 o4) n5 o5) l h') : ∃ g', h' = (bK (bK (bK (bK (bK (bK g' n0 o0) n1 o1) n2 o2) n3 o3) n4 o4) n5 o5) ∧ eM g l g' ∧ g' n0 = none ∧ g' n1 = none ∧ g' n2 = none ∧ g' n3 = none ∧ g' n4 = none ∧ g' n5 = none := by
 obtain ⟨g1, rfl, x1, q1⟩ := x.under (by simp only [bU]; exact h5)
 obtain ⟨g2, rfl, x2, z0, z1, z2, z3, z4⟩ := eM.un5 h0 h1 h2 h3 h4 x1
 refine ⟨g2, rfl, x2, z0, z1, z2, z3, z4, ?_⟩
 simp only [bU] at q1
 exact q1.2.2.2.2.2
theorem aJ.wn6 {P : Program} {f : FuncId} {args : List aD} {Q : aD → List (Nat × bM) → Prop} {K : aD → aB → Prop} {t : Tag K} {g : aB} {n0 : Nat} {o0 : bM} {n1 : Nat} {o1 : bM} {n2 : Nat} {o2 : bM} {n3 : Nat} {o3 : bM} {n4 : Nat} {o4 : bM} {n5 : Nat} {o5 : bM} (a : pN P f args Q) (h0 : g n0 = none) (h1 : n1 ≠ n0 ∧ g n1 = none) (h2 : n2 ≠ n1 ∧ n2 ≠ n0 ∧ g n2 = none) (h3 : n3 ≠ n2 ∧ n3 ≠ n1 ∧ n3 ≠ n0 ∧ g n3 = none) (h4 : n4 ≠ n3 ∧ n4 ≠ n2 ∧ n4 ≠ n1 ∧ n4 ≠ n0 ∧ g n4 = none) (h5 : n5 ≠ n4 ∧ n5 ≠ n3 ∧ n5 ≠ n2 ∧ n5 ≠ n1 ∧ n5 ≠ n0 ∧ g n5 = none) (k : ∀ r l g', Q r l → eM g l g' → g' n0 = none → g' n1 = none → g' n2 = none → g' n3 = none → g' n4 = none → g' n5 = none → K r (bK (bK (bK (bK (bK (bK g' n0 o0) n1 o1) n2 o2) n3 o3) n4 o4) n5 o5)) : aJ P f args (bK (bK (bK (bK (bK (bK g n0 o0) n1 o1) n2 o2) n3 o3) n4 o4) n5 o5) K t :=
 aJ.iF (a _) fun r h' ⟨l, q, hq⟩ => by
  obtain ⟨g', rfl, q2, z0, z1, z2, z3, z4, z5⟩ := hq.un6 h0 h1 h2 h3 h4 h5
  exact k r l _ q q2 z0 z1 z2 z3 z4 z5
theorem eM.un7 {g h' : aB} {n0 : Nat} {o0 : bM} {n1 : Nat} {o1 : bM} {n2 : Nat} {o2 : bM} {n3 : Nat} {o3 : bM} {n4 : Nat} {o4 : bM} {n5 : Nat} {o5 : bM} {n6 : Nat} {o6 : bM} {l : List (Nat × bM)} (h0 : g n0 = none) (h1 : n1 ≠ n0 ∧ g n1 = none) (h2 : n2 ≠ n1 ∧ n2 ≠ n0 ∧ g n2 = none) (h3 : n3 ≠ n2 ∧ n3 ≠ n1 ∧ n3 ≠ n0 ∧ g n3 = none) (h4 : n4 ≠ n3 ∧ n4 ≠ n2 ∧ n4 ≠ n1 ∧ n4 ≠ n0 ∧ g n4 = none) (h5 : n5 ≠ n4 ∧ n5 ≠ n3 ∧ n5 ≠ n2 ∧ n5 ≠ n1 ∧ n5 ≠ n0 ∧ g n5 = none) (h6 : n6 ≠ n5 ∧ n6 ≠ n4 ∧ n6 ≠ n3 ∧ n6 ≠ n2 ∧ n6 ≠ n1 ∧ n6 ≠ n0 ∧ g n6 = none) (x : eM (bK (bK (bK (bK (bK (bK (bK g n0 o0) n1 o1) n2 o2) n3 o3) n4 o4) n5 o5) n6 o6) l h') : ∃ g', h' = (bK (bK (bK (bK (bK (bK (bK g' n0 o0) n1 o1) n2 o2) n3 o3) n4 o4) n5 o5) n6 o6) ∧ eM g l g' ∧ g' n0 = none ∧ g' n1 = none ∧ g' n2 = none ∧ g' n3 = none ∧ g' n4 = none ∧ g' n5 = none ∧ g' n6 = none := by
 obtain ⟨g1, rfl, x1, q1⟩ := x.under (by simp only [bU]; exact h6)
 obtain ⟨g2, rfl, x2, z0, z1, z2, z3, z4, z5⟩ := eM.un6 h0 h1 h2 h3 h4 h5 x1
 refine ⟨g2, rfl, x2, z0, z1, z2, z3, z4, z5, ?_⟩
 simp only [bU] at q1
 exact q1.2.2.2.2.2.2
theorem aJ.wn7 {P : Program} {f : FuncId} {args : List aD} {Q : aD → List (Nat × bM) → Prop} {K : aD → aB → Prop} {t : Tag K} {g : aB} {n0 : Nat} {o0 : bM} {n1 : Nat} {o1 : bM} {n2 : Nat} {o2 : bM} {n3 : Nat} {o3 : bM} {n4 : Nat} {o4 : bM} {n5 : Nat} {o5 : bM} {n6 : Nat} {o6 : bM} (a : pN P f args Q) (h0 : g n0 = none) (h1 : n1 ≠ n0 ∧ g n1 = none) (h2 : n2 ≠ n1 ∧ n2 ≠ n0 ∧ g n2 = none) (h3 : n3 ≠ n2 ∧ n3 ≠ n1 ∧ n3 ≠ n0 ∧ g n3 = none) (h4 : n4 ≠ n3 ∧ n4 ≠ n2 ∧ n4 ≠ n1 ∧ n4 ≠ n0 ∧ g n4 = none) (h5 : n5 ≠ n4 ∧ n5 ≠ n3 ∧ n5 ≠ n2 ∧ n5 ≠ n1 ∧ n5 ≠ n0 ∧ g n5 = none) (h6 : n6 ≠ n5 ∧ n6 ≠ n4 ∧ n6 ≠ n3 ∧ n6 ≠ n2 ∧ n6 ≠ n1 ∧ n6 ≠ n0 ∧ g n6 = none) (k : ∀ r l g', Q r l → eM g l g' → g' n0 = none → g' n1 = none → g' n2 = none → g' n3 = none → g' n4 = none → g' n5 = none → g' n6 = none → K r (bK (bK (bK (bK (bK (bK (bK g' n0 o0) n1 o1) n2 o2) n3 o3) n4 o4) n5 o5) n6 o6)) : aJ P f args (bK (bK (bK (bK (bK (bK (bK g n0 o0) n1 o1) n2 o2) n3 o3) n4 o4) n5 o5) n6 o6) K t :=
 aJ.iF (a _) fun r h' ⟨l, q, hq⟩ => by
  obtain ⟨g', rfl, q2, z0, z1, z2, z3, z4, z5, z6⟩ := hq.un7 h0 h1 h2 h3 h4 h5 h6
  exact k r l _ q q2 z0 z1 z2 z3 z4 z5 z6
theorem OV.a5J (k : Int) (x : OV) : (x.pI k).val = x.val := by
 cases x with
 |v x => rfl
 |nil sz => show ((OV.nil sz).mk k).val = _; rw [OV.pO]
 |sl n sz es => show ((OV.sl n sz es).mk k).val = _; rw [OV.tW, OV.p9, OV.p9, OV.e6]
theorem OV.aMC : ∀ (k : Int) (e : List OV), (OV.aAK k e).map OV.val = e.map OV.val
 |k, [] => rfl
 |k, x :: e => by rw [OV.aAK, List.map_cons, List.map_cons, OV.a5J, OV.aMC]
theorem OR.aD8 {α : Type} {R : α → List OV → Prop} : ∀ {l : List α} {es : List (List OV)}, (∀ x ∈ l, ∀ e, R x e → OV.j4 e = true) → OR R l es → OV.uA es = true
 | [], [], _, _ => rfl
 |x :: l, e :: es, hR, h => by rw [OV.uA, hR x List.mem_cons_self e h.1, OR.aD8 (fun y hy => hR y (List.mem_cons_of_mem _ hy)) h.2]; rfl
 | [], _ :: _, _, h => h.elim
 | _ :: _, [], _, h => h.elim
theorem OS.aD8 {α : Type} {R : α → List OV → Prop} {sz : Nat} {l : List α} {y : OV} (hR : ∀ x ∈ l, ∀ e, R x e → OV.j4 e = true) (h : OS R sz l y) : y.sol = true := by
 rcases h with ⟨rfl, _⟩ | ⟨n, es, rfl, h⟩
 ·rfl
 ·simp only [OV.sol]; exact h.aD8 hR
theorem a5K {α : Type} {R : α → List OV → Prop} {sz : Nat} {l : List α} {e : List OV} (hR : ∀ x ∈ l, ∀ e, R x e → OV.j4 e = true) (h : oS R sz l e) : OV.j4 e = true := by
 obtain ⟨y, rfl, h⟩ := h
 simp [OV.j4, h.aD8 hR]
theorem OR.ct {α : Type} {R : α → List OV → Prop} {s : α → Nat} : ∀ {l : List α} {es : List (List OV)}, OR R l es → (∀ x ∈ l, ∀ e, R x e → OV.jP e ≤ 16 * (1 + s x)) → OV.cV es ≤ 16 * uX s l
 | [], [], _, _ => by simp [OV.cV]
 |x :: l, e :: es, h, hc => by
  have h1 := hc x List.mem_cons_self e h.1
  have h2 := OR.ct (s := s) h.2 fun y hy => hc y (List.mem_cons_of_mem _ hy)
  rw [OV.cV]
  simp only [uX, List.length_cons, List.map_cons, List.sum_cons] at h2 ⊢
  omega
 | [], _ :: _, h, _ => h.elim
 | _ :: _, [], h, _ => h.elim
theorem OR.ct0 {α : Type} {R : α → List OV → Prop} : ∀ {l : List α} {es : List (List OV)}, OR R l es → (∀ x ∈ l, ∀ e, R x e → OV.jP e ≤ 16) → OV.cV es ≤ 16 * l.length
 | [], [], _, _ => by simp [OV.cV]
 |x :: l, e :: es, h, hc => by
  have h1 := hc x List.mem_cons_self e h.1
  have h2 := OR.ct0 h.2 fun y hy => hc y (List.mem_cons_of_mem _ hy)
  rw [OV.cV]
  simp only [List.length_cons] at h2 ⊢
  omega
 | [], _ :: _, h, _ => h.elim
 | _ :: _, [], h, _ => h.elim
theorem OS.cts {α : Type} {R : α → List OV → Prop} {s : α → Nat} {sz : Nat} {l : List α} {y : OV} (h : OS R sz l y) (hc : ∀ x ∈ l, ∀ e, R x e → OV.jP e ≤ 16 * (1 + s x)) : y.ct ≤ 16 * uX s l := by
 rcases h with ⟨rfl, _⟩ | ⟨n, es, rfl, h⟩
 ·rw [OV.rP]; omega
 ·rw [OV.mO]; exact h.ct hc
theorem OS.bJG {α : Type} {R : α → List OV → Prop} {sz : Nat} {l : List α} {y : OV} (h : OS R sz l y) (hc : ∀ x ∈ l, ∀ e, R x e → OV.jP e ≤ 16) : y.ct ≤ 16 * l.length := by
 rcases h with ⟨rfl, _⟩ | ⟨n, es, rfl, h⟩
 ·rw [OV.rP]; omega
 ·rw [OV.mO]; exact h.ct0 hc
theorem a87 {α : Type} {c : α → aD} {x : α} {e : List OV} (h : oP c x e) : OV.jP e ≤ 16 := by
 unfold oP at h; subst h; simp [OV.jP, OV.ct]
theorem OS.ctP {α : Type} {c : α → aD} {sz : Nat} {l : List α} {y : OV} (h : OS (oP c) sz l y) : y.ct ≤ 16 * l.length := h.bJG fun _ _ _ q => a87 q
theorem bCL {α : Type} {c : α → aD} {sz : Nat} {l : List α} {e : List OV} (h : oS (oP c) sz l e) : OV.jP e ≤ 16 * (1 + l.length) := by
 obtain ⟨y, rfl, h⟩ := h
 have := h.bJG fun _ _ _ q => a87 q
 simp only [OV.jP]; omega
set_option linter.unusedVariables false
set_option linter.unusedSimpArgs false
def a0Y (w : aD → aD) : Prop := ∀ (E : Env) (h g : aB) (W : World) (x y : aD) (v : Value), (∀ b, sD E h W b → sD E g W b) → (∀ u, fL E h W x u → fL E g W y u) → fL E h W (w x) v → fL E g W (w y) v
theorem eO.hole {E : Env} {h g : aB} {W : World} {x y : aD} (hi : ∀ b, sD E h W b → sD E g W b) (hr : ∀ u, fL E h W x u → fL E g W y u) : ∀ (a b : List aD) (vs : List Value), eO E h W (a ++ x :: b) vs → eO E g W (a ++ y :: b) vs
 | [], b, v :: vs, r => ⟨hr v r.1, eO.vM hi r.2⟩
 |z :: a, b, v :: vs, r => ⟨r.1.vM hi, eO.hole hi hr a b vs r.2⟩
 | [], b, [], r => r.elim
 |z :: a, b, [], r => r.elim
theorem aJG (a b : List aD) : a0Y fun x => .lR (a ++ x :: b) := fun E h g W x y v hi hr r => by
 generalize hc : a ++ x :: b = cs at r
 cases r with
 |lR _ vs hl hrr =>
  subst hc
  have := eO.hole hi hr a b vs (eO.mk hl hrr)
  exact .lR _ vs this.length this.get
theorem QA.bCM {P : Program} {f : FuncId} {args : List aD} {R : List OV → Prop} {w : aD → aD} {d : List aD} (a : pN P f args (QA R w)) (hd : ∀ e, R e → e.map OV.mK = d) (hw : a0Y w) : e8 P f args (w (.agg d)) :=
 a.gC fun r' l ⟨y, hy, e1, e2⟩ E W v h' ho R' rx => by
  subst e1 e2
  rw [← hd y hy]
  exact hw E h' _ W (.agg (y.map OV.val)) (.agg (y.map OV.mK)) v (fun b => uI _ b) (fun u ru => fL.aRA R' y u ho (fun p hp => dH.2 ⟨p.2, hp⟩) ru) rx
def nO (sz len : Nat) : Option Nat → aD
 |none => .sl sz [] true
 |some n => .os n sz 0 len
def dD (h : aB) (o : bM) : Option Nat → aB
 |none => h
 |some n => bK h n o
theorem dN (sz len : Nat) : nO sz len none = .sl sz [] true := rfl
theorem cI (sz len n : Nat) : nO sz len (some n) = .os n sz 0 len := rfl
theorem aK (h : aB) (o : bM) : dD h o none = h := rfl
theorem aG (h : aB) (o : bM) (n : Nat) : dD h o (some n) = bK h n o := rfl
theorem qA {h : aB} {n b : Nat} {o r : bM} (hn : h n = none) : (bK h b r).le (bK (bK (bK h n o) n .gone) b r) := fun m => by
 by_cases e : m = b
 ·subst e; right; simp
 ·rw [aC _ _ _ _ e, aC _ _ _ _ e]
  by_cases e2 : m = n
  ·subst e2; exact .inl hn
  ·right; rw [aC _ _ _ _ e2, aC _ _ _ _ e2]
def lQ {α : Type} (h : aB) (l : List α) : Option Nat → Prop
 |none => l = []
 |some n => h n = none
theorem dB {α : Type} (h : aB) (l : List α) : lQ h l none = (l = []) := rfl
theorem cQ {α : Type} (h : aB) (l : List α) (n : Nat) : lQ h l (some n) = (h n = none) := rfl
theorem jN {α : Type} (c : α → aD) (l : List α) (x : α) : List.take l.length ((l.map fun x => [c x]).map (List.map Cell.v)) ++ [[Cell.v (c x)]] = ((l ++ [x]).map fun x => [c x]).map (List.map .v) := by
 rw [List.take_of_length_le (by simp)]
 simp
theorem View.a5L {h : aB} {c : List aD} (e : List OV) (hd : e.map OV.mK = c) (ho : fJ h (OV.bZ e)) : View h (.agg (e.map OV.val)) (.agg c) := hd ▸ View.agg e ho
theorem View.bJH {h : aB} (k : Int) (e : List OV) (ho : fJ h (OV.bZ (OV.aAK k e))) : View h (.agg (e.map OV.val)) (.agg ((OV.aAK k e).map OV.mK)) := by
 have := View.agg (OV.aAK k e) ho
 rwa [OV.aMC] at this
theorem View.ovD {h : aB} {d : aD} (y : OV) (hd : y.mK = d) (ho : fJ h y.rows) : View h y.val d := hd ▸ View.ov y ho
set_option linter.unusedVariables false
set_option linter.unusedSimpArgs false
theorem aN5 {α : Type} {c : α → aD} {l : List α} {sz : Nat} {h : aB} (e : (l.map fun x => [c x]) = []) : ∃ r1 g l1, Shift .bC h r1 g ∧ QS (OS (oP c) sz l) (fun x => x) r1 l1 ∧ eM h l1 g := by
 obtain rfl : l = [] := by simpa using e
 exact ⟨_, _, _, Shift.of (Sub.nil sz true) (aB.le_refl _), ⟨.nil sz, OS.nil, rfl, rfl⟩, by rw [OV.lY]; exact eM.nil h⟩
theorem aN6 {α : Type} {c : α → aD} {l : List α} {sz : Nat} {h : aB} (e : (l.map fun x => [c x]) = []) : ∃ r1 g l1, Shift (.sl sz [] true) h r1 g ∧ QS (OS (oP c) sz l) (fun x => x) r1 l1 ∧ eM h l1 g := by
 obtain rfl : l = [] := by simpa using e
 exact ⟨_, _, _, bX _ _, ⟨.nil sz, OS.nil, rfl, rfl⟩, by rw [OV.lY]; exact eM.nil h⟩
theorem aN7 {α : Type} {c : α → aD} {l : List α} {sz n : Nat} {h : aB} (hn : h n = none) :
  ∃ r1 g l1, Shift (.os n sz 0 l.length) (bK h n (.row sz ((l.map fun x => [c x]).map (List.map .v)))) r1 g ∧ QS (OS (oP c) sz l) (fun x => x) r1 l1 ∧ eM h l1 g := by
 refine ⟨_, _, _, bX _ _, ⟨.sl n sz (l.map fun x => [.v (c x)]), OS.mk (uZ l), by simp [OV.val], rfl⟩, ?_⟩
 rw [OV.eV, tC, rD]
 exact eM.one hn
def gV (sz len : Nat) : Option Nat → aD
 |none => .bC
 |some n => .os n sz 0 len
theorem aW (sz len : Nat) : gV sz len none = .bC := rfl
theorem aQ (sz len n : Nat) : gV sz len (some n) = .os n sz 0 len := rfl
def tE (g : aB) (es : List (List OV)) : Option Nat → Prop
 |none => es = []
 |some n => g n = none
theorem gW (g : aB) (es : List (List OV)) : tE g es none = (es = []) := rfl
theorem jD (g : aB) (es : List (List OV)) (n : Nat) : tE g es (some n) = (g n = none) := rfl
def x8 (sz : Nat) (es : List (List OV)) : Option Nat → OV
 |none => .nil sz
 |some n => .sl n sz es
theorem a06 (sz : Nat) (es : List (List OV)) : x8 sz es none = .nil sz := rfl
theorem a07 (sz : Nat) (es : List (List OV)) (n : Nat) : x8 sz es (some n) = .sl n sz es := rfl
theorem sX {α : Type} {R : α → List OV → Prop} {sz : Nat} {l : List α} {es : List (List OV)} {g : aB} {o : Option Nat} (h : OR R l es) (hs : tE g es o) : OS R sz l (x8 sz es o) := by
 cases o with
 |none => rw [gW] at hs; subst hs; exact .inl ⟨rfl, by have := h.length; simpa using this⟩
 |some n => exact OS.mk h
theorem pD {sz : Nat} {es : List (List OV)} {o : Option Nat} : Sub (gV sz es.length o) (x8 sz es o).val := by
 cases o with
 |none => exact Sub.nil _ _
 |some n => exact Sub.refl _
theorem pE {sz : Nat} {es : List (List OV)} {h g : aB} {o : Option Nat} (x : eM h (OV.bP es) g) (hs : tE g es o) : eM h (x8 sz es o).rows (dD g (.row sz (OV.cells es)) o) := by
 cases o with
 |none => rw [gW] at hs; subst hs; rw [a06, OV.lY, aK]; simpa [OV.bP] using x
 |some n => rw [a07, OV.eV, aG]; exact x.row hs
theorem cA (es : List (List OV)) : List.take es.length (OV.cells es) = OV.cells es := List.take_of_length_le (by simp [OV.cells])
theorem bY (es : List (List OV)) (e : List OV) : OV.cells (es ++ [e]) = OV.cells es ++ [e.map fun c => Cell.v c.val] := by rw [bJ]; rfl
theorem cO (e : List OV) : OV.cells [e] = [e.map fun c => Cell.v c.val] := rfl
theorem eY (sz len : Nat) (o : Option Nat) : (gV sz len o).flat = true := by cases o <;> rfl
theorem fV (sz len : Nat) (o : Option Nat) : (gV sz len o).cells = [gV sz len o] := by cases o <;> rfl
theorem cJ (es : List (List OV)) : (OV.cells es).length = es.length := by simp [OV.cells]
theorem OR.snoc {α : Type} {R : α → List OV → Prop} {l : List α} {es : List (List OV)} {e : List OV} {k : Nat} (h : OR R (l.take k) es) (hk : k < l.length) (he : R l[k] e) : OR R (l.take (k + 1)) (es ++ [e]) := by
 rw [List.take_succ_eq_append_getElem hk]
 exact OR.append h ⟨he, trivial⟩
theorem eM.snoc {h g g1 : aB} {es : List (List OV)} {e : List OV} (x : eM h (OV.bP es) g) (y : eM g (OV.bZ e) g1) : eM h (OV.bP (es ++ [e])) g1 := by
 rw [pR]; exact x.append y
theorem eK {g : aB} {R : bM} {o : Option Nat} {m : Nat} (hg : g m = none) (hon : ∀ n, o = some n → ¬ n = m) : dD g R o m = none := by
 cases o with
 |none => exact hg
 |some n =>
  have := hon n rfl
  rw [aG, aC _ _ _ _ fun e => this e.symm]; exact hg
theorem cP : OV.cells [] = [] := rfl
theorem u3 {n m : Nat} {g : aB} {x y : bM} (h : ¬ n = m) : bK (bK g n x) m y = bK (bK g m y) n x := by
 funext q; simp only [dZ]; split <;> split <;> simp_all
theorem aHX {α : Type} (c : α → aD) {l : List α} {sz m : Nat} {g : aB} (hm : g m = none) :
  ∃ (y : OV) (g1 : aB), OS (oP c) sz l y ∧ y.val = .os m sz 0 l.length ∧ eM g y.rows g1 ∧ g1 = bK g m (.row sz ((l.map fun x => [c x]).map (List.map .v))) :=
 ⟨.sl m sz (l.map fun x => [.v (c x)]), _, OS.mk (uZ l), by simp [OV.val], by rw [OV.eV, tC, rD]; exact eM.one hm, rfl⟩
theorem aF3 {α : Type} (a b c : List α) : (a ++ b ++ c).Perm (a ++ c ++ b) := by
 rw [List.append_assoc, List.append_assoc]; exact List.Perm.append_left a List.perm_append_comm
def aB.wk (g h : aB) : Prop := ∀ E w, Rel E h w → Rel E g w ∧ ∀ b, sD E h w b → sD E g w b
theorem aB.jA {g h : aB} (hl : g.le h) : g.wk h := fun E w R => ⟨R.forget hl, fun b i => sD.le hl i⟩
theorem aB.wk.trans {a b c : aB} (x : a.wk b) (y : b.wk c) : a.wk c := fun E w R =>
 ⟨(x E w (y E w R).1).1, fun d i => (x E w (y E w R).1).2 d ((y E w R).2 d i)⟩
theorem aB.wk.ev {g h : aB} (x : g.wk h) {E : Env} {w : World} (R : Rel E h w) : Ev E h w E g w :=
 ⟨Nat.le_refl _, fun b hb => ⟨rfl, (x E w R).2 b hb⟩, fun _ _ => rfl, fun _ hn => ⟨rfl, hn⟩, rfl, rfl⟩
theorem q0.wk {P : Program} {N : Nat} {c : Code} {Q : Exit → cG → aB → Prop} {τ : cG} {h g : aB} (hl : g.wk h) (x : q0 P N c Q τ g) : q0 P N c Q τ h :=
 fun E w a R r => Code.wp_mono (fun e a' w' y => tO.trans (hl.ev R) y) (x E w a (hl E w R).1 (r.ev (hl.ev R)))
theorem q0.aRJ {P : Program} {N : Nat} {c : Code} {Q : Exit → cG → aB → Prop} {τ : cG} {h : aB} {α : Type} (S : α → cG) (H : α → aB) (side : α → Prop) (μ : α → Nat) (x₀ : α)
  (h₀ : dA (S x₀) τ ∧ (H x₀).wk h ∧ side x₀)
  (round : ∀ x, side x → q0 P N c (wW (fun τ' h' => ∃ x', dA (S x') τ' ∧ (H x').wk h' ∧ side x' ∧ μ x' < μ x) Q) (S x) (H x)) : q0 P N (.loop c) Q τ h :=
 q0.loop (fun x τ h => dA (S x) τ ∧ (H x).wk h ∧ side x) μ x₀ h₀ fun x τ h ⟨h1, h2, h3⟩ =>
  q0.wk h2 (q0.weaken h1 (aB.le_refl _) ((round x h3).mono fun e τ h q => by
   cases e <;> simp only [wW] at q ⊢ <;> first | exact q | (obtain ⟨x', a, b, c, d⟩ := q; exact ⟨x', ⟨a, b, c⟩, d⟩)))
theorem aRJ {P : Program} {N : Nat} {keep ib : List Nat} {mk : Marks} {c : Code} {Q : Exit → cG → aB → Prop} {τ : cG} {h : aB} {t : Tag (Code.loop c, Q)} {α : Type} (hmix : P.follows .mixedOrders = true) (hc : j3 N mk c = true) (S : α → cG) (H : α → aB) (side : α → Prop) (μ : α → Nat) (x₀ : α)
  (h₀ : dA (S x₀) τ ∧ (H x₀).wk h ∧ side x₀)
  (round : ∀ x, side x → tA P N keep ib mk c (fun τ' h' => ∃ x', dA (S x') τ' ∧ (H x').wk h' ∧ side x' ∧ μ x' < μ x) Q (S x) (H x) ()) : aNG P N (.loop c) Q τ h t :=
 q0.aRJ S H side μ x₀ h₀ fun x hx => aI2 hmix c _ _ _ _ hc (round x hx)
def aAM (x y : Cell) : Prop := ∀ E h w c S, wF E h w x c S → wF E h w y c S
theorem aAM.refl (x : Cell) : aAM x x := fun _ _ _ _ _ r => r
theorem aAM.v {x y : aD} (s : Sub x y) : aAM (.v x) (.v y) := fun E h w c S r => by
 cases r with
 |v _ _ _ h1 hx => exact .v _ _ _ h1 (s _ _ _ _ hx)
def gD : List (List Cell) → List (List Cell) → Prop
 | [], [] => True
 |a :: l, b :: m => (a.length = b.length ∧ ∀ (j : Nat) (x : Cell), b[j]? = some x → ∃ y, a[j]? = some y ∧ aAM y x) ∧ gD l m
 | _, _ => False
theorem gD.refl : ∀ l, gD l l
 | [] => trivial
 |a :: l => ⟨⟨rfl, fun j x h => ⟨x, h, .refl x⟩⟩, gD.refl l⟩
theorem gD.last {a b : List Cell} (hl : a.length = b.length) (hc : ∀ (j : Nat) (x : Cell), b[j]? = some x → ∃ y, a[j]? = some y ∧ aAM y x) : ∀ l, gD (l ++ [a]) (l ++ [b])
 | [] => ⟨⟨hl, hc⟩, trivial⟩
 |c :: l => ⟨⟨rfl, fun j x h => ⟨x, h, .refl x⟩⟩, gD.last hl hc l⟩
theorem gD.length : ∀ {l m}, gD l m → l.length = m.length
 | [], [], _ => rfl
 |a :: l, b :: m, h => by rw [List.length_cons, List.length_cons, gD.length h.2]
 | [], _ :: _, h => h.elim
 | _ :: _, [], h => h.elim
theorem gD.size {sz : Nat} : ∀ {l m}, gD l m → (∀ e ∈ l, e.length = sz) → ∀ e ∈ m, e.length = sz
 | [], [], _, _ => by simp
 |a :: l, b :: m, h, hs => fun e he => by
  rcases List.mem_cons.1 he with rfl | he
  ·rw [← h.1.1]; exact hs a List.mem_cons_self
  ·exact gD.size h.2 (fun e he => hs e (List.mem_cons_of_mem _ he)) e he
 | [], _ :: _, h, _ => h.elim
 | _ :: _, [], h, _ => h.elim
theorem gD.jH : ∀ {l m} (i j : Nat) (x : Cell), gD l m → Hl.jH m i j = some x → ∃ y, Hl.jH l i j = some y ∧ aAM y x
 | [], [], i, j, x, _, h => by simp [Hl.jH] at h
 |a :: l, b :: m, 0, j, x, w, h => by simp only [Hl.jH, List.getElem?_cons_zero, Option.bind_some] at h ⊢; exact w.1.2 j x h
 |a :: l, b :: m, i + 1, j, x, w, h => by simp only [Hl.jH, List.getElem?_cons_succ] at h ⊢; exact gD.jH i j x w.2 h
 | [], _ :: _, _, _, _, w, _ => w.elim
 | _ :: _, [], _, _, _, w, _ => w.elim
theorem aB.aF4 {g h : aB} {m sz : Nat} {es es' : List (List Cell)} (hg : ∀ q, q ≠ m → g q = h q) (hm : h m = some (.row sz es)) (gm : g m = some (.row sz es')) (hw : gD es es') : g.wk h := fun E w R => by
 have live : ∀ q o, g q = some o → ∃ o', h q = some o' ∧ (o.live → o'.live) := fun q o ho => by
  by_cases e : q = m
  ·subst e; exact ⟨_, hm, fun _ => trivial⟩
  ·rw [hg q e] at ho; exact ⟨o, ho, id⟩
 have live' : ∀ q o, h q = some o → ∃ o', g q = some o' ∧ (o.live → o'.live) := fun q o ho => by
  by_cases e : q = m
  ·subst e; exact ⟨_, gm, fun _ => trivial⟩
  ·rw [← hg q e] at ho; exact ⟨o, ho, id⟩
 have vM : ∀ b, sD E h w b → sD E g w b := fun b i => ⟨i.1, fun q o ho hl => by
  obtain ⟨o', h1, h2⟩ := live q o ho; exact i.2 q o' h1 (h2 hl)⟩
 refine ⟨⟨R.fin, fun n hn => R.dom n fun e => ?_, fun n o b hn hl => ?_, fun n o n' o' b hn hl hn' hl' => ?_, fun n o hn => ?_, R.laid.vM vM⟩, vM⟩
 ·by_cases e2 : n = m
  ·subst e2; rw [hm] at e; cases e
  ·rw [hg n e2] at hn; exact hn e
 ·obtain ⟨o2, h1, h2⟩ := live n o hn
  exact R.lt n o2 b h1 (h2 hl)
 ·obtain ⟨o2, h1, h2⟩ := live n o hn
  obtain ⟨o3, h3, h4⟩ := live n' o' hn'
  exact R.apart n o2 n' o3 b h1 (h2 hl) h3 (h4 hl')
 ·by_cases e : n = m
  ·subst e
   rw [gm] at hn
   obtain rfl := Option.some.inj hn
   rcases R.obj n _ hm with ⟨b, o2, hl, ra⟩ | ⟨he, hl⟩
   ·refine .inl ⟨b, o2, hl, ra.hb, hw.size ra.size, ?_⟩
    obtain ⟨cs, t, cv, T, h1, h2, h3, h4, h5, h6⟩ := ra.mem
    refine ⟨cs, t, cv, T, h1, by rw [← hw.length]; exact h2, h3, h4, fun i j x hx => ?_, fun i j x hx => ?_⟩
    ·obtain ⟨y, hy, _⟩ := hw.jH i j x hx; exact h5 i j y hy
    ·obtain ⟨y, hy, hyx⟩ := hw.jH i j x hx; exact (hyx _ _ _ _ _ (h6 i j y hy)).vM vM
   ·subst he
    have : es' = [] := by have := hw.length; simp at this; exact List.length_eq_zero_iff.1 this.symm
    exact .inr ⟨this, hl⟩
  ·rw [hg n e] at hn
   exact (R.obj n o hn).vM vM
theorem gD.sub {xs ys : List aD} (s : cD xs ys) (A : List (List Cell)) : gD (A ++ [xs.map .v]) (A ++ [ys.map .v]) := by
 refine gD.last (by simpa using s.1) (fun j x hx => ?_) A
 rw [List.getElem?_map, Option.map_eq_some_iff] at hx
 obtain ⟨y, hy, rfl⟩ := hx
 have hlt : j < ys.length := (List.getElem?_eq_some_iff.1 hy).1
 have hxl : j < xs.length := by rw [s.1]; exact hlt
 have hx2 : xs[j]? = some xs[j] := List.getElem?_eq_getElem hxl
 exact ⟨.v xs[j], by rw [List.getElem?_map, hx2]; rfl, aAM.v (s.2 j _ _ hx2 hy)⟩
set_option linter.unusedVariables false
set_option linter.unusedSimpArgs false
theorem eM.field {h g g' : aB} {A l l' B : List (Nat × bM)} (x : eM h (A ++ (l ++ B)) g) (c : kE g g' l l') : eM h (A ++ (l' ++ B)) g' := x.chg (kE.mid x.fI x.nodup c)
abbrev Q4 := Option (Nat × Nat × Nat × Nat)
def q1 : Q4 → Option Nat | none => none | some x => some x.1
def q2 : Q4 → Option Nat | none => none | some x => some x.2.1
def q3 : Q4 → Option Nat | none => none | some x => some x.2.2.1
def q4 : Q4 → Option Nat | none => none | some x => some x.2.2.2
def a9D (R : List OV → Prop) (z : List aD) : Prop := ∃ e, R e ∧ OV.bZ e = [] ∧ Sub (.agg z) (.agg (e.map OV.val))
def bJK (w : aD → aD) : Prop := ∀ x y, Sub x y → Sub (w x) (w y)
theorem cD.mid {x y : aD} (s : Sub x y) (b : List aD) : ∀ a : List aD, cD (a ++ x :: b) (a ++ y :: b)
 | [] => .cons s (.refl b)
 |z :: a => .cons (.refl z) (cD.mid s b a)
theorem u4 (a b : List aD) : bJK fun x => .lR (a ++ x :: b) := fun _ _ s => Sub.lR (cD.mid s b a)
theorem u5 {R : List OV → Prop} {w : aD → aD} {z : List aD} {h h' : aB} (hz : a9D R z) (hw : bJK w) (hl : h.le h') : ∃ r1 g l, Shift (w (.agg z)) h' r1 g ∧ QA R w r1 l ∧ eM h l g := by
 obtain ⟨e, h1, h2, h3⟩ := hz
 exact ⟨_, h, _, Shift.of (hw _ _ h3) hl, ⟨e, h1, rfl, h2.symm⟩, eM.nil h⟩
theorem aWH {R : List OV → Prop} {w : aD → aD} {e : List OV} {h h' g : aB} (hR : R e) (hn : eM h (OV.bZ e) g) (hl : g.le h') : ∃ r1 g l, Shift (w (.agg (e.map OV.val))) h' r1 g ∧ QA R w r1 l ∧ eM h l g :=
 ⟨_, g, _, Shift.of (Sub.refl _) hl, ⟨e, hR, rfl, rfl⟩, hn⟩
theorem aB9 {α : Type} (c : α → aD) (l : List α) (k : Nat) (x : α) : ((l.map fun x => [c x]).map (List.map Cell.v)).set k [Cell.v (c x)] = ((l.set k x).map fun x => [c x]).map (List.map Cell.v) := by
 rw [List.map_map, List.map_map, List.map_set]; rfl
theorem OR.aEB {α : Type} {c : α → aD} : ∀ {l : List α} {es : List (List OV)}, OR (oP c) l es → es = l.map fun x => [.v (c x)]
 | [], [], _ => rfl
 |x :: l, e :: es, h => by rw [List.map_cons, ← OR.aEB h.2, show e = [.v (c x)] from h.1]
 | [], _ :: _, h => h.elim
 | _ :: _, [], h => h.elim
theorem OS.aEB {α : Type} {c : α → aD} {sz : Nat} {l : List α} {y : OV} (h : OS (oP c) sz l y) : (y = .nil sz ∧ l = []) ∨ ∃ n, y = .sl n sz (l.map fun x => [.v (c x)]) := by
 rcases h with h | ⟨n, es, rfl, h⟩
 ·exact .inl h
 ·exact .inr ⟨n, by rw [h.aEB]⟩
theorem OV.pT {α : Type} (c : α → aD) (n sz : Nat) (l : List α) : (OV.sl n sz (l.map fun x => [.v (c x)])).val = .os n sz 0 l.length := by rw [OV.p9, List.length_map]
theorem eM.a08 {h g : aB} (e1 : List OV) {e2 : List OV} {n sz : Nat} {es : List (List OV)} (x : eM h (OV.bZ (e1 ++ OV.sl n sz es :: e2)) g) : g n = some (.row sz (OV.cells es)) :=
 x.fI (n, _) (by rw [OV.jL, OV.bL, OV.eV]; simp)
theorem eM.aRK {α : Type} {c : α → aD} {h g : aB} (e1 : List OV) {e2 : List OV} {n sz : Nat} {l : List α} (x : eM h (OV.bZ (e1 ++ OV.sl n sz (l.map fun x => [.v (c x)]) :: e2)) g) : g n = some (.row sz ((l.map fun x => [c x]).map (List.map .v))) := by
 rw [x.a08 e1, rD]
theorem eM.bJL {h g : aB} (e1 : List OV) {e2 : List OV} {n sz : Nat} {es es' : List (List OV)} (x : eM h (OV.bZ (e1 ++ OV.sl n sz es :: e2)) g) (h0 : OV.bP es' = OV.bP es) :
  eM h (OV.bZ (e1 ++ OV.sl n sz es' :: e2)) (bK g n (.row sz (OV.cells es'))) := by
 rw [OV.jL, OV.bL, OV.eV] at x ⊢
 rw [h0]
 have o1 := x.fI.right.left
 have nd := jC x.nodup
 exact x.field (kE.set o1 nd)
theorem eM.aYO {α : Type} {c : α → aD} {h g : aB} (e1 : List OV) {e2 : List OV} {n sz : Nat} {l l' : List α} (x : eM h (OV.bZ (e1 ++ OV.sl n sz (l.map fun x => [.v (c x)]) :: e2)) g) :
  eM h (OV.bZ (e1 ++ OV.sl n sz (l'.map fun x => [.v (c x)]) :: e2)) (bK g n (.row sz ((l'.map fun x => [c x]).map (List.map .v)))) := by
 rw [← rD]; exact x.bJL e1 (by rw [tC, tC])
theorem eM.tT {h g : aB} (e1 : List OV) {e2 : List OV} {n sz : Nat} {es : List (List OV)} {m sz' : Nat} {es' : List (List OV)} (x : eM h (OV.bZ (e1 ++ OV.sl n sz es :: e2)) g) (hm : OV.sl m sz' es' ∈ e2) : n ≠ m := by
 have nd := x.nodup
 rw [OV.jL, OV.bL, OV.eV, dW] at nd
 have n2 := (List.nodup_append.1 nd).2.1
 rw [List.cons_append] at n2
 simp only [bR, List.map_cons, List.map_append, List.nodup_cons, List.mem_append, not_or] at n2
 intro e
 refine n2.1.2 ?_
 subst e
 exact List.mem_map.2 ⟨(n, .row sz' (OV.cells es')), OV.aD4 hm (by rw [OV.eV]; exact List.mem_cons_self), rfl⟩
theorem lM {g : aB} {n m : Nat} {o : bM} (hn : g n = some o) (hm : g m = none) : n ≠ m := fun e => by rw [e, hm] at hn; cases hn
theorem tF {P : Program} {N : Nat} {keep ib : List Nat} {mk : Marks} {c : Code} {Q : Exit → cG → aB → Prop} {τ : cG} {h : aB} {t : Tag (Code.loop c, Q)} {α : Type} (hmix : P.follows .mixedOrders = true) (hc : j3 N mk c = true) (S : α → cG) (side : α → Prop) (μ : α → Nat) (x₀ : α)
  (h₀ : dA (S x₀) τ ∧ side x₀)
  (round : ∀ x, side x → tA P N keep ib mk c (fun τ' h' => ∃ x', dA (S x') τ' ∧ h.le h' ∧ side x' ∧ μ x' < μ x) Q (S x) h ()) : aNG P N (.loop c) Q τ h t :=
 cS hmix hc S (fun _ => h) side μ x₀ ⟨h₀.1, aB.le_refl _, h₀.2⟩ round
theorem aAN {h : aB} {n : Nat} {o : bM} (hn : h n = some o) : bK h n o = h := by
 funext q; simp only [dZ]; split
 ·subst_vars; exact hn.symm
 ·rfl
theorem aN8 {P : Program} {N : Nat} {keep ib : List Nat} {mk : Marks} {c : Code} {Q : Exit → cG → aB → Prop} {τ : cG} {h : aB} {t : Tag (Code.loop c, Q)} {α : Type} (hmix : P.follows .mixedOrders = true) (hc : j3 N mk c = true) (S : α → cG) (n : Nat) (R : α → bM) (side : α → Prop) (μ : α → Nat) (x₀ : α)
  (h₀ : dA (S x₀) τ ∧ h n = some (R x₀) ∧ side x₀)
  (round : ∀ x, side x → tA P N keep ib mk c (fun τ' h' => ∃ x', dA (S x') τ' ∧ (bK h n (R x')).le h' ∧ side x' ∧ μ x' < μ x) Q (S x) (bK h n (R x)) ()) : aNG P N (.loop c) Q τ h t :=
 cS hmix hc S (fun x => bK h n (R x)) side μ x₀ ⟨h₀.1, by simp only [aAN h₀.2.1]; exact aB.le_refl _, h₀.2.2⟩ round
theorem aB.fT {g h : aB} {n : Nat} {o : bM} (hl : g.le h) : (bK g n o).le (bK h n o) := fun q => by
 simp only [dZ]; split
 ·exact .inr rfl
 ·exact hl q
def a09 (h0 : aB) (nb sz : Nat) (Q : aD → List OV → Prop) : aD → aB → Prop := fun r h' => ∃ e' g', Q r e' ∧ h' = bK g' nb (.row sz (OV.cells [e'])) ∧ g' nb = none ∧ eM h0 (OV.bZ e') g'
theorem eM.wO {h g : aB} {l : List (Nat × bM)} {n : Nat} {o : bM} (w : eM h l g) (hn : g n = none) : eM (bK h n o) l (bK g n o) := by
 have hne : ∀ m ∈ bR l, m ≠ n := fun m hm e => by
  obtain ⟨x, hx⟩ := dH.1 hm
  have := w.fI (m, x) hx
  rw [e, hn] at this; cases this
 refine ⟨w.nodup, fun m hm => ?_, fun p hp => ?_, fun m hm => ?_⟩
 ·rw [aC _ _ _ _ (hne m hm)]; exact w.fresh m hm
 ·rw [aC _ _ _ _ (hne p.1 (dH.2 ⟨p.2, hp⟩))]; exact w.fI p hp
 ·simp only [dZ]; split
  ·rfl
  ·exact w.upto m hm
theorem eM.base {h g : aB} {l : List (Nat × bM)} {n : Nat} {o : bM} (w : eM (bK h n o) l g) (hn : h n = none) : ∃ g', g'.le g ∧ eM h l g' ∧ g' n = none ∧ g = bK g' n o := by
 have hne : ∀ m ∈ bR l, m ≠ n := fun m hm e => by
  have := w.fresh m hm
  rw [e, aU] at this; cases this
 have hg : g n = some o := by
  rw [w.upto n (fun hm => hne n hm rfl), aU]
 refine ⟨fun m => if m = n then none else g m, fun m => ?_, ⟨w.nodup, fun m hm => ?_, fun p hp => ?_, fun m hm => ?_⟩, by simp, ?_⟩
 ·by_cases e : m = n <;> simp [e]
 ·have := w.fresh m hm; rwa [aC _ _ _ _ (hne m hm)] at this
 ·simp only [if_neg (hne p.1 (dH.2 ⟨p.2, hp⟩))]; exact w.fI p hp
 ·show (if m = n then none else g m) = h m
  split
  ·subst_vars; exact hn.symm
  ·rename_i e; rw [w.upto m hm, aC _ _ _ _ e]
 ·funext m; simp only [dZ]; split
  ·subst_vars; exact hg
  ·rename_i e; simp
theorem iS (e : List OV) : OV.cells [e] = [e.map fun c => Cell.v c.val] := rfl
theorem View.box {T : List aD} {g : aB} {nb sz : Nat} {e : List OV} (hd : e.map OV.mK = T) (hn : g nb = none) (ho : fJ g (OV.bZ e)) : View (bK g nb (.row sz (OV.cells [e]))) (.op nb sz 0 0) (.ip sz [T] 0 0) := by
 have := View.op (h := bK g nb (.row sz (OV.cells [e]))) (n := nb) (sz := sz) (i := 0) (off := 0) [e] (by rw [aU]) (by simp) (by
  have h1 : OV.bP [e] = OV.bZ e := by simp [OV.bP]
  rw [h1]; exact ho.up hn)
 have h2 : OV.cN [e] = [T] := by rw [OV.kA]; simp [hd]
 rwa [h2] at this
theorem eM.le {h g : aB} {l : List (Nat × bM)} (w : eM h l g) : h.le g := fun q => by
 by_cases hq : q ∈ bR l
 ·exact .inl (w.fresh q hq)
 ·exact .inr (w.upto q hq).symm
theorem aYP {α : Type} {A B : List α} {x y : α} : (A ++ x :: B).set A.length y = A ++ y :: B := by simp
theorem eM.a9E {h g g2 : aB} (e1 : List OV) {e2 : List OV} {n sz : Nat} {es : List (List OV)} {k : Nat} {enew : List OV} (x : eM h (OV.bZ (e1 ++ OV.sl n sz es :: e2)) g) (y : eM g (OV.bZ enew) g2) (hk : k < es.length) :
  ∃ g3, g3.le (bK g2 n (.row sz (OV.cells (es.set k enew)))) ∧ eM h (OV.bZ (e1 ++ OV.sl n sz (es.set k enew) :: e2)) g3 := by
 obtain ⟨A, old, B, rfl, hA⟩ : ∃ A old B, es = A ++ old :: B ∧ A.length = k := ⟨es.take k, es[k], es.drop (k + 1), by simp, by simp; omega⟩
 subst hA
 rw [aYP]
 have z := x.append y
 rw [OV.jL, OV.bL, OV.eV, bH, bB] at z
 have z2 := z.perm (b := OV.bZ old ++ (OV.bZ e1 ++ ((n, .row sz (OV.cells (A ++ old :: B))) :: (OV.bP A ++ (OV.bZ enew ++ OV.bP B)) ++ OV.bZ e2))) (by
  classical
  rw [List.perm_iff_count]
  intro q
  simp only [List.count_append, List.cons_append, List.count_cons]
  omega)
 have z3 := z2.drop
 refine ⟨bK (lX g2 (bR (OV.bZ old))) n (.row sz (OV.cells (A ++ enew :: B))), aB.fT (aQ9 _ _), ?_⟩
 rw [OV.jL, OV.bL, OV.eV, bH, bB]
 exact z3.field (l := (n, .row sz (OV.cells (A ++ old :: B))) :: (OV.bP A ++ (OV.bZ enew ++ OV.bP B))) (kE.set z3.fI.right.left (jC z3.nodup))
theorem aHB (es : List (List OV)) (k : Nat) (e : List OV) (c : List Cell) (hc : c = e.map fun c => Cell.v c.val) : (OV.cells es).set k c = OV.cells (es.set k e) := by
 rw [hc, OV.cells, OV.cells, List.map_set]
theorem aME {es : List (List OV)} {k : Nat} {e : List OV} (h : es[k]? = some e) : (OV.cells es)[k]? = some (e.map fun c => Cell.v c.val) := by
 rw [OV.cells, List.getElem?_map, h]; rfl
theorem OR.bCX {α : Type} {R : α → List OV → Prop} : ∀ {l : List α} {es : List (List OV)}, OR R l es → ∀ (k : Nat) x, l[k]? = some x → ∃ e, es[k]? = some e ∧ R x e
 | [], [], _, k, x, h => by simp at h
 |a :: l, b :: es, h, 0, x, e => by simp at e; subst e; exact ⟨b, rfl, h.1⟩
 |a :: l, b :: es, h, k + 1, x, e => OR.bCX h.2 k x (by simpa using e)
 | [], _ :: _, h, _, _, _ => h.elim
 | _ :: _, [], h, _, _, _ => h.elim
theorem OR.set {α : Type} {R : α → List OV → Prop} : ∀ {l : List α} {es : List (List OV)}, OR R l es → ∀ (k : Nat) x e, R x e → OR R (l.set k x) (es.set k e)
 | [], [], _, k, x, e, _ => by simp [OR]
 |a :: l, b :: es, h, 0, x, e, he => ⟨he, h.2⟩
 |a :: l, b :: es, h, k + 1, x, e, he => ⟨h.1, OR.set h.2 k x e he⟩
 | [], _ :: _, h, _, _, _, _ => h.elim
 | _ :: _, [], h, _, _, _, _ => h.elim
theorem OS.some {α : Type} {R : α → List OV → Prop} {sz : Nat} {l : List α} {y : OV} (h : OS R sz l y) (hl : 0 < l.length) : ∃ n es, y = .sl n sz es ∧ OR R l es := by
 rcases h with ⟨_, h⟩ | h
 ·rw [h] at hl; simp at hl
 ·exact h
def leX (S : List Nat) (g h : aB) : Prop := ∀ q, q ∉ S → g q = none ∨ g q = h q
theorem jJ {g h : aB} (x : leX [] g h) : g.le h := fun q => x q (by simp)
theorem gJ (S : List Nat) (g : aB) : leX S g g := fun q _ => .inr rfl
theorem jK {S : List Nat} {g h : aB} {n : Nat} {o : bM} (hn : h n = some o) (x : leX (n :: S) g h) : leX S (bK g n o) h := fun q hq => by
 simp only [dZ]; split
 ·subst_vars; exact .inr hn.symm
 ·rename_i e; exact x q (by simp only [List.mem_cons, not_or]; exact ⟨e, hq⟩)
theorem fM {S : List Nat} {g h : aB} {n : Nat} {o : bM} (hn : n ∈ S ∨ g n = none) (x : leX S g h) : leX S g (bK h n o) := fun q hq => by
 simp only [dZ]; split
 ·subst_vars
  rcases hn with hn | hn
  ·exact absurd hn hq
  ·exact .inl hn
 ·exact x q hq
theorem aB.le_none {g h : aB} (hl : g.le h) {n : Nat} (hn : h n = none) : g n = none := by
 rcases hl n with e | e
 ·exact e
 ·rw [e, hn]
theorem fO.wk {P : Program} {f : FuncId} {args : List aD} {g h : aB} {K : aD → aB → Prop} (hl : g.wk h) (a : fO P f args g K) : fO P f args h K :=
 ⟨a.1, fun E w vs R r => by
  obtain ⟨R', hi⟩ := hl E w R
  exact (a.2 E w vs R' (eO.vM hi r)).mono fun e w' q => by
   cases e with
   |returned v =>
    obtain ⟨r, h', E', k, ev, R2, r2⟩ := q
    exact ⟨r, h', E', k, (hl.ev R).trans ev, R2, r2⟩
   | _ => exact q.elim⟩
theorem aJ.wk {P : Program} {f : FuncId} {args : List aD} {g h : aB} {K : aD → aB → Prop} {t : Tag K} (hl : g.wk h) (a : aJ P f args g K t) : aJ P f args h K t := fO.wk hl a
theorem fO.shift {P : Program} {f : FuncId} {args : List aD} {h : aB} {K K' : aD → aB → Prop} (a : fO P f args h K') (hk : ∀ r h', K' r h' → ∃ g : aB, g.wk h' ∧ K r g) : fO P f args h K :=
 ⟨a.1, fun E w vs R r => by
  exact (a.2 E w vs R r).mono fun e w' q => by
   cases e with
   |returned v =>
    obtain ⟨r, h', E', k, ev, R2, r2⟩ := q
    obtain ⟨g, hg, k'⟩ := hk r h' k
    obtain ⟨R3, hi⟩ := hg E' w' R2
    exact ⟨r, g, E', k', ev.trans (hg.ev R2), R3, fL.vM hi r2⟩
   | _ => exact q.elim⟩
theorem gD.setAt {xs ys : List aD} (s : cD xs ys) : ∀ (l : List (List Cell)) (k : Nat), gD (l.set k (xs.map .v)) (l.set k (ys.map .v))
 | [], k => by simp [gD]
 |a :: l, 0 => by
  have h := gD.sub s []
  exact ⟨h.1, gD.refl l⟩
 |a :: l, k + 1 => ⟨(gD.refl [a]).1, gD.setAt s l k⟩
def upL (c : List Int) (k : Nat) : List Int := c.take k ++ List.replicate (c.length - k) 0
theorem a58 (n : Nat) : (List.replicate n [aD.int .i64 0]).map (List.map Cell.v) = ((List.replicate n (0 : Int)).map fun n => [aD.int .i64 n]).map (List.map Cell.v) := by simp
set_option linter.unusedVariables false
set_option linter.unusedSimpArgs false
theorem kO {P : Program} {f : FuncId} {fn : Func} {c : Code} (N : Nat) (keep ib : List Nat) (mk : Marks) {args : List aD} {h : aB} {K : aD → aB → Prop} (hmix : P.follows .mixedOrders = true) (hf : P.funcs[f]? = some fn) (hb : fn.body = some c)
  (hck : (nA P f && decide (fn.ntmps = N) && j3 N mk c) = true) (hl : args.length ≤ N)
  (hw : tA P N keep ib mk c (fun τ h' => uW P fn.results (fun r h' => ∃ r1 g, Shift r h' r1 g ∧ K r1 g) () .normal τ h') (uW P fn.results (fun r h' => ∃ r1 g, Shift r h' r1 g ∧ K r1 g) ()) (uT 0 args) h ()) : fO P f args h K :=
 uV (fn := fn) (c := c) (N := N) (aIZ N keep ib mk hmix hf hb hck hl (K' := fun r h' => ∃ r1 g, Shift r h' r1 g ∧ K r1 g) (K := fun r h' => ∃ r1 g, Shift r h' r1 g ∧ K r1 g) hw fun _ h' hx => ⟨h', aB.le_refl _, hx⟩) fun r h' hx => hx
theorem eO.uP {E : Env} {h : aB} {w : World} (R : Rel E h w) {n sz : Nat} {es : List (List Cell)} (hn : h n = some (.row sz es)) : ∀ {xs : List aD} {vs : List Value}, eO E h w xs vs → iC n sz es.length xs = true → eO E (bK h n .gone) w (nQ n (gF es) xs) vs
 | [], [], _, _ => trivial
 |x :: xs, v :: vs, r, hb => by
  simp only [iC, Bool.and_eq_true] at hb
  exact ⟨r.1.uP R hn hb.1, eO.uP R hn r.2 hb.2⟩
 | [], _ :: _, r, _ => r.elim
 | _ :: _, [], r, _ => r.elim
theorem aJ.a16 {P : Program} {f : FuncId} {args : List aD} {h : aB} {K : aD → aB → Prop} {t : Tag K} (n : Nat) {sz : Nat} {es : List (List Cell)} (hn : h n = some (.row sz es)) (hb : iC n sz es.length args = true)
  (a : fO P f (nQ n (gF es) args) (bK h n .gone) K) : aJ P f args h K t :=
 ⟨a.1, fun E w vs R r => (a.2 E w vs (R.gone hn) (r.uP R hn hb)).mono fun e w' q => by
  cases e with
  |returned v =>
   obtain ⟨r, h', E', k, ev, R2, r2⟩ := q
   exact ⟨r, h', E', k, (Ev.gone n).trans ev, R2, r2⟩
  | _ => exact q.elim⟩
set_option linter.unusedVariables false
set_option linter.unusedSimpArgs false
set_option linter.unusedVariables false
set_option linter.unusedSimpArgs false
end Go.Hl

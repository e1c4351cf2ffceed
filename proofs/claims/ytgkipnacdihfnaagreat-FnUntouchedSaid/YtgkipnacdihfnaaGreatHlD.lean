/-
  Contracts of functions and laws of the layer over the walk.
-/
import Derived.Test.YtgkipnacdihfnaaGreatHlC
namespace Go.Hl
set_option linter.unusedVariables false
set_option linter.unusedSimpArgs false
inductive OV where
 |v (x : aD)
 |nil (sz : Nat)
 |sl (n sz : Nat) (es : List (List OV))
def OV.val : OV → aD
 | .v x => x
 | .nil sz => .sl sz [] true
 | .sl n sz es => .os n sz 0 es.length
mutual
def OV.sZ : OV → aD
 | .v x => x
 | .nil sz => .sl sz [] false
 | .sl n sz es => .sl sz (OV.kP es) false
def OV.kP : List (List OV) → List (List aD)
 | [] => []
 |e :: es => OV.aKH e :: OV.kP es
def OV.aKH : List OV → List aD
 | [] => []
 |x :: e => x.sZ :: OV.aKH e
end
theorem OV.wH : ∀ (e : List OV), OV.aKH e = e.map OV.sZ
 | [] => rfl
 |x :: e => by rw [OV.aKH, OV.wH e]; rfl
theorem OV.nG : ∀ (es : List (List OV)), OV.kP es = es.map (List.map OV.sZ)
 | [] => rfl
 |e :: es => by rw [OV.kP, OV.nG es, OV.wH]; rfl
def OV.cells (es : List (List OV)) : List (List Cell) := es.map (List.map fun c => Cell.v c.val)
mutual
def OV.rows : OV → List (Nat × cB)
 | .v _ => []
 | .nil _ => []
 | .sl n sz es => (n, .row sz (OV.cells es)) :: OV.cC es
def OV.cC : List (List OV) → List (Nat × cB)
 | [] => []
 |e :: es => OV.b5 e ++ OV.cC es
def OV.b5 : List OV → List (Nat × cB)
 | [] => []
 |x :: e => x.rows ++ OV.b5 e
end
theorem OV.aAC : ∀ {es : List (List OV)} {e : List OV} {p : Nat × cB}, e ∈ es → p ∈ OV.b5 e → p ∈ OV.cC es
 |y :: es, e, p, he, hp => by
  rw [OV.cC]
  rcases List.mem_cons.1 he with rfl | he
  ·exact List.mem_append_left _ hp
  ·exact List.mem_append_right _ (OV.aAC he hp)
def qV (h : aA) (l : List (Nat × cB)) : Prop := ∀ p ∈ l, h p.1 = some p.2
def kQ (h : aA) (S : List Nat) : aA := fun m => if m ∈ S then (h m).map fun _ => .gone else h m
theorem sJ {h : aA} {S : List Nat} {m : Nat} {o : cB} (hm : m ∈ S) (ho : kQ h S m = some o) : o = .gone := by
 simp only [kQ, if_pos hm, Option.map_eq_some_iff] at ho
 obtain ⟨_, _, rfl⟩ := ho; rfl
theorem mO {h : aA} {S : List Nat} {m : Nat} (hm : m ∉ S) : kQ h S m = h m := by simp only [kQ, if_neg hm]
theorem qH {E : Env} {h : aA} {w : World} (S : List Nat) (b : Nat) (i : pF E h w b) : pF E (kQ h S) w b :=
 ⟨i.1, fun m o hm ho => by
  by_cases e : m ∈ S
  ·rw [sJ e hm] at ho; exact ho.elim
  ·rw [mO e] at hm; exact i.2 m o hm ho⟩
theorem aKI {E : Env} {h : aA} {w : World} (R : Rel E h w) {S : List Nat} {n : Nat} (hS : n ∈ S) {x : cB} (hn : h n = some x) (hx : x.live) (b : Nat) (hb : E.fp n b) : pF E (kQ h S) w b :=
 ⟨R.lt n x b hn hx hb, fun m o hm ho hf => by
  by_cases e : m ∈ S
  ·rw [sJ e hm] at ho; exact ho.elim
  ·rw [mO e] at hm
   have := R.apart m o n x b hm ho hn hx hf hb
   exact e (this ▸ hS)⟩
theorem Rel.kQ {E : Env} {h : aA} {w : World} (R : Rel E h w) (S : List Nat) : Rel E (kQ h S) w := by
 refine ⟨R.fin, fun m hm => ?_, ?_, ?_, ?_, R.laid.rG (qH S)⟩
 ·by_cases e : m ∈ S
  ·refine R.dom m fun q => hm ?_
   simp only [Hl.kQ, if_pos e, q, Option.map_none]
  ·rw [mO e] at hm; exact R.dom m hm
 ·intro m o b hm ho
  by_cases e : m ∈ S
  ·rw [sJ e hm] at ho; exact ho.elim
  ·rw [mO e] at hm; exact R.lt m o b hm ho
 ·intro m o m' o' b hm ho hm' ho'
  by_cases e : m ∈ S
  ·rw [sJ e hm] at ho; exact ho.elim
  ·by_cases e' : m' ∈ S
   ·rw [sJ e' hm'] at ho'; exact ho'.elim
   ·rw [mO e] at hm; rw [mO e'] at hm'; exact R.apart m o m' o' b hm ho hm' ho'
 ·intro m o hm
  by_cases e : m ∈ S
  ·rw [sJ e hm]; trivial
  ·rw [mO e] at hm; exact (R.obj m o hm).rG fun b => qH S b
theorem Ev.kQ {E : Env} {h : aA} {w : World} (S : List Nat) : Ev E h w E (kQ h S) w :=
 ⟨Nat.le_refl _, fun b hb => ⟨rfl, qH S b hb⟩, fun _ _ => rfl, fun _ hn => ⟨rfl, hn⟩, rfl, rfl⟩
mutual
theorem fL.aGR {E : Env} {h : aA} {w : World} (R : Rel E h w) {S : List Nat} : ∀ (x : OV), qV h x.rows → (∀ p ∈ x.rows, p.1 ∈ S) → ∀ v, fL E h w x.val v → fL E (Hl.kQ h S) w x.sZ v
 | .v x, _, _, v, r => fL.rG (fun b => qH S b) r
 | .nil sz, _, _, v, r => Sub.loose sz [] true _ _ _ _ (fL.rG (fun b => qH S b) (show fL E h w (.sl sz [] true) v from r))
 | .sl n sz es, ho, hS, v, r => by
  have hn : h n = some (.row sz (OV.cells es)) := ho (n, _) (by rw [OV.rows]; exact List.mem_cons_self)
  have hnS : n ∈ S := hS (n, _) (by rw [OV.rows]; exact List.mem_cons_self)
  simp only [OV.val] at r
  simp only [OV.sZ]
  have hcells : ∀ i j y, iW (OV.cells es) i j = some y → ∃ c, iW es i j = some c ∧ y = .v c.val := by
   intro i j y hy
   rw [OV.cells, pJ] at hy
   obtain ⟨c, hc, rfl⟩ := Option.map_eq_some_iff.1 hy
   exact ⟨c, hc, rfl⟩
  have hdat : ∀ i j y, iW (OV.kP es) i j = some y → ∃ c, iW es i j = some c ∧ y = c.sZ := by
   intro i j y hy
   rw [OV.nG, pJ] at hy
   obtain ⟨c, hc, rfl⟩ := Option.map_eq_some_iff.1 hy
   exact ⟨c, hc, rfl⟩
  have hlen : (OV.kP es).length = es.length := by rw [OV.nG, List.length_map]
  have key : ∀ L, L = es.length → fL E h w (.os n sz 0 L) v → fL E (Hl.kQ h S) w (.sl sz (OV.kP es) false) v := by
   intro L hL r
   cases r with
   |os0 _ _ hd hl =>
    have : es = [] := List.eq_nil_of_length_eq_zero hL.symm
    subst this
    exact .sl0 sz false none 0 (fun _ => rfl) (by simp [maxLen]) trivial
   |os _ _ _ _ b o cap t m hd hl hlc hmax hsh hm =>
    obtain ⟨b', o', hl', hbS, hs, cs, ct, cv, T, hh, hm', hT, hD, hc, hrr⟩ := x4 R hn (.inr ⟨_, hl⟩)
    rw [hl] at hl'
    obtain ⟨rfl, rfl⟩ := Prod.mk.inj (Option.some.inj hl')
    have himm : ∀ c, E.fp n c → pF E (Hl.kQ h S) w c := fun c hc => aKI R hnS hn trivial c hc
    have hcs : ∀ i j y, iW (OV.kP es) i j = some y → ∃ c, iW es i j = some c ∧ y = c.sZ ∧ cs[o + i * sz + j]? = some (cv i j) ∧ (cv i j).oneCell' = true ∧ fL E h w c.val (cv i j) := by
     intro i j y hy
     obtain ⟨c, hc1, rfl⟩ := hdat i j y hy
     have hcell : iW (OV.cells es) i j = some (.v c.val) := by rw [OV.cells, pJ, hc1]; rfl
     have h2 := hrr i j _ hcell
     cases h2 with
     |v x c' S' h1 hx => exact ⟨c, hc1, rfl, hc i j _ hcell, h1, hx⟩
    have := fL.sl (E := E) (h := Hl.kQ h S) (w := w) sz (OV.kP es) false b (o + 0 * sz) cap cv (himm b hbS) (by rw [hlen, ← hL]; exact hlc) hmax (fun e => by simp at e)
     (fun e he => by
      rw [OV.nG, List.mem_map] at he
      obtain ⟨e', he', rfl⟩ := he
      have := hs (e'.map fun c => Cell.v c.val) (List.mem_map.2 ⟨e', he', rfl⟩)
      simpa using this)
     (fun i j y hy => by
      obtain ⟨c, _, _, h1, _, _⟩ := hcs i j y hy
      simp only [World.cell?, hh]
      rw [← h1]
      simp)
     (fun i j y hy => by obtain ⟨c, _, _, _, h1, _⟩ := hcs i j y hy; exact h1)
     (fun i j y hy => by
      obtain ⟨c, hc1, rfl, _, _, h1⟩ := hcs i j y hy
      obtain ⟨e, he, hj⟩ := mH hc1
      exact aDD R es (fun p hp => ho p (by rw [OV.rows]; exact List.mem_cons_of_mem _ hp)) (fun p hp => hS p (by rw [OV.rows]; exact List.mem_cons_of_mem _ hp)) e (List.mem_of_getElem? he) c (List.mem_of_getElem? hj) _ h1)
    rw [hlen, ← hL] at this
    exact this
  exact key _ rfl r
theorem aDD {E : Env} {h : aA} {w : World} (R : Rel E h w) {S : List Nat} : ∀ (es : List (List OV)), qV h (OV.cC es) → (∀ p ∈ OV.cC es, p.1 ∈ S) → ∀ e ∈ es, ∀ c ∈ e, ∀ v, fL E h w c.val v → fL E (Hl.kQ h S) w c.sZ v
 | [], _, _, e, he, _, _, _, _ => by simp at he
 |a :: es, ho, hS, e, he, c, hc, v, r => by
  rcases List.mem_cons.1 he with h1 | h1
  ·rw [h1] at hc
   exact aN3 R a (fun p hp => ho p (by rw [OV.cC]; exact List.mem_append_left _ hp)) (fun p hp => hS p (by rw [OV.cC]; exact List.mem_append_left _ hp)) c hc v r
  ·exact aDD R es (fun p hp => ho p (by rw [OV.cC]; exact List.mem_append_right _ hp)) (fun p hp => hS p (by rw [OV.cC]; exact List.mem_append_right _ hp)) e h1 c hc v r
theorem aN3 {E : Env} {h : aA} {w : World} (R : Rel E h w) {S : List Nat} : ∀ (e : List OV), qV h (OV.b5 e) → (∀ p ∈ OV.b5 e, p.1 ∈ S) → ∀ c ∈ e, ∀ v, fL E h w c.val v → fL E (Hl.kQ h S) w c.sZ v
 | [], _, _, c, hc, _, _ => by simp at hc
 |a :: e, ho, hS, c, hc, v, r => by
  rcases List.mem_cons.1 hc with h1 | h1
  ·rw [h1] at r ⊢
   exact fL.aGR R a (fun p hp => ho p (by rw [OV.b5]; exact List.mem_append_left _ hp)) (fun p hp => hS p (by rw [OV.b5]; exact List.mem_append_left _ hp)) v r
  ·exact aN3 R e (fun p hp => ho p (by rw [OV.b5]; exact List.mem_append_right _ hp)) (fun p hp => hS p (by rw [OV.b5]; exact List.mem_append_right _ hp)) c h1 v r
end
def OR {α : Type} (R : α → List OV → Prop) : List α → List (List OV) → Prop
 | [], [] => True
 |x :: l, e :: es => R x e ∧ OR R l es
 | _, _ => False
def OS {α : Type} (R : α → List OV → Prop) (sz : Nat) (l : List α) (y : OV) : Prop := (y = .nil sz ∧ l = []) ∨ ∃ n es, y = .sl n sz es ∧ OR R l es
def oP {α : Type} (c : α → aD) (x : α) (e : List OV) : Prop := e = [.v (c x)]
theorem OR.length {α : Type} {R : α → List OV → Prop} : ∀ {l : List α} {es : List (List OV)}, OR R l es → l.length = es.length
 | [], [], _ => rfl
 |x :: l, e :: es, h => by simpa using OR.length h.2
 | [], _ :: _, h => h.elim
 | _ :: _, [], h => h.elim
theorem OR.get {α : Type} {R : α → List OV → Prop} : ∀ {l : List α} {es : List (List OV)}, OR R l es → ∀ (i : Nat) x e, l[i]? = some x → es[i]? = some e → R x e
 |x :: l, e :: es, h, 0, y, d, hy, hd => by simp at hy hd; subst hy; subst hd; exact h.1
 |x :: l, e :: es, h, i + 1, y, d, hy, hd => OR.get h.2 i y d (by simpa using hy) (by simpa using hd)
 | [], [], _, i, y, d, hy, _ => by simp at hy
 | [], _ :: _, h, _, _, _, _, _ => h.elim
 | _ :: _, [], h, _, _, _, _, _ => h.elim
theorem OR.append {α : Type} {R : α → List OV → Prop} : ∀ {l l' : List α} {es es' : List (List OV)}, OR R l es → OR R l' es' → OR R (l ++ l') (es ++ es')
 | [], _, [], _, _, h => h
 |x :: l, _, e :: es, _, a, h => ⟨a.1, OR.append a.2 h⟩
 | [], _, _ :: _, _, a, _ => a.elim
 | _ :: _, _, [], _, a, _ => a.elim
theorem OR.sZ {α : Type} {R : α → List OV → Prop} {c : α → List aD} (hR : ∀ x e, R x e → e.map OV.sZ = c x) : ∀ {l : List α} {es : List (List OV)}, OR R l es → OV.kP es = l.map c
 | [], [], _ => rfl
 |x :: l, e :: es, h => by rw [OV.kP, OR.sZ hR h.2, OV.wH, hR x e h.1]; rfl
 | [], _ :: _, h => h.elim
 | _ :: _, [], h => h.elim
theorem OS.sZ {α : Type} {R : α → List OV → Prop} {c : α → List aD} {sz : Nat} {l : List α} {y : OV} (hR : ∀ x e, R x e → e.map OV.sZ = c x) (h : OS R sz l y) : y.sZ = .sl sz (l.map c) false := by
 rcases h with ⟨rfl, rfl⟩ | ⟨n, es, rfl, h⟩
 ·rfl
 ·simp only [OV.sZ, OR.sZ hR h]
def bP (l : List (Nat × cB)) : List Nat := l.map (·.1)
def a7B (S : List Nat) (h h' : aA) : Prop := ∀ m, m ∉ S → h' m = h m
open Go.ChangeShapes Go.WideShapes
set_option linter.unusedVariables false
set_option linter.unusedSimpArgs false
def p7 {α : Type} (s : α → Nat) (l : List α) : Nat := l.length + (l.map s).sum
theorem lC {α : Type} (s : α → Nat) (l : List α) : p7 s l = l.length + (l.map s).sum := rfl
set_option linter.unusedVariables false
set_option linter.unusedSimpArgs false
theorem OV.pM : ∀ (a b : List OV), OV.b5 (a ++ b) = OV.b5 a ++ OV.b5 b
 | [], b => rfl
 |x :: a, b => by rw [List.cons_append, OV.b5, OV.pM a b, OV.b5, List.append_assoc]
theorem OV.rN : ∀ (a b : List (List OV)), OV.cC (a ++ b) = OV.cC a ++ OV.cC b
 | [], b => rfl
 |x :: a, b => by rw [List.cons_append, OV.cC, OV.rN a b, OV.cC, List.append_assoc]
theorem dW (a b : List (Nat × cB)) : bP (a ++ b) = bP a ++ bP b := List.map_append
theorem eW {l : List (Nat × cB)} {m : Nat} : m ∈ bP l ↔ ∃ o, (m, o) ∈ l := by
 simp [bP]
structure fM (h : aA) (l : List (Nat × cB)) (h' : aA) : Prop where
 nodup : (bP l).Nodup
 fresh : ∀ m ∈ bP l, h m = none
 pN : qV h' l
 upto : a7B (bP l) h h'
theorem fM.nil (h : aA) : fM h [] h := ⟨List.nodup_nil, by simp [bP], by simp [qV], fun m _ => rfl⟩
theorem fM.one {h : aA} {n : Nat} {o : cB} (hn : h n = none) : fM h [(n, o)] (aT h n o) :=
 ⟨by simp [bP], by simpa [bP] using hn, by simp [qV], fun m hm => aC _ _ _ _ (by simpa [bP] using hm)⟩
theorem fM.append {h h1 h2 : aA} {a b : List (Nat × cB)} (x : fM h a h1) (y : fM h1 b h2) : fM h (a ++ b) h2 := by
 have dis : ∀ m ∈ bP a, m ∉ bP b := fun m hm hb => by
  obtain ⟨o, ho⟩ := eW.1 hm
  have := y.fresh m hb
  rw [x.pN _ ho] at this; cases this
 refine ⟨?_, ?_, ?_, ?_⟩
 ·rw [dW]
  exact List.nodup_append.2 ⟨x.nodup, y.nodup, fun p hp q hq e => dis p hp (e ▸ hq)⟩
 ·intro m hm
  rw [dW, List.mem_append] at hm
  by_cases hb : m ∈ bP a
  ·exact x.fresh m hb
  ·rcases hm with hm | hm
   ·exact absurd hm hb
   ·rw [← x.upto m hb]; exact y.fresh m hm
 ·intro p hp
  rcases List.mem_append.1 hp with hp | hp
  ·have : p.1 ∈ bP a := eW.2 ⟨p.2, hp⟩
   rw [y.upto p.1 (dis _ this)]; exact x.pN p hp
  ·exact y.pN p hp
 ·intro m hm
  rw [dW, List.mem_append] at hm
  rw [y.upto m fun q => hm (.inr q), x.upto m fun q => hm (.inl q)]
theorem fM.perm {h h' : aA} {a b : List (Nat × cB)} (x : fM h a h') (p : a.Perm b) : fM h b h' :=
 ⟨(p.map _).nodup_iff.1 x.nodup, fun m hm => x.fresh m (((p.map (·.1)).mem_iff).2 hm), fun q hq => x.pN q (p.mem_iff.2 hq), fun m hm => x.upto m fun q => hm (((p.map (·.1)).mem_iff).1 q)⟩
theorem fM.set {h h' : aA} {n : Nat} {o o' : cB} {l : List (Nat × cB)} (x : fM h ((n, o) :: l) h') : fM h ((n, o') :: l) (aT h' n o') := by
 have hnd := x.nodup
 have hn : n ∉ bP l := by
  have : (bP ((n, o) :: l)).Nodup := hnd
  simp only [bP, List.map_cons, List.nodup_cons] at this
  exact this.1
 refine ⟨hnd, x.fresh, ?_, fun m hm => ?_⟩
 ·intro p hp
  rcases List.mem_cons.1 hp with rfl | hp
  ·exact aG _ _ _
  ·have : p.1 ≠ n := fun e => hn (e ▸ eW.2 ⟨p.2, hp⟩)
   rw [aC _ _ _ _ this]; exact x.pN p (List.mem_cons_of_mem _ hp)
 ·have : m ≠ n := fun e => hm (by subst e; simp [bP])
  rw [aC _ _ _ _ this]; exact x.upto m hm
def qA (h : aA) (S : List Nat) : aA := fun m => if m ∈ S then none else h m
theorem aWK (h : aA) (S : List Nat) : (qA h S).le h := fun m => by
 by_cases e : m ∈ S
 ·exact .inl (if_pos e)
 ·exact .inr (if_neg e)
theorem fM.drop {h h' : aA} {a b : List (Nat × cB)} (x : fM h (a ++ b) h') : fM h b (qA h' (bP a)) := by
 have hnd := x.nodup
 rw [dW] at hnd
 obtain ⟨_, nb, dis⟩ := List.nodup_append.1 hnd
 refine ⟨nb, fun m hm => x.fresh m (by rw [dW]; exact List.mem_append_right _ hm), fun p hp => ?_, fun m hm => ?_⟩
 ·have : p.1 ∉ bP a := fun q => dis _ q _ (eW.2 ⟨p.2, hp⟩) rfl
  simp only [qA, if_neg this]
  exact x.pN p (List.mem_append_right _ hp)
 ·by_cases e : m ∈ bP a
  ·simp only [qA, if_pos e]
   exact (x.fresh m (by rw [dW]; exact List.mem_append_left _ e)).symm
  ·simp only [qA, if_neg e]
   exact x.upto m (by rw [dW]; simp [e, hm])
theorem aWL {P : Program} {f : FuncId} {args : List aD} {r : aD} {K : aD → aA → Prop} (h : aA) (a : fF P f args h K)
  (hk : ∀ r' h', K r' h' → ∃ l, fM h l h' ∧ ∀ E w v, Rel E h' w → fL E h' w r' v → fL E (kQ h' (bP l)) w r v) : fF P f args h fun r' h' => r' = r ∧ h' = h :=
 ⟨a.1, fun E w vs R hv => Calls.mono (a.2 E w vs R hv) fun e w' he => by
  cases e <;> try exact he
  obtain ⟨r', h', E', k, ev, R', rx⟩ := he
  obtain ⟨l, nw, hr⟩ := hk r' h' k
  have hle : h.le (kQ h' (bP l)) := fun m => by
   by_cases e : m ∈ bP l
   ·exact .inl (nw.fresh m e)
   ·rw [mO e, nw.upto m e]; exact .inr rfl
  refine ⟨r, h, E', ⟨rfl, rfl⟩, ev.trans ((Ev.kQ _).forget hle), (R'.kQ _).forget hle, ?_⟩
  refine fL.rG (fun b hb => pF.le hle hb) (hr E' w' _ R' rx)⟩
theorem eL.aGR {E : Env} {h : aA} {w : World} (R : Rel E h w) {S : List Nat} : ∀ (e : List OV) (vs : List Value), qV h (OV.b5 e) → (∀ p ∈ OV.b5 e, p.1 ∈ S) → eL E h w (e.map OV.val) vs → eL E (kQ h S) w (e.map OV.sZ) vs
 | [], [], _, _, _ => trivial
 |x :: e, v :: vs, ho, hS, hr => ⟨fL.aGR R x (fun p hp => ho p (by rw [OV.b5]; exact List.mem_append_left _ hp)) (fun p hp => hS p (by rw [OV.b5]; exact List.mem_append_left _ hp)) v hr.1,
   eL.aGR R e vs (fun p hp => ho p (by rw [OV.b5]; exact List.mem_append_right _ hp)) (fun p hp => hS p (by rw [OV.b5]; exact List.mem_append_right _ hp)) hr.2⟩
 | [], _ :: _, _, _, hr => hr.elim
 | _ :: _, [], _, _, hr => hr.elim
theorem fL.aN4 {E : Env} {h : aA} {w : World} (R : Rel E h w) {S : List Nat} (e : List OV) (v : Value) (ho : qV h (OV.b5 e)) (hS : ∀ p ∈ OV.b5 e, p.1 ∈ S) (hr : fL E h w (.agg (e.map OV.val)) v) : fL E (kQ h S) w (.agg (e.map OV.sZ)) v := by
 cases hr with
 |agg _ vs hl hr =>
  have := eL.aGR R e vs ho hS (eL.mk hl hr)
  exact .agg _ vs this.length this.get
theorem aKJ {α : Type} {c : α → aD} {x : α} {e : List OV} (h : oP c x e) : e.map OV.sZ = [c x] := by
 unfold oP at h; subst h; rfl
set_option linter.unusedVariables false
set_option linter.unusedSimpArgs false
structure aDE (h : aA) (T : List Nat) (l : List (Nat × cB)) (h' : aA) : Prop where
 nodup : (T ++ bP l).Nodup
 fresh : ∀ m ∈ T ++ bP l, h m = none
 there : ∀ m ∈ T, h' m ≠ none
 pN : qV h' l
 upto : a7B (T ++ bP l) h h'
theorem aDE.bDN {h h' : aA} {l : List (Nat × cB)} (x : aDE h [] l h') : fM h l h' := ⟨x.nodup, x.fresh, x.pN, x.upto⟩
theorem fM.toT {h h' : aA} {l : List (Nat × cB)} (x : fM h l h') : aDE h [] l h' := ⟨x.nodup, x.fresh, by simp, x.pN, x.upto⟩
theorem aDE.drop {h h' : aA} {T : List Nat} {l : List (Nat × cB)} (x : aDE h T l h') : fM h l (qA h' T) := by
 obtain ⟨_, nb, dis⟩ := List.nodup_append.1 x.nodup
 refine ⟨nb, fun m hm => x.fresh m (List.mem_append_right _ hm), fun p hp => ?_, fun m hm => ?_⟩
 ·have : p.1 ∉ T := fun q => dis _ q _ (eW.2 ⟨p.2, hp⟩) rfl
  simp only [qA, if_neg this]
  exact x.pN p hp
 ·by_cases e : m ∈ T
  ·simp only [qA, if_pos e]
   exact (x.fresh m (List.mem_append_left _ e)).symm
  ·simp only [qA, if_neg e]
   exact x.upto m (by simp [e, hm])
theorem aDE.some {h h' : aA} {T : List Nat} {l : List (Nat × cB)} (x : aDE h T l h') {m : Nat} (hm : m ∈ T ++ bP l) : h' m ≠ none := by
 rcases List.mem_append.1 hm with hm | hm
 ·exact x.there m hm
 ·obtain ⟨o, ho⟩ := eW.1 hm
  rw [x.pN _ ho]; simp
theorem aDE.row {h h' : aA} {T : List Nat} {l : List (Nat × cB)} (x : aDE h T l h') {n : Nat} {o : cB} (hn : h' n = none) : aDE h T ((n, o) :: l) (aT h' n o) := by
 have hn1 : n ∉ T ++ bP l := fun q => x.some q hn
 have nd := List.nodup_append.1 x.nodup
 refine ⟨List.nodup_append.2 ⟨nd.1, ?_, ?_⟩, ?_, ?_, fun p hp => ?_, fun m hm => ?_⟩
 ·show (n :: bP l).Nodup
  exact List.nodup_cons.2 ⟨fun q => hn1 (List.mem_append_right _ q), nd.2.1⟩
 ·intro a ha b hb e
  have hb' : b ∈ n :: bP l := hb
  rcases List.mem_cons.1 hb' with rfl | hb'
  ·exact hn1 (e ▸ List.mem_append_left _ ha)
  ·exact nd.2.2 a ha b hb' e
 ·intro m hm
  rcases List.mem_append.1 hm with hm | hm
  ·exact x.fresh m (List.mem_append_left _ hm)
  ·have hm' : m ∈ n :: bP l := hm
   rcases List.mem_cons.1 hm' with rfl | hm'
   ·rw [← x.upto m hn1]; exact hn
   ·exact x.fresh m (List.mem_append_right _ hm')
 ·intro m hm
  have : m ≠ n := fun e => hn1 (e ▸ List.mem_append_left _ hm)
  rw [aC _ _ _ _ this]; exact x.there m hm
 ·rcases List.mem_cons.1 hp with rfl | hp
  ·exact aG _ _ _
  ·have : p.1 ≠ n := fun e => hn1 (e ▸ List.mem_append_right _ (eW.2 ⟨p.2, hp⟩))
   rw [aC _ _ _ _ this]; exact x.pN p hp
 ·have h1 : m ≠ n := fun e => hm (e ▸ List.mem_append_right _ (by simp [bP]))
  rw [aC _ _ _ _ h1]
  refine x.upto m fun q => hm ?_
  rcases List.mem_append.1 q with q | q
  ·exact List.mem_append_left _ q
  ·exact List.mem_append_right _ (List.mem_cons_of_mem _ q)
theorem fM.keep {h h' : aA} {l : List (Nat × cB)} (x : fM h l h') {n : Nat} {o : cB} (hn : h n = some o) : h' n = some o := by
 rw [x.upto n fun q => by rw [x.fresh n q] at hn; cases hn]; exact hn
theorem aDE.set {h h' : aA} {T : List Nat} {n : Nat} {o o' : cB} {l : List (Nat × cB)} (x : aDE h T ((n, o) :: l) h') : aDE h T ((n, o') :: l) (aT h' n o') := by
 have nd := List.nodup_append.1 x.nodup
 have nd2 : (n :: bP l).Nodup := nd.2.1
 refine ⟨x.nodup, x.fresh, fun m hm => ?_, fun p hp => ?_, fun m hm => ?_⟩
 ·by_cases e : m = n
  ·subst e; simp
  ·rw [aC _ _ _ _ e]; exact x.there m hm
 ·rcases List.mem_cons.1 hp with rfl | hp
  ·exact aG _ _ _
  ·have : p.1 ≠ n := fun e => (List.nodup_cons.1 nd2).1 (e ▸ eW.2 ⟨p.2, hp⟩)
   rw [aC _ _ _ _ this]; exact x.pN p (List.mem_cons_of_mem _ hp)
 ·have h1 : m ≠ n := fun e => hm (e ▸ List.mem_append_right _ (by simp [bP]))
  rw [aC _ _ _ _ h1]; exact x.upto m hm
theorem aGS {α : Type} {c : α → aD} : ∀ (l : List α), OR (oP c) l (l.map fun x => [.v (c x)])
 | [] => trivial
 |x :: l => ⟨rfl, aGS l⟩
theorem qI {α : Type} (c : α → aD) (l : List α) : OV.cells (l.map fun x => [OV.v (c x)]) = (l.map fun x => [c x]).map (List.map .v) := by
 simp [OV.cells, OV.val]
theorem s9 {α : Type} (c : α → aD) : ∀ (l : List α), OV.cC (l.map fun x => [OV.v (c x)]) = []
 | [] => rfl
 |x :: l => by rw [List.map_cons, OV.cC, s9 c l]; rfl
theorem OV.jS (x : aD) : (OV.v x).val = x := rfl
theorem OS.flat {α : Type} {R : α → List OV → Prop} {sz : Nat} {l : List α} {y : OV} (h : OS R sz l y) : y.val.flat = true := by
 rcases h with ⟨rfl, _⟩ | ⟨n, es, rfl, _⟩ <;> rfl
theorem OS.one {α : Type} {R : α → List OV → Prop} {sz : Nat} {l : List α} {y : OV} (h : OS R sz l y) : y.val.cells = [y.val] := by
 rcases h with ⟨rfl, _⟩ | ⟨n, es, rfl, _⟩ <;> rfl
theorem aIL (es : List (List OV)) (e : List OV) : OV.cC (es ++ [e]) = OV.cC es ++ OV.b5 e := by
 rw [OV.rN]; simp only [OV.cC, List.append_nil]
set_option linter.unusedVariables false
set_option linter.unusedSimpArgs false
def FnN (P : Program) (f : FuncId) (args : List aD) (Q : aD → List (Nat × cB) → Prop) : Prop := ∀ h : aA, fF P f args h fun r h' => ∃ l, Q r l ∧ fM h l h'
theorem fM.under {g h' : aA} {n : Nat} {o : cB} {l : List (Nat × cB)} (hg : g n = none) (x : fM (aT g n o) l h') : ∃ g', h' = aT g' n o ∧ fM g l g' ∧ g' n = none := by
 have hn : n ∉ bP l := fun q => by have := x.fresh n q; simp at this
 have hk : h' n = some o := x.keep (aG _ _ _)
 refine ⟨qA h' [n], ?_, ⟨x.nodup, fun m hm => ?_, fun p hp => ?_, fun m hm => ?_⟩, by simp [qA]⟩
 ·funext m
  by_cases e : m = n
  ·subst e; rw [aG, hk]
  ·rw [aC _ _ _ _ e]; simp [qA, e]
 ·have e : m ≠ n := fun e => hn (e ▸ hm)
  have := x.fresh m hm
  rwa [aC _ _ _ _ e] at this
 ·have e : p.1 ≠ n := fun e => hn (e ▸ eW.2 ⟨p.2, hp⟩)
  have : qA h' [n] p.1 = h' p.1 := by simp [qA, e]
  rw [this]; exact x.pN p hp
 ·by_cases e : m = n
  ·subst e; rw [hg]; simp [qA]
  ·have : qA h' [n] m = h' m := by simp [qA, e]
   rw [this, x.upto m hm, aC _ _ _ _ e]
theorem fM.yJ {g h' : aA} {n m : Nat} {x y : cB} {l : List (Nat × cB)} (hn : g n = none) (hm : aT g n x m = none) (q : fM (aT (aT g n x) m y) l h') : ∃ g', h' = aT (aT g' n x) m y ∧ fM g l g' ∧ g' n = none ∧ aT g' n x m = none := by
 obtain ⟨g1, rfl, q1, h1⟩ := q.under hm
 obtain ⟨g2, rfl, q2, h2⟩ := q1.under hn
 exact ⟨g2, rfl, q2, h2, h1⟩
theorem fM.aKL {g h' : aA} {n m k : Nat} {x y z : cB} {l : List (Nat × cB)} (hn : g n = none) (hm : aT g n x m = none) (hk : aT (aT g n x) m y k = none) (q : fM (aT (aT (aT g n x) m y) k z) l h') :
  ∃ g', h' = aT (aT (aT g' n x) m y) k z ∧ fM g l g' ∧ g' n = none ∧ aT g' n x m = none ∧ aT (aT g' n x) m y k = none := by
 obtain ⟨g1, rfl, q1, h1⟩ := q.under hk
 obtain ⟨g2, rfl, q2, h2, h3⟩ := q1.yJ hn hm
 exact ⟨g2, rfl, q2, h2, h3, h1⟩
section
variable {P : Program} {f : FuncId} {args : List aD} {Q : aD → List (Nat × cB) → Prop} {K : aD → aA → Prop} {t : Tag K}
end
theorem aIM {P : Program} {f : FuncId} {fn : Func} {c : Code} (N : Nat) (keep ib : List Nat) (mk : Marks) {args : List aD} {Q : aD → List (Nat × cB) → Prop} (hmix : P.follows .mixedOrders = true) (hf : P.funcs[f]? = some fn) (hb : fn.body = some c)
  (hck : (mI P f && decide (fn.ntmps = N) && jV N mk c) = true) (hl : args.length ≤ N)
  (hw : ∀ h, qU P N keep ib mk c (fun τ h' => sX P fn.results (fun r h' => ∃ r1 g l, Shift r h' r1 g ∧ Q r1 l ∧ fM h l g) () .normal τ h') (sX P fn.results (fun r h' => ∃ r1 g l, Shift r h' r1 g ∧ Q r1 l ∧ fM h l g) ()) (sU 0 args) h ()) : FnN P f args Q := by
 intro h
 have h1 : fF P f args h (fun r h' => ∃ r1 g l, Shift r h' r1 g ∧ Q r1 l ∧ fM h l g) :=
  fF.mono (aBJ (K := fun r h' => ∃ r1 g l, Shift r h' r1 g ∧ Q r1 l ∧ fM h l g) N keep ib mk hmix hf hb hck hl (by
   have := hw h
   refine Eq.mp ?_ this
   have e : (fun r h' => ∃ r1 g l, Shift r h' r1 g ∧ Q r1 l ∧ fM h l g) = (fun r h' => ∃ g' : aA, g'.le h' ∧ ∃ r1 g l, Shift r g' r1 g ∧ Q r1 l ∧ fM h l g) := by
    funext r h'
    refine propext ⟨fun ⟨r1, g, l, s, q⟩ => ⟨h', aA.le_refl _, r1, g, l, s, q⟩, fun ⟨g', hl, r1, g, l, s, q⟩ => ⟨r1, g, l, (Shift.of (Sub.refl _) hl).trans s, q⟩⟩
   rw [e])) fun r h' q => q
 exact sW (fn := fn) (c := c) (N := N) h1 fun r h' ⟨r1, g, l, s, q, n⟩ => ⟨r1, g, s, l, q, n⟩
theorem FnN.fJ {P : Program} {f : FuncId} {args : List aD} {Q : aD → List (Nat × cB) → Prop} {r : aD} (a : FnN P f args Q)
  (hk : ∀ r' l, Q r' l → ∀ E w v h', qV h' l → Rel E h' w → fL E h' w r' v → fL E (kQ h' (bP l)) w r v) : gV P f args r := fun h =>
 aWL h (a h) fun r' h' ⟨l, q, hn⟩ => ⟨l, hn, fun E w v R rx => hk r' l q E w v h' hn.pN R rx⟩
def aN5 (h : aA) : aA := fun m => (h m).map fun _ => .gone
theorem aQA {h : aA} {m : Nat} {o : cB} (ho : aN5 h m = some o) : o = .gone := by
 simp only [aN5, Option.map_eq_some_iff] at ho
 obtain ⟨_, _, rfl⟩ := ho; rfl
theorem aI6 {E : Env} {h : aA} {w : World} {b : Nat} (hb : b < w.heap.size) : pF E (aN5 h) w b := ⟨hb, fun m o hm ho => by rw [aQA hm] at ho; exact ho.elim⟩
def View (h : aA) (x x' : aD) : Prop := ∀ E w v, Rel E h w → fL E h w x v → fL E (aN5 h) w x' v
theorem aQB {E : Env} {h : aA} {w : World} {S : List Nat} : ∀ b, pF E (Hl.kQ h S) w b → pF E (aN5 h) w b := fun b i => aI6 i.1
theorem View.op {h : aA} {n sz i off : Nat} (es : List (List OV)) (hn : h n = some (.row sz (OV.cells es))) (hne : es ≠ []) (ho : qV h (OV.cC es)) : View h (.op n sz i off) (.ip sz (OV.kP es) i off) := by
 intro E w v R r
 cases v <;> try (cases r; done)
 cases r with
 |op _ _ _ _ b o hd hl =>
  obtain ⟨b', o', hl', hbS, hs, cs, ct, cv, T, hh, hm', hT, hD, hc, hrr⟩ := x4 R hn (.inr ⟨_, hl⟩)
  rw [hl] at hl'
  obtain ⟨rfl, rfl⟩ := Prod.mk.inj (Option.some.inj hl')
  have hcs : ∀ i j y, iW (OV.kP es) i j = some y → ∃ c, iW es i j = some c ∧ y = c.sZ ∧ cs[o + i * sz + j]? = some (cv i j) ∧ (cv i j).oneCell' = true ∧ fL E h w c.val (cv i j) := by
   intro i j y hy
   rw [OV.nG, pJ] at hy
   obtain ⟨c, hc1, rfl⟩ := Option.map_eq_some_iff.1 hy
   have hcell : iW (OV.cells es) i j = some (.v c.val) := by rw [OV.cells, pJ, hc1]; rfl
   have h2 := hrr i j _ hcell
   generalize hcv : cv i j = z at h2
   cases h2 with
   |v x c' S' h1 hx => exact ⟨c, hc1, rfl, hcv ▸ hc i j _ hcell, h1, hx⟩
  refine .ip sz (OV.kP es) i off b o cv (aI6 (R.lt n _ b hn trivial hbS)) ?_ ?_ ?_ ?_
  ·intro e he
   rw [OV.nG, List.mem_map] at he
   obtain ⟨e', he', rfl⟩ := he
   have := hs (e'.map fun c => Cell.v c.val) (List.mem_map.2 ⟨e', he', rfl⟩)
   simpa using this
  ·intro i j y hy
   obtain ⟨c, _, _, h1, _, _⟩ := hcs i j y hy
   simp only [World.cell?, hh]
   rw [← h1]
   simp
  ·intro i j y hy; obtain ⟨c, _, _, _, h1, _⟩ := hcs i j y hy; exact h1
  ·intro i j y hy
   obtain ⟨c, hc1, rfl, _, _, h1⟩ := hcs i j y hy
   obtain ⟨e, he, hj⟩ := mH hc1
   exact (aDD R (S := bP (OV.cC es)) es ho (fun p hp => eW.2 ⟨p.2, hp⟩) e (List.mem_of_getElem? he) c (List.mem_of_getElem? hj) _ h1).rG aQB
section
variable {P : Program} {f : FuncId} {args args' : List aD} {Q : aD → List (Nat × cB) → Prop} {K : aD → aA → Prop} {t : Tag K} {g : aA}
end
set_option linter.unusedVariables false
set_option linter.unusedSimpArgs false
def QS (R : OV → Prop) (w : aD → aD := fun x => x) : aD → List (Nat × cB) → Prop := fun r l => ∃ y, R y ∧ r = w y.val ∧ l = y.rows
def QA (R : List OV → Prop) (w : aD → aD := fun x => x) : aD → List (Nat × cB) → Prop := fun r l => ∃ e, R e ∧ r = w (.agg (e.map OV.val)) ∧ l = OV.b5 e
theorem fM.row {h h' : aA} {l : List (Nat × cB)} (x : fM h l h') {n : Nat} {o : cB} (hn : h' n = none) : fM h ((n, o) :: l) (aT h' n o) := (x.toT.row hn).bDN
theorem QS.fJ {P : Program} {f : FuncId} {args : List aD} {R : OV → Prop} {d : aD} (a : FnN P f args (QS R)) (hd : ∀ y, R y → y.sZ = d) : gV P f args d :=
 a.fJ fun r' l ⟨y, hy, e1, e2⟩ E w v h' ho R rx => by
  subst e1 e2
  rw [← hd y hy]
  exact fL.aGR R y ho (fun p hp => eW.2 ⟨p.2, hp⟩) v rx
theorem OS.nil {α : Type} {R : α → List OV → Prop} {sz : Nat} : OS R sz [] (.nil sz) := .inl ⟨rfl, rfl⟩
theorem OS.mk {α : Type} {R : α → List OV → Prop} {sz n : Nat} {l : List α} {es : List (List OV)} (h : OR R l es) : OS R sz l (.sl n sz es) := .inr ⟨n, es, rfl, h⟩
theorem OV.qW (sz : Nat) : (OV.nil sz).rows = [] := by rw [OV.rows]
theorem OV.rO (x : aD) : (OV.v x).rows = [] := by rw [OV.rows]
theorem OV.jF (n sz : Nat) (es : List (List OV)) : (OV.sl n sz es).rows = (n, .row sz (OV.cells es)) :: OV.cC es := by rw [OV.rows]
theorem OV.jG : OV.b5 [] = [] := by rw [OV.b5]
theorem OV.fD (x : OV) (e : List OV) : OV.b5 (x :: e) = x.rows ++ OV.b5 e := by rw [OV.b5]
theorem OV.aKM (sz : Nat) : (OV.nil sz).val = .sl sz [] true := rfl
theorem OV.yK (n sz : Nat) (es : List (List OV)) : (OV.sl n sz es).val = .os n sz 0 es.length := rfl
theorem OV.cG : List.map OV.val [] = [] := rfl
theorem OV.fH (x : OV) (e : List OV) : List.map OV.val (x :: e) = x.val :: e.map OV.val := rfl
set_option linter.unusedVariables false
set_option linter.unusedSimpArgs false
structure Chg (h h' : aA) (l l' : List (Nat × cB)) : Prop where
 names : bP l' = bP l
 pN : qV h' l'
 upto : a7B (bP l) h h'
theorem Chg.trans {h h1 h2 : aA} {a b c : List (Nat × cB)} (x : Chg h h1 a b) (y : Chg h1 h2 b c) : Chg h h2 a c :=
 ⟨y.names.trans x.names, y.pN, fun m hm => (y.upto m (by rw [x.names]; exact hm)).trans (x.upto m hm)⟩
theorem qV.left {h : aA} {a b : List (Nat × cB)} (o : qV h (a ++ b)) : qV h a := fun p hp => o p (List.mem_append_left _ hp)
theorem qV.right {h : aA} {a b : List (Nat × cB)} (o : qV h (a ++ b)) : qV h b := fun p hp => o p (List.mem_append_right _ hp)
theorem Chg.mid {h h' : aA} {a l l' b : List (Nat × cB)} (o : qV h (a ++ (l ++ b))) (nd : (bP (a ++ (l ++ b))).Nodup) (c : Chg h h' l l') : Chg h h' (a ++ (l ++ b)) (a ++ (l' ++ b)) := by
 have nd' := nd
 rw [dW, dW] at nd'
 obtain ⟨_, n2, d1⟩ := List.nodup_append.1 nd'
 obtain ⟨_, _, d2⟩ := List.nodup_append.1 n2
 refine ⟨by rw [dW, dW, dW, dW, c.names], fun p hp => ?_, fun m hm => c.upto m fun q => hm ?_⟩
 ·rcases List.mem_append.1 hp with hp | hp
  ·have hm : p.1 ∈ bP a := eW.2 ⟨p.2, hp⟩
   rw [c.upto p.1 fun q => d1 _ hm _ (List.mem_append_left _ q) rfl]
   exact o p (List.mem_append_left _ hp)
  ·rcases List.mem_append.1 hp with hp | hp
   ·exact c.pN p hp
   ·have hm : p.1 ∈ bP b := eW.2 ⟨p.2, hp⟩
    rw [c.upto p.1 fun q => d2 _ q _ hm rfl]
    exact o p (List.mem_append_right _ (List.mem_append_right _ hp))
 ·rw [dW, dW]
  exact List.mem_append_right _ (List.mem_append_left _ q)
theorem Chg.set {h : aA} {n : Nat} {o o' : cB} {l : List (Nat × cB)} (ow : qV h ((n, o) :: l)) (nd : (bP ((n, o) :: l)).Nodup) : Chg h (aT h n o') ((n, o) :: l) ((n, o') :: l) := by
 have hn : n ∉ bP l := (List.nodup_cons.1 (show (n :: bP l).Nodup from nd)).1
 refine ⟨rfl, fun p hp => ?_, fun m hm => ?_⟩
 ·rcases List.mem_cons.1 hp with rfl | hp
  ·exact aG _ _ _
  ·have : p.1 ≠ n := fun e => hn (e ▸ eW.2 ⟨p.2, hp⟩)
   rw [aC _ _ _ _ this]; exact ow p (List.mem_cons_of_mem _ hp)
 ·have : m ≠ n := fun e => hm (by rw [e]; exact List.mem_cons_self)
  exact aC _ _ _ _ this
theorem Chg.nodup {h h' : aA} {a b : List (Nat × cB)} (c : Chg h h' a b) (nd : (bP a).Nodup) : (bP b).Nodup := by rw [c.names]; exact nd
theorem fM.chg {h h1 h2 : aA} {l l' : List (Nat × cB)} (x : fM h l h1) (c : Chg h1 h2 l l') : fM h l' h2 :=
 ⟨c.nodup x.nodup, fun m hm => x.fresh m (c.names ▸ hm), c.pN, fun m hm => (c.upto m (c.names ▸ hm)).trans (x.upto m (c.names ▸ hm))⟩
theorem aUE {a l b : List (Nat × cB)} (nd : (bP (a ++ (l ++ b))).Nodup) : (bP l).Nodup := by
 rw [dW, dW] at nd
 exact (List.nodup_append.1 (List.nodup_append.1 nd).2.1).1
theorem aKN (a b : List (List OV)) : OV.cells (a ++ b) = OV.cells a ++ OV.cells b := by simp [OV.cells]
theorem r7 (a b : List (List OV)) : OV.cC (a ++ b) = OV.cC a ++ OV.cC b := OV.rN a b
theorem oM (e : List OV) (b : List (List OV)) : OV.cC (e :: b) = OV.b5 e ++ OV.cC b := by rw [OV.cC]
set_option linter.unusedVariables false
set_option linter.unusedSimpArgs false
theorem qV.up {g : aA} {l : List (Nat × cB)} {n : Nat} {o : cB} (ow : qV g l) (hn : g n = none) : qV (aT g n o) l := fun p hp => by
 have : p.1 ≠ n := fun e => by have := ow p hp; rw [e, hn] at this; cases this
 rw [aC _ _ _ _ this]; exact ow p hp
theorem fM.un0 {g h' : aA} {l : List (Nat × cB)}  (x : fM g l h') : ∃ g', h' = g' ∧ fM g l g' := by
 exact ⟨h', rfl, x⟩
theorem aH.wn0 {P : Program} {f : FuncId} {args : List aD} {Q : aD → List (Nat × cB) → Prop} {K : aD → aA → Prop} {t : Tag K} {g : aA} (a : FnN P f args Q)  (k : ∀ r l g', Q r l → fM g l g' → K r g') : aH P f args g K t :=
 aH.eM (a _) fun r h' ⟨l, q, hq⟩ => by
  obtain ⟨g', e0, q2⟩ := hq.un0; subst e0
  exact k r l _ q q2
theorem fM.un1 {g h' : aA} {n0 : Nat} {o0 : cB} {l : List (Nat × cB)} (h0 : g n0 = none) (x : fM (aT g n0 o0) l h') : ∃ g', h' = (aT g' n0 o0) ∧ fM g l g' ∧ g' n0 = none := by
 exact x.under h0
theorem aH.wn1 {P : Program} {f : FuncId} {args : List aD} {Q : aD → List (Nat × cB) → Prop} {K : aD → aA → Prop} {t : Tag K} {g : aA} {n0 : Nat} {o0 : cB} (a : FnN P f args Q) (h0 : g n0 = none) (k : ∀ r l g', Q r l → fM g l g' → g' n0 = none → K r (aT g' n0 o0)) : aH P f args (aT g n0 o0) K t :=
 aH.eM (a _) fun r h' ⟨l, q, hq⟩ => by
  obtain ⟨g', rfl, q2, z0⟩ := hq.un1 h0
  exact k r l _ q q2 z0
set_option linter.unusedVariables false
set_option linter.unusedSimpArgs false
def aQD (w : aD → aD) : Prop := ∀ (E : Env) (h g : aA) (W : World) (x y : aD) (v : Value), (∀ b, pF E h W b → pF E g W b) → (∀ u, fL E h W x u → fL E g W y u) → fL E h W (w x) v → fL E g W (w y) v
theorem eL.hole {E : Env} {h g : aA} {W : World} {x y : aD} (hi : ∀ b, pF E h W b → pF E g W b) (hr : ∀ u, fL E h W x u → fL E g W y u) : ∀ (a b : List aD) (vs : List Value), eL E h W (a ++ x :: b) vs → eL E g W (a ++ y :: b) vs
 | [], b, v :: vs, r => ⟨hr v r.1, eL.rG hi r.2⟩
 |z :: a, b, v :: vs, r => ⟨r.1.rG hi, eL.hole hi hr a b vs r.2⟩
 | [], b, [], r => r.elim
 |z :: a, b, [], r => r.elim
theorem aN6 (a b : List aD) : aQD fun x => .kL (a ++ x :: b) := fun E h g W x y v hi hr r => by
 generalize hc : a ++ x :: b = cs at r
 cases r with
 |kL _ vs hl hrr =>
  subst hc
  have := eL.hole hi hr a b vs (eL.mk hl hrr)
  exact .kL _ vs this.length this.get
theorem QS.a7C {P : Program} {f : FuncId} {args : List aD} {R : OV → Prop} {w : aD → aD} {d : aD} (a : FnN P f args (QS R w)) (hd : ∀ y, R y → y.sZ = d) (hw : aQD w) : gV P f args (w d) :=
 a.fJ fun r' l ⟨y, hy, e1, e2⟩ E W v h' ho R' rx => by
  subst e1 e2
  rw [← hd y hy]
  exact hw E h' _ W y.val y.sZ v (fun b => qH _ b) (fun u ru => fL.aGR R' y ho (fun p hp => eW.2 ⟨p.2, hp⟩) u ru) rx
theorem QA.a7C {P : Program} {f : FuncId} {args : List aD} {R : List OV → Prop} {w : aD → aD} {d : List aD} (a : FnN P f args (QA R w)) (hd : ∀ e, R e → e.map OV.sZ = d) (hw : aQD w) : gV P f args (w (.agg d)) :=
 a.fJ fun r' l ⟨y, hy, e1, e2⟩ E W v h' ho R' rx => by
  subst e1 e2
  rw [← hd y hy]
  exact hw E h' _ W (.agg (y.map OV.val)) (.agg (y.map OV.sZ)) v (fun b => qH _ b) (fun u ru => fL.aN4 R' y u ho (fun p hp => eW.2 ⟨p.2, hp⟩) ru) rx
def jM (sz len : Nat) : Option Nat → aD
 |none => .sl sz [] true
 |some n => .os n sz 0 len
def cQ (h : aA) (o : cB) : Option Nat → aA
 |none => h
 |some n => aT h n o
theorem bU (sz len : Nat) : jM sz len none = .sl sz [] true := rfl
theorem aY (sz len n : Nat) : jM sz len (some n) = .os n sz 0 len := rfl
theorem aQ (h : aA) (o : cB) : cQ h o none = h := rfl
theorem aJ (h : aA) (o : cB) (n : Nat) : cQ h o (some n) = aT h n o := rfl
theorem lN {h : aA} {n b : Nat} {o r : cB} (hn : h n = none) : (aT h b r).le (aT (aT (aT h n o) n .gone) b r) := fun m => by
 by_cases e : m = b
 ·subst e; right; simp
 ·rw [aC _ _ _ _ e, aC _ _ _ _ e]
  by_cases e2 : m = n
  ·subst e2; exact .inl hn
  ·right; rw [aC _ _ _ _ e2, aC _ _ _ _ e2]
def gX {α : Type} (h : aA) (l : List α) : Option Nat → Prop
 |none => l = []
 |some n => h n = none
theorem bH {α : Type} (h : aA) (l : List α) : gX h l none = (l = []) := rfl
theorem aV {α : Type} (h : aA) (l : List α) (n : Nat) : gX h l (some n) = (h n = none) := rfl
theorem fO {α : Type} (c : α → aD) (l : List α) (x : α) : List.take l.length ((l.map fun x => [c x]).map (List.map Cell.v)) ++ [[Cell.v (c x)]] = ((l ++ [x]).map fun x => [c x]).map (List.map .v) := by
 rw [List.take_of_length_le (by simp)]
 simp
set_option linter.unusedVariables false
set_option linter.unusedSimpArgs false
theorem aR1 {α : Type} {c : α → aD} {l : List α} {sz : Nat} {h : aA} (e : (l.map fun x => [c x]) = []) : ∃ r1 g l1, Shift .bI h r1 g ∧ QS (OS (oP c) sz l) (fun x => x) r1 l1 ∧ fM h l1 g := by
 obtain rfl : l = [] := by simpa using e
 exact ⟨_, _, _, Shift.of (Sub.nil sz true) (aA.le_refl _), ⟨.nil sz, OS.nil, rfl, rfl⟩, by rw [OV.qW]; exact fM.nil h⟩
theorem aR2 {α : Type} {c : α → aD} {l : List α} {sz : Nat} {h : aA} (e : (l.map fun x => [c x]) = []) : ∃ r1 g l1, Shift (.sl sz [] true) h r1 g ∧ QS (OS (oP c) sz l) (fun x => x) r1 l1 ∧ fM h l1 g := by
 obtain rfl : l = [] := by simpa using e
 exact ⟨_, _, _, bD _ _, ⟨.nil sz, OS.nil, rfl, rfl⟩, by rw [OV.qW]; exact fM.nil h⟩
theorem zB {α : Type} {c : α → aD} {l : List α} {sz n : Nat} {h : aA} (hn : h n = none) :
  ∃ r1 g l1, Shift (.os n sz 0 l.length) (aT h n (.row sz ((l.map fun x => [c x]).map (List.map .v)))) r1 g ∧ QS (OS (oP c) sz l) (fun x => x) r1 l1 ∧ fM h l1 g := by
 refine ⟨_, _, _, bD _ _, ⟨.sl n sz (l.map fun x => [.v (c x)]), OS.mk (aGS l), by simp [OV.val], rfl⟩, ?_⟩
 rw [OV.jF, s9, qI]
 exact fM.one hn
def gQ (sz len : Nat) : Option Nat → aD
 |none => .bI
 |some n => .os n sz 0 len
theorem iY (sz len : Nat) : gQ sz len none = .bI := rfl
theorem bE (sz len n : Nat) : gQ sz len (some n) = .os n sz 0 len := rfl
def yL (g : aA) (es : List (List OV)) : Option Nat → Prop
 |none => es = []
 |some n => g n = none
theorem jN (g : aA) (es : List (List OV)) : yL g es none = (es = []) := rfl
theorem iJ (g : aA) (es : List (List OV)) (n : Nat) : yL g es (some n) = (g n = none) := rfl
def gov (sz : Nat) (es : List (List OV)) : Option Nat → OV
 |none => .nil sz
 |some n => .sl n sz es
theorem aWM (sz : Nat) (es : List (List OV)) : gov sz es none = .nil sz := rfl
theorem aGT (sz : Nat) (es : List (List OV)) (n : Nat) : gov sz es (some n) = .sl n sz es := rfl
theorem aGU {α : Type} {R : α → List OV → Prop} {sz : Nat} {l : List α} {es : List (List OV)} {g : aA} {o : Option Nat} (h : OR R l es) (hs : yL g es o) : OS R sz l (gov sz es o) := by
 cases o with
 |none => rw [jN] at hs; subst hs; exact .inl ⟨rfl, by have := h.length; simpa using this⟩
 |some n => exact OS.mk h
theorem aKO {sz : Nat} {es : List (List OV)} {o : Option Nat} : Sub (gQ sz es.length o) (gov sz es o).val := by
 cases o with
 |none => exact Sub.nil _ _
 |some n => exact Sub.refl _
theorem aBK {sz : Nat} {es : List (List OV)} {h g : aA} {o : Option Nat} (x : fM h (OV.cC es) g) (hs : yL g es o) : fM h (gov sz es o).rows (cQ g (.row sz (OV.cells es)) o) := by
 cases o with
 |none => rw [jN] at hs; subst hs; rw [aWM, OV.qW, aQ]; simpa [OV.cC] using x
 |some n => rw [aGT, OV.jF, aJ]; exact x.row hs
theorem eA (es : List (List OV)) : List.take es.length (OV.cells es) = OV.cells es := List.take_of_length_le (by simp [OV.cells])
theorem gI (es : List (List OV)) (e : List OV) : OV.cells (es ++ [e]) = OV.cells es ++ [e.map fun c => Cell.v c.val] := by rw [aKN]; rfl
theorem iQ (e : List OV) : OV.cells [e] = [e.map fun c => Cell.v c.val] := rfl
theorem jH (sz len : Nat) (o : Option Nat) : (gQ sz len o).flat = true := by cases o <;> rfl
theorem cK (es : List (List OV)) : (OV.cells es).length = es.length := by simp [OV.cells]
theorem fM.snoc {h g g1 : aA} {es : List (List OV)} {e : List OV} (x : fM h (OV.cC es) g) (y : fM g (OV.b5 e) g1) : fM h (OV.cC (es ++ [e])) g1 := by
 rw [aIL]; exact x.append y
theorem iK {g : aA} {R : cB} {o : Option Nat} {m : Nat} (hg : g m = none) (hon : ∀ n, o = some n → ¬ n = m) : cQ g R o m = none := by
 cases o with
 |none => exact hg
 |some n =>
  have := hon n rfl
  rw [aJ, aC _ _ _ _ fun e => this e.symm]; exact hg
theorem iR : OV.cells [] = [] := rfl
theorem bO {n m : Nat} {g : aA} {x y : cB} (h : ¬ n = m) : aT (aT g n x) m y = aT (aT g m y) n x := by
 funext q; simp only [dP]; split <;> split <;> simp_all
def aA.wk (g h : aA) : Prop := ∀ E w, Rel E h w → Rel E g w ∧ ∀ b, pF E h w b → pF E g w b
theorem aA.j7 {g h : aA} (hl : g.le h) : g.wk h := fun E w R => ⟨R.forget hl, fun b i => pF.le hl i⟩
theorem aA.wk.trans {a b c : aA} (x : a.wk b) (y : b.wk c) : a.wk c := fun E w R =>
 ⟨(x E w (y E w R).1).1, fun d i => (x E w (y E w R).1).2 d ((y E w R).2 d i)⟩
theorem aA.wk.ev {g h : aA} (x : g.wk h) {E : Env} {w : World} (R : Rel E h w) : Ev E h w E g w :=
 ⟨Nat.le_refl _, fun b hb => ⟨rfl, (x E w R).2 b hb⟩, fun _ _ => rfl, fun _ hn => ⟨rfl, hn⟩, rfl, rfl⟩
theorem o9.wk {P : Program} {N : Nat} {c : Code} {Q : Exit → bN → aA → Prop} {τ : bN} {h g : aA} (hl : g.wk h) (x : o9 P N c Q τ g) : o9 P N c Q τ h :=
 fun ds E w a R r => Code.wp_mono (fun e a' w' y => rJ.trans (hl.ev R) y) (x ds E w a (hl E w R).1 (r.ev (hl.ev R)))
theorem o9.aN7 {P : Program} {N : Nat} {c : Code} {Q : Exit → bN → aA → Prop} {τ : bN} {h : aA} {α : Type} (S : α → bN) (H : α → aA) (side : α → Prop) (μ : α → Nat) (x₀ : α)
  (h₀ : dF (S x₀) τ ∧ (H x₀).wk h ∧ side x₀)
  (round : ∀ x, side x → o9 P N c (vD (fun τ' h' => ∃ x', dF (S x') τ' ∧ (H x').wk h' ∧ side x' ∧ μ x' < μ x) Q) (S x) (H x)) : o9 P N (.loop c) Q τ h :=
 o9.loop (fun x τ h => dF (S x) τ ∧ (H x).wk h ∧ side x) μ x₀ h₀ fun x τ h ⟨h1, h2, h3⟩ =>
  o9.wk h2 (o9.weaken h1 (aA.le_refl _) ((round x h3).mono fun e τ h q => by
   cases e <;> simp only [vD] at q ⊢ <;> first | exact q | (obtain ⟨x', a, b, c, d⟩ := q; exact ⟨x', ⟨a, b, c⟩, d⟩)))
theorem aN7 {P : Program} {N : Nat} {keep ib : List Nat} {mk : Marks} {c : Code} {Q : Exit → bN → aA → Prop} {τ : bN} {h : aA} {t : Tag (Code.loop c, Q)} {α : Type} (hmix : P.follows .mixedOrders = true) (hc : jV N mk c = true) (S : α → bN) (H : α → aA) (side : α → Prop) (μ : α → Nat) (x₀ : α)
  (h₀ : dF (S x₀) τ ∧ (H x₀).wk h ∧ side x₀)
  (round : ∀ x, side x → qU P N keep ib mk c (fun τ' h' => ∃ x', dF (S x') τ' ∧ (H x').wk h' ∧ side x' ∧ μ x' < μ x) Q (S x) (H x) ()) : aKE P N (.loop c) Q τ h t :=
 o9.aN7 S H side μ x₀ h₀ fun x hx => aGL hmix c _ _ _ _ hc (round x hx)
def yM (x y : Cell) : Prop := ∀ E h w c S, uQ E h w x c S → uQ E h w y c S
theorem yM.refl (x : Cell) : yM x x := fun _ _ _ _ _ r => r
theorem yM.v {x y : aD} (s : Sub x y) : yM (.v x) (.v y) := fun E h w c S r => by
 cases r with
 |v _ _ _ h1 hx => exact .v _ _ _ h1 (s _ _ _ _ hx)
def mS : List (List Cell) → List (List Cell) → Prop
 | [], [] => True
 |a :: l, b :: m => (a.length = b.length ∧ ∀ (j : Nat) (x : Cell), b[j]? = some x → ∃ y, a[j]? = some y ∧ yM y x) ∧ mS l m
 | _, _ => False
theorem mS.last {a b : List Cell} (hl : a.length = b.length) (hc : ∀ (j : Nat) (x : Cell), b[j]? = some x → ∃ y, a[j]? = some y ∧ yM y x) : ∀ l, mS (l ++ [a]) (l ++ [b])
 | [] => ⟨⟨hl, hc⟩, trivial⟩
 |c :: l => ⟨⟨rfl, fun j x h => ⟨x, h, .refl x⟩⟩, mS.last hl hc l⟩
theorem mS.length : ∀ {l m}, mS l m → l.length = m.length
 | [], [], _ => rfl
 |a :: l, b :: m, h => by rw [List.length_cons, List.length_cons, mS.length h.2]
 | [], _ :: _, h => h.elim
 | _ :: _, [], h => h.elim
theorem mS.size {sz : Nat} : ∀ {l m}, mS l m → (∀ e ∈ l, e.length = sz) → ∀ e ∈ m, e.length = sz
 | [], [], _, _ => by simp
 |a :: l, b :: m, h, hs => fun e he => by
  rcases List.mem_cons.1 he with rfl | he
  ·rw [← h.1.1]; exact hs a List.mem_cons_self
  ·exact mS.size h.2 (fun e he => hs e (List.mem_cons_of_mem _ he)) e he
 | [], _ :: _, h, _ => h.elim
 | _ :: _, [], h, _ => h.elim
theorem mS.iW : ∀ {l m} (i j : Nat) (x : Cell), mS l m → Hl.iW m i j = some x → ∃ y, Hl.iW l i j = some y ∧ yM y x
 | [], [], i, j, x, _, h => by simp [Hl.iW] at h
 |a :: l, b :: m, 0, j, x, w, h => by simp only [Hl.iW, List.getElem?_cons_zero, Option.bind_some] at h ⊢; exact w.1.2 j x h
 |a :: l, b :: m, i + 1, j, x, w, h => by simp only [Hl.iW, List.getElem?_cons_succ] at h ⊢; exact mS.iW i j x w.2 h
 | [], _ :: _, _, _, _, w, _ => w.elim
 | _ :: _, [], _, _, _, w, _ => w.elim
theorem aA.a7D {g h : aA} {m sz : Nat} {es es' : List (List Cell)} (hg : ∀ q, q ≠ m → g q = h q) (hm : h m = some (.row sz es)) (gm : g m = some (.row sz es')) (hw : mS es es') : g.wk h := fun E w R => by
 have live : ∀ q o, g q = some o → ∃ o', h q = some o' ∧ (o.live → o'.live) := fun q o ho => by
  by_cases e : q = m
  ·subst e; exact ⟨_, hm, fun _ => trivial⟩
  ·rw [hg q e] at ho; exact ⟨o, ho, id⟩
 have live' : ∀ q o, h q = some o → ∃ o', g q = some o' ∧ (o.live → o'.live) := fun q o ho => by
  by_cases e : q = m
  ·subst e; exact ⟨_, gm, fun _ => trivial⟩
  ·rw [← hg q e] at ho; exact ⟨o, ho, id⟩
 have rG : ∀ b, pF E h w b → pF E g w b := fun b i => ⟨i.1, fun q o ho hl => by
  obtain ⟨o', h1, h2⟩ := live q o ho; exact i.2 q o' h1 (h2 hl)⟩
 refine ⟨⟨R.fin, fun n hn => R.dom n fun e => ?_, fun n o b hn hl => ?_, fun n o n' o' b hn hl hn' hl' => ?_, fun n o hn => ?_, R.laid.rG rG⟩, rG⟩
 ·by_cases e2 : n = m
  ·subst e2; rw [hm] at e; cases e
  ·rw [hg n e2] at hn; exact hn e
 ·obtain ⟨o2, h1, h2⟩ := live n o hn
  exact R.lt n o2 b h1 (h2 hl)
 ·obtain ⟨o2, h1, h2⟩ := live n o hn
  obtain ⟨o3, h3, h4⟩ := live n' o' hn'
  exact R.apart n o2 n' o3 b h1 (h2 hl) h3 (h4 hl')
 ·by_cases e : n = m
  ·subst e
   rw [gm] at hn
   obtain rfl := Option.some.inj hn
   rcases R.obj n _ hm with ⟨b, o2, hl, ra⟩ | ⟨he, hl⟩
   ·refine .inl ⟨b, o2, hl, ra.hb, hw.size ra.size, ?_⟩
    obtain ⟨cs, t, cv, T, h1, h2, h3, h4, h5, h6⟩ := ra.mem
    refine ⟨cs, t, cv, T, h1, by rw [← hw.length]; exact h2, h3, h4, fun i j x hx => ?_, fun i j x hx => ?_⟩
    ·obtain ⟨y, hy, _⟩ := hw.iW i j x hx; exact h5 i j y hy
    ·obtain ⟨y, hy, hyx⟩ := hw.iW i j x hx; exact (hyx _ _ _ _ _ (h6 i j y hy)).rG rG
   ·subst he
    have : es' = [] := by have := hw.length; simp at this; exact List.length_eq_zero_iff.1 this.symm
    exact .inr ⟨this, hl⟩
  ·rw [hg n e] at hn
   exact (R.obj n o hn).rG rG
theorem mS.sub {xs ys : List aD} (s : fN xs ys) (A : List (List Cell)) : mS (A ++ [xs.map .v]) (A ++ [ys.map .v]) := by
 refine mS.last (by simpa using s.1) (fun j x hx => ?_) A
 rw [List.getElem?_map, Option.map_eq_some_iff] at hx
 obtain ⟨y, hy, rfl⟩ := hx
 have hlt : j < ys.length := (List.getElem?_eq_some_iff.1 hy).1
 have hxl : j < xs.length := by rw [s.1]; exact hlt
 have hx2 : xs[j]? = some xs[j] := List.getElem?_eq_getElem hxl
 exact ⟨.v xs[j], by rw [List.getElem?_map, hx2]; rfl, yM.v (s.2 j _ _ hx2 hy)⟩
set_option linter.unusedVariables false
set_option linter.unusedSimpArgs false
theorem fM.field {h g g' : aA} {A l l' B : List (Nat × cB)} (x : fM h (A ++ (l ++ B)) g) (c : Chg g g' l l') : fM h (A ++ (l' ++ B)) g' := x.chg (Chg.mid x.pN x.nodup c)
abbrev Q4 := Option (Nat × Nat × Nat × Nat)
def q1 : Q4 → Option Nat | none => none | some x => some x.1
def q2 : Q4 → Option Nat | none => none | some x => some x.2.1
def q3 : Q4 → Option Nat | none => none | some x => some x.2.2.1
def q4 : Q4 → Option Nat | none => none | some x => some x.2.2.2
theorem OR.bDO {α : Type} {R : α → List OV → Prop} {x : α} {e : List OV} (h : R x e) : ∀ k, OR R (List.replicate k x) (List.replicate k e)
 |0 => trivial
 |k + 1 => ⟨h, OR.bDO h k⟩
def a4U (R : List OV → Prop) (z : List aD) : Prop := ∃ e, R e ∧ OV.b5 e = [] ∧ Sub (.agg z) (.agg (e.map OV.val))
def a7E (w : aD → aD) : Prop := ∀ x y, Sub x y → Sub (w x) (w y)
theorem a0U : a7E fun x => x := fun _ _ s => s
theorem fN.mid {x y : aD} (s : Sub x y) (b : List aD) : ∀ a : List aD, fN (a ++ x :: b) (a ++ y :: b)
 | [] => .cons s (.refl b)
 |z :: a => .cons (.refl z) (fN.mid s b a)
theorem aN8 (a b : List aD) : a7E fun x => .kL (a ++ x :: b) := fun _ _ s => Sub.kL (fN.mid s b a)
theorem aGV {R : List OV → Prop} {w : aD → aD} {z : List aD} {h h' : aA} (hz : a4U R z) (hw : a7E w) (hl : h.le h') : ∃ r1 g l, Shift (w (.agg z)) h' r1 g ∧ QA R w r1 l ∧ fM h l g := by
 obtain ⟨e, h1, h2, h3⟩ := hz
 exact ⟨_, h, _, Shift.of (hw _ _ h3) hl, ⟨e, h1, rfl, h2.symm⟩, fM.nil h⟩
theorem a0V {R : List OV → Prop} {w : aD → aD} {e : List OV} {h h' g : aA} (hR : R e) (hn : fM h (OV.b5 e) g) (hl : g.le h') : ∃ r1 g l, Shift (w (.agg (e.map OV.val))) h' r1 g ∧ QA R w r1 l ∧ fM h l g :=
 ⟨_, g, _, Shift.of (Sub.refl _) hl, ⟨e, hR, rfl, rfl⟩, hn⟩
theorem aAM {α : Type} (c : α → aD) (l : List α) (k : Nat) (x : α) : ((l.map fun x => [c x]).map (List.map Cell.v)).set k [Cell.v (c x)] = ((l.set k x).map fun x => [c x]).map (List.map Cell.v) := by
 rw [List.map_map, List.map_map, List.map_set]; rfl
theorem OR.aQE {α : Type} {c : α → aD} : ∀ {l : List α} {es : List (List OV)}, OR (oP c) l es → es = l.map fun x => [.v (c x)]
 | [], [], _ => rfl
 |x :: l, e :: es, h => by rw [List.map_cons, ← OR.aQE h.2, show e = [.v (c x)] from h.1]
 | [], _ :: _, h => h.elim
 | _ :: _, [], h => h.elim
theorem OS.aQE {α : Type} {c : α → aD} {sz : Nat} {l : List α} {y : OV} (h : OS (oP c) sz l y) : (y = .nil sz ∧ l = []) ∨ ∃ n, y = .sl n sz (l.map fun x => [.v (c x)]) := by
 rcases h with h | ⟨n, es, rfl, h⟩
 ·exact .inl h
 ·exact .inr ⟨n, by rw [h.aQE]⟩
theorem OV.aN9 {α : Type} (c : α → aD) (n sz : Nat) (l : List α) : (OV.sl n sz (l.map fun x => [.v (c x)])).val = .os n sz 0 l.length := by rw [OV.yK, List.length_map]
theorem fM.a4V {h g : aA} (e1 : List OV) {e2 : List OV} {n sz : Nat} {es : List (List OV)} (x : fM h (OV.b5 (e1 ++ OV.sl n sz es :: e2)) g) : g n = some (.row sz (OV.cells es)) :=
 x.pN (n, _) (by rw [OV.pM, OV.fD, OV.jF]; simp)
theorem oN {P : Program} {N : Nat} {keep ib : List Nat} {mk : Marks} {c : Code} {Q : Exit → bN → aA → Prop} {τ : bN} {h : aA} {t : Tag (Code.loop c, Q)} {α : Type} (hmix : P.follows .mixedOrders = true) (hc : jV N mk c = true) (S : α → bN) (side : α → Prop) (μ : α → Nat) (x₀ : α)
  (h₀ : dF (S x₀) τ ∧ side x₀)
  (round : ∀ x, side x → qU P N keep ib mk c (fun τ' h' => ∃ x', dF (S x') τ' ∧ h.le h' ∧ side x' ∧ μ x' < μ x) Q (S x) h ()) : aKE P N (.loop c) Q τ h t :=
 dA hmix hc S (fun _ => h) side μ x₀ ⟨h₀.1, aA.le_refl _, h₀.2⟩ round
theorem qX {h : aA} {n : Nat} {o : cB} (hn : h n = some o) : aT h n o = h := by
 funext q; simp only [dP]; split
 ·subst_vars; exact hn.symm
 ·rfl
theorem r8 {P : Program} {N : Nat} {keep ib : List Nat} {mk : Marks} {c : Code} {Q : Exit → bN → aA → Prop} {τ : bN} {h : aA} {t : Tag (Code.loop c, Q)} {α : Type} (hmix : P.follows .mixedOrders = true) (hc : jV N mk c = true) (S : α → bN) (n : Nat) (R : α → cB) (side : α → Prop) (μ : α → Nat) (x₀ : α)
  (h₀ : dF (S x₀) τ ∧ h n = some (R x₀) ∧ side x₀)
  (round : ∀ x, side x → qU P N keep ib mk c (fun τ' h' => ∃ x', dF (S x') τ' ∧ (aT h n (R x')).le h' ∧ side x' ∧ μ x' < μ x) Q (S x) (aT h n (R x)) ()) : aKE P N (.loop c) Q τ h t :=
 dA hmix hc S (fun x => aT h n (R x)) side μ x₀ ⟨h₀.1, by simp only [qX h₀.2.1]; exact aA.le_refl _, h₀.2.2⟩ round
theorem aA.kD {g h : aA} {n : Nat} {o : cB} (hl : g.le h) : (aT g n o).le (aT h n o) := fun q => by
 simp only [dP]; split
 ·exact .inr rfl
 ·exact hl q
theorem View.box {T : List aD} {g : aA} {nb sz : Nat} {e : List OV} (hd : e.map OV.sZ = T) (hn : g nb = none) (ho : qV g (OV.b5 e)) : View (aT g nb (.row sz (OV.cells [e]))) (.op nb sz 0 0) (.ip sz [T] 0 0) := by
 have := View.op (h := aT g nb (.row sz (OV.cells [e]))) (n := nb) (sz := sz) (i := 0) (off := 0) [e] (by rw [aG]) (by simp) (by
  have h1 : OV.cC [e] = OV.b5 e := by simp [OV.cC]
  rw [h1]; exact ho.up hn)
 have h2 : OV.kP [e] = [T] := by rw [OV.nG]; simp [hd]
 rwa [h2] at this
theorem fM.le {h g : aA} {l : List (Nat × cB)} (w : fM h l g) : h.le g := fun q => by
 by_cases hq : q ∈ bP l
 ·exact .inl (w.fresh q hq)
 ·exact .inr (w.upto q hq).symm
theorem aUF {α : Type} {A B : List α} {x y : α} : (A ++ x :: B).set A.length y = A ++ y :: B := by simp
theorem fM.bDP {h g g2 : aA} (e1 : List OV) {e2 : List OV} {n sz : Nat} {es : List (List OV)} {k : Nat} {enew : List OV} (x : fM h (OV.b5 (e1 ++ OV.sl n sz es :: e2)) g) (y : fM g (OV.b5 enew) g2) (hk : k < es.length) :
  ∃ g3, g3.le (aT g2 n (.row sz (OV.cells (es.set k enew)))) ∧ fM h (OV.b5 (e1 ++ OV.sl n sz (es.set k enew) :: e2)) g3 := by
 obtain ⟨A, old, B, rfl, hA⟩ : ∃ A old B, es = A ++ old :: B ∧ A.length = k := ⟨es.take k, es[k], es.drop (k + 1), by simp, by simp; omega⟩
 subst hA
 rw [aUF]
 have z := x.append y
 rw [OV.pM, OV.fD, OV.jF, r7, oM] at z
 have z2 := z.perm (b := OV.b5 old ++ (OV.b5 e1 ++ ((n, .row sz (OV.cells (A ++ old :: B))) :: (OV.cC A ++ (OV.b5 enew ++ OV.cC B)) ++ OV.b5 e2))) (by
  classical
  rw [List.perm_iff_count]
  intro q
  simp only [List.count_append, List.cons_append, List.count_cons]
  omega)
 have z3 := z2.drop
 refine ⟨aT (qA g2 (bP (OV.b5 old))) n (.row sz (OV.cells (A ++ enew :: B))), aA.kD (aWK _ _), ?_⟩
 rw [OV.pM, OV.fD, OV.jF, r7, oM]
 exact z3.field (l := (n, .row sz (OV.cells (A ++ old :: B))) :: (OV.cC A ++ (OV.b5 enew ++ OV.cC B))) (Chg.set z3.pN.right.left (aUE z3.nodup))
theorem aOA (es : List (List OV)) (k : Nat) (e : List OV) (c : List Cell) (hc : c = e.map fun c => Cell.v c.val) : (OV.cells es).set k c = OV.cells (es.set k e) := by
 rw [hc, OV.cells, OV.cells, List.map_set]
theorem aI8 {es : List (List OV)} {k : Nat} {e : List OV} (h : es[k]? = some e) : (OV.cells es)[k]? = some (e.map fun c => Cell.v c.val) := by
 rw [OV.cells, List.getElem?_map, h]; rfl
theorem OR.a7F {α : Type} {R : α → List OV → Prop} : ∀ {l : List α} {es : List (List OV)}, OR R l es → ∀ (k : Nat) x, l[k]? = some x → ∃ e, es[k]? = some e ∧ R x e
 | [], [], _, k, x, h => by simp at h
 |a :: l, b :: es, h, 0, x, e => by simp at e; subst e; exact ⟨b, rfl, h.1⟩
 |a :: l, b :: es, h, k + 1, x, e => OR.a7F h.2 k x (by simpa using e)
 | [], _ :: _, h, _, _, _ => h.elim
 | _ :: _, [], h, _, _, _ => h.elim
theorem OR.set {α : Type} {R : α → List OV → Prop} : ∀ {l : List α} {es : List (List OV)}, OR R l es → ∀ (k : Nat) x e, R x e → OR R (l.set k x) (es.set k e)
 | [], [], _, k, x, e, _ => by simp [OR]
 |a :: l, b :: es, h, 0, x, e, he => ⟨he, h.2⟩
 |a :: l, b :: es, h, k + 1, x, e, he => ⟨h.1, OR.set h.2 k x e he⟩
 | [], _ :: _, h, _, _, _, _ => h.elim
 | _ :: _, [], h, _, _, _, _ => h.elim
theorem OS.some {α : Type} {R : α → List OV → Prop} {sz : Nat} {l : List α} {y : OV} (h : OS R sz l y) (hl : 0 < l.length) : ∃ n es, y = .sl n sz es ∧ OR R l es := by
 rcases h with ⟨_, h⟩ | h
 ·rw [h] at hl; simp at hl
 ·exact h
def leX (S : List Nat) (g h : aA) : Prop := ∀ q, q ∉ S → g q = none ∨ g q = h q
theorem iD {g h : aA} (x : leX [] g h) : g.le h := fun q => x q (by simp)
theorem fS (S : List Nat) (g : aA) : leX S g g := fun q _ => .inr rfl
theorem iE {S : List Nat} {g h : aA} {n : Nat} {o : cB} (hn : h n = some o) (x : leX (n :: S) g h) : leX S (aT g n o) h := fun q hq => by
 simp only [dP]; split
 ·subst_vars; exact .inr hn.symm
 ·rename_i e; exact x q (by simp only [List.mem_cons, not_or]; exact ⟨e, hq⟩)
theorem eY {S : List Nat} {g h : aA} {n : Nat} {o : cB} (hn : n ∈ S ∨ g n = none) (x : leX S g h) : leX S g (aT h n o) := fun q hq => by
 simp only [dP]; split
 ·subst_vars
  rcases hn with hn | hn
  ·exact absurd hn hq
  ·exact .inl hn
 ·exact x q hq
theorem aOB {R : List OV → Prop} {w : aD → aD} {e : List OV} {h h' g : aA} {r : aD} (hr : r = w (.agg (e.map OV.val))) (hR : R e) (hn : fM h (OV.b5 e) g) (hl : g.le h') : ∃ r1 g l, Shift r h' r1 g ∧ QA R w r1 l ∧ fM h l g := by
 rw [hr]; exact a0V hR hn hl
theorem aA.le_none {g h : aA} (hl : g.le h) {n : Nat} (hn : h n = none) : g n = none := by
 rcases hl n with e | e
 ·exact e
 ·rw [e, hn]
theorem fF.wk {P : Program} {f : FuncId} {args : List aD} {g h : aA} {K : aD → aA → Prop} (hl : g.wk h) (a : fF P f args g K) : fF P f args h K :=
 ⟨a.1, fun E w vs R r => by
  obtain ⟨R', hi⟩ := hl E w R
  exact (a.2 E w vs R' (eL.rG hi r)).mono fun e w' q => by
   cases e with
   |returned v =>
    obtain ⟨r, h', E', k, ev, R2, r2⟩ := q
    exact ⟨r, h', E', k, (hl.ev R).trans ev, R2, r2⟩
   | _ => exact q.elim⟩
theorem aH.wk {P : Program} {f : FuncId} {args : List aD} {g h : aA} {K : aD → aA → Prop} {t : Tag K} (hl : g.wk h) (a : aH P f args g K t) : aH P f args h K t := fF.wk hl a
theorem fF.shift {P : Program} {f : FuncId} {args : List aD} {h : aA} {K K' : aD → aA → Prop} (a : fF P f args h K') (hk : ∀ r h', K' r h' → ∃ g : aA, g.wk h' ∧ K r g) : fF P f args h K :=
 ⟨a.1, fun E w vs R r => by
  exact (a.2 E w vs R r).mono fun e w' q => by
   cases e with
   |returned v =>
    obtain ⟨r, h', E', k, ev, R2, r2⟩ := q
    obtain ⟨g, hg, k'⟩ := hk r h' k
    obtain ⟨R3, hi⟩ := hg E' w' R2
    exact ⟨r, g, E', k', ev.trans (hg.ev R2), R3, fL.rG hi r2⟩
   | _ => exact q.elim⟩
def upL (c : List Int) (k : Nat) : List Int := c.take k ++ List.replicate (c.length - k) 0
theorem aBL (c : List Int) : upL c 0 = List.replicate c.length 0 := by simp [upL]
theorem aE4 (c : List Int) : upL c c.length = c := by simp [upL]
theorem aE5 (c : List Int) {k : Nat} (hk : k ≤ c.length) : (upL c k).length = c.length := by simp [upL]; omega
theorem aE6 {c : List Int} {k : Nat} (hk : k < c.length) : (upL c k)[k]? = some 0 := by
 have h1 : (c.take k).length = k := by rw [List.length_take]; omega
 rw [upL, List.getElem?_append_right (by omega), h1, Nat.sub_self, List.getElem?_replicate, if_pos (by omega)]
theorem aE7 {c : List Int} {k : Nat} (hk : k < c.length) : (upL c k).set k c[k] = upL c (k + 1) := by
 have h1 : (c.take k).length = k := by rw [List.length_take]; omega
 rw [upL, upL, List.set_append_right _ _ (by omega), h1, Nat.sub_self, List.take_succ_eq_append_getElem hk, show c.length - k = (c.length - (k + 1)) + 1 by omega, List.replicate_succ, List.set_cons_zero, List.append_assoc, List.singleton_append]
theorem wI (n : Nat) : (List.replicate n [aD.int .i64 0]).map (List.map Cell.v) = ((List.replicate n (0 : Int)).map fun n => [aD.int .i64 n]).map (List.map Cell.v) := by simp
set_option linter.unusedVariables false
set_option linter.unusedSimpArgs false
theorem gK {P : Program} {f : FuncId} {fn : Func} {c : Code} (N : Nat) (keep ib : List Nat) (mk : Marks) {args : List aD} {h : aA} {K : aD → aA → Prop} (hmix : P.follows .mixedOrders = true) (hf : P.funcs[f]? = some fn) (hb : fn.body = some c)
  (hck : (mI P f && decide (fn.ntmps = N) && jV N mk c) = true) (hl : args.length ≤ N)
  (hw : qU P N keep ib mk c (fun τ h' => sX P fn.results (fun r h' => ∃ r1 g, Shift r h' r1 g ∧ K r1 g) () .normal τ h') (sX P fn.results (fun r h' => ∃ r1 g, Shift r h' r1 g ∧ K r1 g) ()) (sU 0 args) h ()) : fF P f args h K :=
 sW (fn := fn) (c := c) (N := N) (aGI N keep ib mk hmix hf hb hck hl (K' := fun r h' => ∃ r1 g, Shift r h' r1 g ∧ K r1 g) (K := fun r h' => ∃ r1 g, Shift r h' r1 g ∧ K r1 g) hw fun _ h' hx => ⟨h', aA.le_refl _, hx⟩) fun r h' hx => hx
theorem eL.rH {E : Env} {h : aA} {w : World} (R : Rel E h w) {n sz : Nat} {es : List (List Cell)} (hn : h n = some (.row sz es)) : ∀ {xs : List aD} {vs : List Value}, eL E h w xs vs → gB n sz es.length xs = true → eL E (aT h n .gone) w (lM n (e8 es) xs) vs
 | [], [], _, _ => trivial
 |x :: xs, v :: vs, r, hb => by
  simp only [gB, Bool.and_eq_true] at hb
  exact ⟨r.1.rH R hn hb.1, eL.rH R hn r.2 hb.2⟩
 | [], _ :: _, r, _ => r.elim
 | _ :: _, [], r, _ => r.elim
theorem aH.aWN {P : Program} {f : FuncId} {args : List aD} {h : aA} {K : aD → aA → Prop} {t : Tag K} (n : Nat) {sz : Nat} {es : List (List Cell)} (hn : h n = some (.row sz es)) (hb : gB n sz es.length args = true)
  (a : fF P f (lM n (e8 es) args) (aT h n .gone) K) : aH P f args h K t :=
 ⟨a.1, fun E w vs R r => (a.2 E w vs (R.gone hn) (r.rH R hn hb)).mono fun e w' q => by
  cases e with
  |returned v =>
   obtain ⟨r, h', E', k, ev, R2, r2⟩ := q
   exact ⟨r, h', E', k, (Ev.gone n).trans ev, R2, r2⟩
  | _ => exact q.elim⟩
set_option linter.unusedVariables false
set_option linter.unusedSimpArgs false
def Cell.aBX (n : Nat) (es : List (List aD)) : Cell → Cell
 | .v x => .v (x.fK n es)
 | .own sz ys => .own sz ys
theorem aJG (m : Nat) (vs : List (List aD)) (es : List (List Cell)) (i j : Nat) : iW (es.map (List.map (Cell.aBX m vs))) i j = (iW es i j).map (Cell.aBX m vs) := pJ _ _ _ _
theorem aA.a1W {h : aA} {m b sz sz2 : Nat} {es es2 : List (List Cell)} (hm : h m = some (.row sz es)) (hb : h b = some (.row sz2 es2)) (hne : ¬ b = m) (hok : ∀ i j x, iW es2 i j = some (.v x) → gA m sz es.length x = true) :
  (aT (aT h m .gone) b (.row sz2 (es2.map (List.map (Cell.aBX m (e8 es)))))).wk h := fun E w R => by
 have R1 := R.gone hm
 have k7 : (aT h m .gone) b = some (.row sz2 es2) := by rw [aC _ _ _ _ hne]; exact hb
 have h0 : ∀ b, pF E h w b → pF E (aT h m .gone) w b := fun b => xY m b

 have hrow := R.obj b _ hb
 have h1b : aFS E h w ((E.loc b).getD (0, 0)).1 ((E.loc b).getD (0, 0)).2 sz2 es2 (E.fp b) ∨ es2 = [] := by
  rcases hrow with ⟨k, o2, hlc, ra⟩ | ⟨he, _⟩
  ·left; rw [hlc]; exact ra
  ·exact .inr he
 have R2 : Rel E (aT (aT h m .gone) b (.row sz2 (es2.map (List.map (Cell.aBX m (e8 es)))))) w ∧ ∀ q, pF E (aT h m .gone) w q → pF E (aT (aT h m .gone) b (.row sz2 (es2.map (List.map (Cell.aBX m (e8 es)))))) w q := by
  have live : ∀ q o, aT (aT h m .gone) b (.row sz2 (es2.map (List.map (Cell.aBX m (e8 es))))) q = some o → ∃ o', (aT h m .gone) q = some o' ∧ (o.live → o'.live) := fun q o ho => by
   by_cases e : q = b
   ·subst e; exact ⟨_, k7, fun _ => trivial⟩
   ·rw [aC _ _ _ _ e] at ho; exact ⟨o, ho, id⟩
  have rG : ∀ q, pF E (aT h m .gone) w q → pF E (aT (aT h m .gone) b (.row sz2 (es2.map (List.map (Cell.aBX m (e8 es)))))) w q := fun q i => ⟨i.1, fun n o ho hl => by
   obtain ⟨o', h1, h2⟩ := live n o ho; exact i.2 n o' h1 (h2 hl)⟩
  refine ⟨⟨R1.fin, fun n hn => R1.dom n fun e => ?_, fun n o c hn hl => ?_, fun n o n' o' c hn hl hn' hl' => ?_, fun n o hn => ?_, R1.laid.rG rG⟩, rG⟩
  ·by_cases e2 : n = b
   ·subst e2; rw [k7] at e; cases e
   ·rw [aC _ _ _ _ e2] at hn; exact hn e
  ·obtain ⟨o2, h1, h2⟩ := live n o hn
   exact R1.lt n o2 c h1 (h2 hl)
  ·obtain ⟨o2, h1, h2⟩ := live n o hn
   obtain ⟨o3, h3, h4⟩ := live n' o' hn'
   exact R1.apart n o2 n' o3 c h1 (h2 hl) h3 (h4 hl')
  ·by_cases e : n = b
   ·subst e
    rw [aG] at hn
    obtain rfl := Option.some.inj hn
    rcases hrow with ⟨k, o2, hlc, ra⟩ | ⟨he, hlc⟩
    ·refine .inl ⟨k, o2, hlc, ra.hb, fun e he => ?_, ?_⟩
     ·obtain ⟨e', he', rfl⟩ := List.mem_map.1 he
      rw [List.length_map]; exact ra.size e' he'
     obtain ⟨cs, t, cv, T, h1, h2, h3, h4, h5, h6⟩ := ra.mem
     refine ⟨cs, t, cv, T, h1, by rw [List.length_map]; exact h2, h3, h4, fun i j x hx => ?_, fun i j x hx => ?_⟩
     ·rw [aJG] at hx
      obtain ⟨y, hy, rfl⟩ := Option.map_eq_some_iff.1 hx
      exact h5 i j y hy
     ·rw [aJG] at hx
      obtain ⟨y, hy, rfl⟩ := Option.map_eq_some_iff.1 hx
      have hr := h6 i j y hy
      cases y with
      |v y =>
       cases hr with
       |v _ _ _ k1 k2 =>
        exact .v _ _ _ k1 ((k2.rH R hm (hok i j y hy)).rG rG)
      |own s ys => exact (hr.rG h0).rG rG
    ·subst he
     exact .inr ⟨rfl, hlc⟩
   ·rw [aC _ _ _ _ e] at hn
    exact (R1.obj n o hn).rG rG
 exact ⟨R2.1, fun q i => R2.2 q (h0 q i)⟩
set_option linter.unusedVariables false
set_option linter.unusedSimpArgs false
def oL {α : Type} (c : α → aD) (l : List α) (e : List OV) : Prop := ∃ y, e = [y] ∧ OS (oP c) 1 l y
theorem a8O {α : Type} {c : α → aD} {l : List α} {e : List OV} (h : oL c l e) : e.map OV.sZ = [.sl 1 (l.map fun x => [c x]) false] := by
 obtain ⟨y, rfl, hy⟩ := h
 rw [List.map_cons, List.map_nil, OS.sZ (c := fun x => [c x]) (fun _ _ q => aKJ q) hy]
theorem fM.bFC {α : Type} {c : α → aD} {h g : aA} {b k n : Nat} {es : List (List OV)} {l : List α} (X : fM h (OV.b5 [OV.sl b 1 es]) g) (hk : es[k]? = some [OV.sl n 1 (l.map fun x => [.v (c x)])]) :
  g n = some (.row 1 ((l.map fun x => [c x]).map (List.map .v))) ∧ ¬ n = b := by
 have hmem : (n, cB.row 1 ((l.map fun x => [c x]).map (List.map .v))) ∈ OV.cC es := by
  refine OV.aAC (List.mem_of_getElem? hk) ?_
  rw [OV.fD, OV.jG, List.append_nil, OV.jF, qI]
  exact List.mem_cons_self
 refine ⟨X.pN (n, _) ?_, fun e => ?_⟩
 ·rw [OV.fD, OV.jG, List.append_nil, OV.jF]
  exact List.mem_cons_of_mem _ hmem
 ·have nd := X.nodup
  rw [OV.fD, OV.jG, List.append_nil, OV.jF] at nd
  simp only [bP, List.map_cons, List.nodup_cons] at nd
  refine nd.1 ?_
  rw [← e]
  exact List.mem_map.2 ⟨_, hmem, rfl⟩
theorem fM.a5V {α : Type} {c : α → aD} {h g F : aA} {b k m : Nat} {es : List (List OV)} {y : OV} {l : List α} {x : α} (X : fM h (OV.b5 [OV.sl b 1 es]) g) (hk : es[k]? = some [y]) (hy : OS (oP c) 1 l y) (hm : g m = none)
  (hF : ∀ q, (∀ n sz es, y = .sl n sz es → ¬ q = n) → F q = aT (aT g m (.row 1 (((l ++ [x]).map fun x => [c x]).map (List.map .v)))) b (.row 1 ((OV.cells es).set k [.v (.os m 1 0 (l.length + 1))])) q) :
  ∃ g3 : aA, g3.le F ∧ fM h (OV.b5 [OV.sl b 1 (es.set k [OV.sl m 1 ((l ++ [x]).map fun x => [.v (c x)])])]) g3 := by
 have hlt : k < es.length := (List.getElem?_eq_some_iff.1 hk).1
 have hY : fM g (OV.b5 [OV.sl m 1 ((l ++ [x]).map fun x => [OV.v (c x)])]) (aT g m (.row 1 (((l ++ [x]).map fun x => [c x]).map (List.map .v)))) := by
  rw [OV.fD, OV.jG, List.append_nil, OV.jF, s9, qI]
  exact fM.one hm
 obtain ⟨g3, h1, h2⟩ := fM.bDP (k := k) [] X hY hlt
 refine ⟨g3, fun q => ?_, h2⟩
 have hcell : OV.cells (es.set k [OV.sl m 1 ((l ++ [x]).map fun x => [OV.v (c x)])]) = (OV.cells es).set k [.v (.os m 1 0 (l.length + 1))] := by
  rw [← aOA es k _ _ rfl]
  simp [OV.val]
 rw [hcell] at h1
 by_cases hq : ∀ n sz es, y = .sl n sz es → ¬ q = n
 ·rw [hF q hq]; exact h1 q
 ·left
  have hq' : ∃ n sz es', y = .sl n sz es' ∧ q = n := by
   by_cases e : ∃ n sz es', y = .sl n sz es' ∧ q = n
   ·exact e
   ·exact absurd (fun n sz es' hy' hqn => e ⟨n, sz, es', hy', hqn⟩) hq
  obtain ⟨n, sz, es', rfl, rfl⟩ := hq'

  obtain ⟨A, B, rfl, hA⟩ : ∃ A B, es = A ++ [OV.sl q sz es'] :: B ∧ A.length = k := by
   refine ⟨es.take k, es.drop (k + 1), ?_, by rw [List.length_take]; omega⟩
   have := List.getElem?_eq_some_iff.1 hk
   rw [← this.2]; simp
  subst hA
  have e1 : (A ++ [OV.sl q sz es'] :: B).set A.length [OV.sl m 1 ((l ++ [x]).map fun x => [OV.v (c x)])] = A ++ [OV.sl m 1 ((l ++ [x]).map fun x => [OV.v (c x)])] :: B := by simp
  simp only [List.nil_append] at h2
  rw [e1] at h2
  have nd := X.nodup
  have hqn : q ∈ bP (OV.b5 [OV.sl b 1 (A ++ [OV.sl q sz es'] :: B)]) := by
   rw [OV.fD, OV.jF, r7, oM, OV.fD, OV.jF]
   simp [bP]
  have hgq : ∃ o, g q = some o := by
   obtain ⟨o, ho⟩ := eW.1 hqn
   exact ⟨o, X.pN (q, o) ho⟩
  have hqm : ¬ q = m := fun e => by
   obtain ⟨o, ho⟩ := hgq
   rw [e, hm] at ho; cases ho
  have hnot : q ∉ bP (OV.b5 [OV.sl b 1 (A ++ [OV.sl m 1 ((l ++ [x]).map fun x => [OV.v (c x)])] :: B)]) := by
   rw [OV.fD, OV.jG, List.append_nil, OV.jF, r7, oM, OV.fD, OV.jG, List.append_nil, OV.jF] at nd ⊢
   rw [s9]
   simp only [bP, List.map_cons, List.map_append, List.nodup_cons, List.mem_append, List.mem_cons, not_or, List.nodup_append, List.map_nil, List.not_mem_nil, or_false] at nd ⊢
   obtain ⟨⟨n1, n2⟩, n3, n4, n5⟩ := nd
   refine ⟨fun e => n2.1.1 e.symm, fun hqa => n5 q hqa q (.inl (.inl rfl)) rfl, hqm, fun hqb => ?_⟩
   exact n4.2.2 q (.inl rfl) q hqb rfl
  rw [h2.upto q hnot]
  exact X.fresh q hqn
end Go.Hl

/-
  Contracts of functions and laws of the layer over the walk.
-/
import Derived.Test.YthcfmnldhokmiaaGreatHlC
/-
  Own values: slices that own their rows, and the slices in their cells that own theirs. They are sealed all at once, and can be lent out for a call.
-/
namespace Go.Hl
set_option linter.unusedVariables false
set_option linter.unusedSimpArgs false

/-- An own value: one that owns nothing, or a slice with the named row that it owns. -/
inductive OV where
  | v (x : HVal)
  | nil (sz : Nat)
  | sl (n sz : Nat) (es : List (List OV))

def OV.val : OV → HVal
  | .v x => x
  | .nil sz => .sl sz [] true
  | .sl n sz es => .os n sz 0 es.length

mutual
/-- What it reads as when nobody writes it any more. -/
def OV.dat : OV → HVal
  | .v x => x
  | .nil sz => .sl sz [] false
  | .sl n sz es => .sl sz (OV.datRows es) false
def OV.datRows : List (List OV) → List (List HVal)
  | [] => []
  | e :: es => OV.datRow e :: OV.datRows es
def OV.datRow : List OV → List HVal
  | [] => []
  | x :: e => x.dat :: OV.datRow e
end
theorem OV.datRow_map : ∀ (e : List OV), OV.datRow e = e.map OV.dat
  | [] => rfl
  | x :: e => by rw [OV.datRow, OV.datRow_map e]; rfl
theorem OV.datRows_map : ∀ (es : List (List OV)), OV.datRows es = es.map (List.map OV.dat)
  | [] => rfl
  | e :: es => by rw [OV.datRows, OV.datRows_map es, OV.datRow_map]; rfl

/-- The cells of an own slice's row. -/
def OV.cells (es : List (List OV)) : List (List Cell) := es.map (List.map fun c => Cell.v c.val)

mutual
/-- The named rows that it owns. -/
def OV.rows : OV → List (Nat × HObj)
  | .v _ => []
  | .nil _ => []
  | .sl n sz es => (n, .row sz (OV.cells es)) :: OV.rowsRows es
def OV.rowsRows : List (List OV) → List (Nat × HObj)
  | [] => []
  | e :: es => OV.rowsRow e ++ OV.rowsRows es
def OV.rowsRow : List OV → List (Nat × HObj)
  | [] => []
  | x :: e => x.rows ++ OV.rowsRow e
end
/-- The rows are there. -/
def Owns (h : Heap) (l : List (Nat × HObj)) : Prop := ∀ p ∈ l, h p.1 = some p.2

/-- Some names given up. -/
def goneL (h : Heap) (S : List Nat) : Heap := fun m => if m ∈ S then (h m).map fun _ => .gone else h m

theorem goneL_mem {h : Heap} {S : List Nat} {m : Nat} {o : HObj} (hm : m ∈ S) (ho : goneL h S m = some o) : o = .gone := by
  simp only [goneL, if_pos hm, Option.map_eq_some_iff] at ho
  obtain ⟨_, _, rfl⟩ := ho; rfl
theorem goneL_not {h : Heap} {S : List Nat} {m : Nat} (hm : m ∉ S) : goneL h S m = h m := by simp only [goneL, if_neg hm]

theorem imm_goneL {E : Env} {h : Heap} {w : World} (S : List Nat) (b : Nat) (i : Imm E h w b) : Imm E (goneL h S) w b :=
  ⟨i.1, fun m o hm ho => by
    by_cases e : m ∈ S
    · rw [goneL_mem e hm] at ho; exact ho.elim
    · rw [goneL_not e] at hm; exact i.2 m o hm ho⟩
theorem imm_of_goneL {E : Env} {h : Heap} {w : World} (R : Rel E h w) {S : List Nat} {n : Nat} (hS : n ∈ S) {x : HObj} (hn : h n = some x) (hx : x.live) (b : Nat) (hb : E.fp n b) : Imm E (goneL h S) w b :=
  ⟨R.lt n x b hn hx hb, fun m o hm ho hf => by
    by_cases e : m ∈ S
    · rw [goneL_mem e hm] at ho; exact ho.elim
    · rw [goneL_not e] at hm
      have := R.apart m o n x b hm ho hn hx hf hb
      exact e (this ▸ hS)⟩
theorem Rel.goneL {E : Env} {h : Heap} {w : World} (R : Rel E h w) (S : List Nat) : Rel E (goneL h S) w := by
  refine ⟨R.fin, fun m hm => ?_, ?_, ?_, ?_, R.laid.imm (imm_goneL S)⟩
  · by_cases e : m ∈ S
    · refine R.dom m fun q => hm ?_
      simp only [Hl.goneL, if_pos e, q, Option.map_none]
    · rw [goneL_not e] at hm; exact R.dom m hm
  · intro m o b hm ho
    by_cases e : m ∈ S
    · rw [goneL_mem e hm] at ho; exact ho.elim
    · rw [goneL_not e] at hm; exact R.lt m o b hm ho
  · intro m o m' o' b hm ho hm' ho'
    by_cases e : m ∈ S
    · rw [goneL_mem e hm] at ho; exact ho.elim
    · by_cases e' : m' ∈ S
      · rw [goneL_mem e' hm'] at ho'; exact ho'.elim
      · rw [goneL_not e] at hm; rw [goneL_not e'] at hm'; exact R.apart m o m' o' b hm ho hm' ho'
  · intro m o hm
    by_cases e : m ∈ S
    · rw [goneL_mem e hm]; trivial
    · rw [goneL_not e] at hm; exact (R.obj m o hm).imm fun b => imm_goneL S b
theorem Ev.goneL {E : Env} {h : Heap} {w : World} (S : List Nat) : Ev E h w E (goneL h S) w :=
  ⟨Nat.le_refl _, fun b hb => ⟨rfl, imm_goneL S b hb⟩, fun _ _ => rfl, fun _ hn => ⟨rfl, hn⟩, rfl, rfl⟩

mutual
theorem Rep.unown {E : Env} {h : Heap} {w : World} (R : Rel E h w) {S : List Nat} : ∀ (x : OV), Owns h x.rows → (∀ p ∈ x.rows, p.1 ∈ S) → ∀ v, Rep E h w x.val v → Rep E (Hl.goneL h S) w x.dat v
  | .v x, _, _, v, r => Rep.imm (fun b => imm_goneL S b) r
  | .nil sz, _, _, v, r => Sub.loose sz [] true _ _ _ _ (Rep.imm (fun b => imm_goneL S b) (show Rep E h w (.sl sz [] true) v from r))
  | .sl n sz es, ho, hS, v, r => by
    have hn : h n = some (.row sz (OV.cells es)) := ho (n, _) (by rw [OV.rows]; exact List.mem_cons_self)
    have hnS : n ∈ S := hS (n, _) (by rw [OV.rows]; exact List.mem_cons_self)
    simp only [OV.val] at r
    simp only [OV.dat]
    have hcells : ∀ i j y, at2 (OV.cells es) i j = some y → ∃ c, at2 es i j = some c ∧ y = .v c.val := by
      intro i j y hy
      rw [OV.cells, at2_map] at hy
      obtain ⟨c, hc, rfl⟩ := Option.map_eq_some_iff.1 hy
      exact ⟨c, hc, rfl⟩
    have hdat : ∀ i j y, at2 (OV.datRows es) i j = some y → ∃ c, at2 es i j = some c ∧ y = c.dat := by
      intro i j y hy
      rw [OV.datRows_map, at2_map] at hy
      obtain ⟨c, hc, rfl⟩ := Option.map_eq_some_iff.1 hy
      exact ⟨c, hc, rfl⟩
    have hlen : (OV.datRows es).length = es.length := by rw [OV.datRows_map, List.length_map]
    have key : ∀ L, L = es.length → Rep E h w (.os n sz 0 L) v → Rep E (Hl.goneL h S) w (.sl sz (OV.datRows es) false) v := by
      intro L hL r
      cases r with
      | os0 _ _ hd hl =>
        have : es = [] := List.eq_nil_of_length_eq_zero hL.symm
        subst this
        exact .sl0 sz false none 0 (fun _ => rfl) (by simp [maxLen]) trivial
      | os _ _ _ _ b o cap t m hd hl hlc hmax hsh hm =>
        obtain ⟨b', o', hl', hbS, hs, cs, ct, cv, T, hh, hm', hT, hD, hc, hrr⟩ := row_of R hn (.inr ⟨_, hl⟩)
        rw [hl] at hl'
        obtain ⟨rfl, rfl⟩ := Prod.mk.inj (Option.some.inj hl')
        have himm : ∀ c, E.fp n c → Imm E (Hl.goneL h S) w c := fun c hc => imm_of_goneL R hnS hn trivial c hc
        have hcs : ∀ i j y, at2 (OV.datRows es) i j = some y → ∃ c, at2 es i j = some c ∧ y = c.dat ∧ cs[o + i * sz + j]? = some (cv i j) ∧ (cv i j).oneCell' = true ∧ Rep E h w c.val (cv i j) := by
          intro i j y hy
          obtain ⟨c, hc1, rfl⟩ := hdat i j y hy
          have hcell : at2 (OV.cells es) i j = some (.v c.val) := by rw [OV.cells, at2_map, hc1]; rfl
          have h2 := hrr i j _ hcell
          cases h2 with
          | v x c' S' h1 hx => exact ⟨c, hc1, rfl, hc i j _ hcell, h1, hx⟩
        have := Rep.sl (E := E) (h := Hl.goneL h S) (w := w) sz (OV.datRows es) false b (o + 0 * sz) cap cv (himm b hbS) (by rw [hlen, ← hL]; exact hlc) hmax (fun e => by simp at e)
          (fun e he => by
            rw [OV.datRows_map, List.mem_map] at he
            obtain ⟨e', he', rfl⟩ := he
            have := hs (e'.map fun c => Cell.v c.val) (List.mem_map.2 ⟨e', he', rfl⟩)
            simpa using this)
          (fun i j y hy => by
            obtain ⟨c, _, _, h1, _, _⟩ := hcs i j y hy
            simp only [World.cell?, hh]
            rw [← h1]
            simp)
          (fun i j y hy => by obtain ⟨c, _, _, _, h1, _⟩ := hcs i j y hy; exact h1)
          (fun i j y hy => by
            obtain ⟨c, hc1, rfl, _, _, h1⟩ := hcs i j y hy
            obtain ⟨e, he, hj⟩ := at2_some hc1
            exact unownRows R es (fun p hp => ho p (by rw [OV.rows]; exact List.mem_cons_of_mem _ hp)) (fun p hp => hS p (by rw [OV.rows]; exact List.mem_cons_of_mem _ hp)) e (List.mem_of_getElem? he) c (List.mem_of_getElem? hj) _ h1)
        rw [hlen, ← hL] at this
        exact this
    exact key _ rfl r
theorem unownRows {E : Env} {h : Heap} {w : World} (R : Rel E h w) {S : List Nat} : ∀ (es : List (List OV)), Owns h (OV.rowsRows es) → (∀ p ∈ OV.rowsRows es, p.1 ∈ S) → ∀ e ∈ es, ∀ c ∈ e, ∀ v, Rep E h w c.val v → Rep E (Hl.goneL h S) w c.dat v
  | [], _, _, e, he, _, _, _, _ => by simp at he
  | a :: es, ho, hS, e, he, c, hc, v, r => by
    rcases List.mem_cons.1 he with h1 | h1
    · rw [h1] at hc
      exact unownRow R a (fun p hp => ho p (by rw [OV.rowsRows]; exact List.mem_append_left _ hp)) (fun p hp => hS p (by rw [OV.rowsRows]; exact List.mem_append_left _ hp)) c hc v r
    · exact unownRows R es (fun p hp => ho p (by rw [OV.rowsRows]; exact List.mem_append_right _ hp)) (fun p hp => hS p (by rw [OV.rowsRows]; exact List.mem_append_right _ hp)) e h1 c hc v r
theorem unownRow {E : Env} {h : Heap} {w : World} (R : Rel E h w) {S : List Nat} : ∀ (e : List OV), Owns h (OV.rowsRow e) → (∀ p ∈ OV.rowsRow e, p.1 ∈ S) → ∀ c ∈ e, ∀ v, Rep E h w c.val v → Rep E (Hl.goneL h S) w c.dat v
  | [], _, _, c, hc, _, _ => by simp at hc
  | a :: e, ho, hS, c, hc, v, r => by
    rcases List.mem_cons.1 hc with h1 | h1
    · rw [h1] at r ⊢
      exact Rep.unown R a (fun p hp => ho p (by rw [OV.rowsRow]; exact List.mem_append_left _ hp)) (fun p hp => hS p (by rw [OV.rowsRow]; exact List.mem_append_left _ hp)) v r
    · exact unownRow R e (fun p hp => ho p (by rw [OV.rowsRow]; exact List.mem_append_right _ hp)) (fun p hp => hS p (by rw [OV.rowsRow]; exact List.mem_append_right _ hp)) c h1 v r
end

/-! ### lending -/
/-! ### what an own value stands for -/
def OR {α : Type} (R : α → List OV → Prop) : List α → List (List OV) → Prop
  | [], [] => True
  | x :: l, e :: es => R x e ∧ OR R l es
  | _, _ => False
/-- An own slice that stands for a list. -/
def OS {α : Type} (R : α → List OV → Prop) (sz : Nat) (l : List α) (y : OV) : Prop := (y = .nil sz ∧ l = []) ∨ ∃ n es, y = .sl n sz es ∧ OR R l es
def oP {α : Type} (c : α → HVal) (x : α) (e : List OV) : Prop := e = [.v (c x)]
theorem OR.length {α : Type} {R : α → List OV → Prop} : ∀ {l : List α} {es : List (List OV)}, OR R l es → l.length = es.length
  | [], [], _ => rfl
  | x :: l, e :: es, h => by simpa using OR.length h.2
  | [], _ :: _, h => h.elim
  | _ :: _, [], h => h.elim
theorem OR.get {α : Type} {R : α → List OV → Prop} : ∀ {l : List α} {es : List (List OV)}, OR R l es → ∀ (i : Nat) x e, l[i]? = some x → es[i]? = some e → R x e
  | x :: l, e :: es, h, 0, y, d, hy, hd => by simp at hy hd; subst hy; subst hd; exact h.1
  | x :: l, e :: es, h, i + 1, y, d, hy, hd => OR.get h.2 i y d (by simpa using hy) (by simpa using hd)
  | [], [], _, i, y, d, hy, _ => by simp at hy
  | [], _ :: _, h, _, _, _, _, _ => h.elim
  | _ :: _, [], h, _, _, _, _, _ => h.elim
theorem OR.append {α : Type} {R : α → List OV → Prop} : ∀ {l l' : List α} {es es' : List (List OV)}, OR R l es → OR R l' es' → OR R (l ++ l') (es ++ es')
  | [], _, [], _, _, h => h
  | x :: l, _, e :: es, _, a, h => ⟨a.1, OR.append a.2 h⟩
  | [], _, _ :: _, _, a, _ => a.elim
  | _ :: _, _, [], _, a, _ => a.elim
theorem OR.dat {α : Type} {R : α → List OV → Prop} {c : α → List HVal} (hR : ∀ x e, R x e → e.map OV.dat = c x) : ∀ {l : List α} {es : List (List OV)}, OR R l es → OV.datRows es = l.map c
  | [], [], _ => rfl
  | x :: l, e :: es, h => by rw [OV.datRows, OR.dat hR h.2, OV.datRow_map, hR x e h.1]; rfl
  | [], _ :: _, h => h.elim
  | _ :: _, [], h => h.elim
theorem OS.dat {α : Type} {R : α → List OV → Prop} {c : α → List HVal} {sz : Nat} {l : List α} {y : OV} (hR : ∀ x e, R x e → e.map OV.dat = c x) (h : OS R sz l y) : y.dat = .sl sz (l.map c) false := by
  rcases h with ⟨rfl, rfl⟩ | ⟨n, es, rfl, h⟩
  · rfl
  · simp only [OV.dat, OR.dat hR h]
def namesOf (l : List (Nat × HObj)) : List Nat := l.map (·.1)
/-- Other names are as they were. -/
def Upto (S : List Nat) (h h' : Heap) : Prop := ∀ m, m ∉ S → h' m = h m
end Go.Hl

/-
  The row's end for laws whose contract starts where no row has a name.
-/
namespace Go.Hl
open Go.ChangeShapes Go.WideShapes
set_option linter.unusedVariables false
set_option linter.unusedSimpArgs false
/-- What laws.sz* counts of a slice. -/
def szs {α : Type} (s : α → Nat) (l : List α) : Nat := l.length + (l.map s).sum
theorem szs_eq {α : Type} (s : α → Nat) (l : List α) : szs s l = l.length + (l.map s).sum := rfl
end Go.Hl

/-
  New own values behind a call.
-/
namespace Go.Hl
set_option linter.unusedVariables false
set_option linter.unusedSimpArgs false

theorem namesOf_append (a b : List (Nat × HObj)) : namesOf (a ++ b) = namesOf a ++ namesOf b := List.map_append
theorem mem_namesOf {l : List (Nat × HObj)} {m : Nat} : m ∈ namesOf l ↔ ∃ o, (m, o) ∈ l := by
  simp [namesOf]

/-- Rows that were not there: their names differ, nobody had them, and nothing else has changed. -/
structure New (h : Heap) (l : List (Nat × HObj)) (h' : Heap) : Prop where
  nodup : (namesOf l).Nodup
  fresh : ∀ m ∈ namesOf l, h m = none
  owns : Owns h' l
  upto : Upto (namesOf l) h h'

theorem New.nil (h : Heap) : New h [] h := ⟨List.nodup_nil, by simp [namesOf], by simp [Owns], fun m _ => rfl⟩
theorem New.one {h : Heap} {n : Nat} {o : HObj} (hn : h n = none) : New h [(n, o)] (upd h n o) :=
  ⟨by simp [namesOf], by simpa [namesOf] using hn, by simp [Owns], fun m hm => upd_ne _ _ _ _ (by simpa [namesOf] using hm)⟩
theorem New.append {h h1 h2 : Heap} {a b : List (Nat × HObj)} (x : New h a h1) (y : New h1 b h2) : New h (a ++ b) h2 := by
  have dis : ∀ m ∈ namesOf a, m ∉ namesOf b := fun m hm hb => by
    obtain ⟨o, ho⟩ := mem_namesOf.1 hm
    have := y.fresh m hb
    rw [x.owns _ ho] at this; cases this
  refine ⟨?_, ?_, ?_, ?_⟩
  · rw [namesOf_append]
    exact List.nodup_append.2 ⟨x.nodup, y.nodup, fun p hp q hq e => dis p hp (e ▸ hq)⟩
  · intro m hm
    rw [namesOf_append, List.mem_append] at hm
    by_cases hb : m ∈ namesOf a
    · exact x.fresh m hb
    · rcases hm with hm | hm
      · exact absurd hm hb
      · rw [← x.upto m hb]; exact y.fresh m hm
  · intro p hp
    rcases List.mem_append.1 hp with hp | hp
    · have : p.1 ∈ namesOf a := mem_namesOf.2 ⟨p.2, hp⟩
      rw [y.upto p.1 (dis _ this)]; exact x.owns p hp
    · exact y.owns p hp
  · intro m hm
    rw [namesOf_append, List.mem_append] at hm
    rw [y.upto m fun q => hm (.inr q), x.upto m fun q => hm (.inl q)]
theorem New.perm {h h' : Heap} {a b : List (Nat × HObj)} (x : New h a h') (p : a.Perm b) : New h b h' :=
  ⟨(p.map _).nodup_iff.1 x.nodup, fun m hm => x.fresh m (((p.map (·.1)).mem_iff).2 hm), fun q hq => x.owns q (p.mem_iff.2 hq), fun m hm => x.upto m fun q => hm (((p.map (·.1)).mem_iff).1 q)⟩
/-- One row is rewritten. -/
theorem New.set {h h' : Heap} {n : Nat} {o o' : HObj} {l : List (Nat × HObj)} (x : New h ((n, o) :: l) h') : New h ((n, o') :: l) (upd h' n o') := by
  have hnd := x.nodup
  have hn : n ∉ namesOf l := by
    have : (namesOf ((n, o) :: l)).Nodup := hnd
    simp only [namesOf, List.map_cons, List.nodup_cons] at this
    exact this.1
  refine ⟨hnd, x.fresh, ?_, fun m hm => ?_⟩
  · intro p hp
    rcases List.mem_cons.1 hp with rfl | hp
    · exact upd_same _ _ _
    · have : p.1 ≠ n := fun e => hn (e ▸ mem_namesOf.2 ⟨p.2, hp⟩)
      rw [upd_ne _ _ _ _ this]; exact x.owns p (List.mem_cons_of_mem _ hp)
  · have : m ≠ n := fun e => hm (by subst e; simp [namesOf])
    rw [upd_ne _ _ _ _ this]; exact x.upto m hm
/-- Rows that are forgotten. -/
def dropN (h : Heap) (S : List Nat) : Heap := fun m => if m ∈ S then none else h m
/-- .. new ones, of which some are forgotten. -/
theorem New.drop {h h' : Heap} {a b : List (Nat × HObj)} (x : New h (a ++ b) h') : New h b (dropN h' (namesOf a)) := by
  have hnd := x.nodup
  rw [namesOf_append] at hnd
  obtain ⟨_, nb, dis⟩ := List.nodup_append.1 hnd
  refine ⟨nb, fun m hm => x.fresh m (by rw [namesOf_append]; exact List.mem_append_right _ hm), fun p hp => ?_, fun m hm => ?_⟩
  · have : p.1 ∉ namesOf a := fun q => dis _ q _ (mem_namesOf.2 ⟨p.2, hp⟩) rfl
    simp only [dropN, if_neg this]
    exact x.owns p (List.mem_append_right _ hp)
  · by_cases e : m ∈ namesOf a
    · simp only [dropN, if_pos e]
      exact (x.fresh m (by rw [namesOf_append]; exact List.mem_append_left _ e)).symm
    · simp only [dropN, if_neg e]
      exact x.upto m (by rw [namesOf_append]; simp [e, hm])

/-- From an own result to a sealed one. -/
theorem seal_own {P : Program} {f : FuncId} {args : List HVal} {r : HVal} {K : HVal → Heap → Prop} (h : Heap) (a : HFn P f args h K)
    (hk : ∀ r' h', K r' h' → ∃ l, New h l h' ∧ ∀ E w v, Rel E h' w → Rep E h' w r' v → Rep E (goneL h' (namesOf l)) w r v) : HFn P f args h fun r' h' => r' = r ∧ h' = h :=
  ⟨a.1, fun E w vs R hv => Calls.mono (a.2 E w vs R hv) fun e w' he => by
    cases e <;> try exact he
    obtain ⟨r', h', E', k, ev, R', rx⟩ := he
    obtain ⟨l, nw, hr⟩ := hk r' h' k
    have hle : h.le (goneL h' (namesOf l)) := fun m => by
      by_cases e : m ∈ namesOf l
      · exact .inl (nw.fresh m e)
      · rw [goneL_not e, nw.upto m e]; exact .inr rfl
    refine ⟨r, h, E', ⟨rfl, rfl⟩, ev.trans ((Ev.goneL _).forget hle), (R'.goneL _).forget hle, ?_⟩
    refine Rep.imm (fun b hb => Imm.le hle hb) (hr E' w' _ R' rx)⟩
theorem RepL.unown {E : Env} {h : Heap} {w : World} (R : Rel E h w) {S : List Nat} : ∀ (e : List OV) (vs : List Value), Owns h (OV.rowsRow e) → (∀ p ∈ OV.rowsRow e, p.1 ∈ S) → RepL E h w (e.map OV.val) vs → RepL E (goneL h S) w (e.map OV.dat) vs
  | [], [], _, _, _ => trivial
  | x :: e, v :: vs, ho, hS, hr => ⟨Rep.unown R x (fun p hp => ho p (by rw [OV.rowsRow]; exact List.mem_append_left _ hp)) (fun p hp => hS p (by rw [OV.rowsRow]; exact List.mem_append_left _ hp)) v hr.1,
      RepL.unown R e vs (fun p hp => ho p (by rw [OV.rowsRow]; exact List.mem_append_right _ hp)) (fun p hp => hS p (by rw [OV.rowsRow]; exact List.mem_append_right _ hp)) hr.2⟩
  | [], _ :: _, _, _, hr => hr.elim
  | _ :: _, [], _, _, hr => hr.elim
theorem Rep.unownAgg {E : Env} {h : Heap} {w : World} (R : Rel E h w) {S : List Nat} (e : List OV) (v : Value) (ho : Owns h (OV.rowsRow e)) (hS : ∀ p ∈ OV.rowsRow e, p.1 ∈ S) (hr : Rep E h w (.agg (e.map OV.val)) v) : Rep E (goneL h S) w (.agg (e.map OV.dat)) v := by
  cases hr with
  | agg _ vs hl hr =>
    have := RepL.unown R e vs ho hS (RepL.mk hl hr)
    exact .agg _ vs this.length this.get
/-- A cell that holds an own slice. -/
def oS {α : Type} (R : α → List OV → Prop) (sz : Nat) (l : List α) (e : List OV) : Prop := ∃ y, e = [y] ∧ OS R sz l y
theorem oP_dat {α : Type} {c : α → HVal} {x : α} {e : List OV} (h : oP c x e) : e.map OV.dat = [c x] := by
  unfold oP at h; subst h; rfl
end Go.Hl

/-
  New own values, and rows that are thrown away.
-/
namespace Go.Hl
set_option linter.unusedVariables false
set_option linter.unusedSimpArgs false

/-- Rows that were not there (l), and others that were not there and don't matter (T). -/
structure NewT (h : Heap) (T : List Nat) (l : List (Nat × HObj)) (h' : Heap) : Prop where
  nodup : (T ++ namesOf l).Nodup
  fresh : ∀ m ∈ T ++ namesOf l, h m = none
  there : ∀ m ∈ T, h' m ≠ none
  owns : Owns h' l
  upto : Upto (T ++ namesOf l) h h'

theorem NewT.nil (h : Heap) : NewT h [] [] h := ⟨List.nodup_nil, by simp [namesOf], by simp, by simp [Owns], fun m _ => rfl⟩
theorem NewT.toNew {h h' : Heap} {l : List (Nat × HObj)} (x : NewT h [] l h') : New h l h' := ⟨x.nodup, x.fresh, x.owns, x.upto⟩
theorem New.toT {h h' : Heap} {l : List (Nat × HObj)} (x : New h l h') : NewT h [] l h' := ⟨x.nodup, x.fresh, by simp, x.owns, x.upto⟩
theorem NewT.drop {h h' : Heap} {T : List Nat} {l : List (Nat × HObj)} (x : NewT h T l h') : New h l (dropN h' T) := by
  obtain ⟨_, nb, dis⟩ := List.nodup_append.1 x.nodup
  refine ⟨nb, fun m hm => x.fresh m (List.mem_append_right _ hm), fun p hp => ?_, fun m hm => ?_⟩
  · have : p.1 ∉ T := fun q => dis _ q _ (mem_namesOf.2 ⟨p.2, hp⟩) rfl
    simp only [dropN, if_neg this]
    exact x.owns p hp
  · by_cases e : m ∈ T
    · simp only [dropN, if_pos e]
      exact (x.fresh m (List.mem_append_left _ e)).symm
    · simp only [dropN, if_neg e]
      exact x.upto m (by simp [e, hm])
theorem NewT.some {h h' : Heap} {T : List Nat} {l : List (Nat × HObj)} (x : NewT h T l h') {m : Nat} (hm : m ∈ T ++ namesOf l) : h' m ≠ none := by
  rcases List.mem_append.1 hm with hm | hm
  · exact x.there m hm
  · obtain ⟨o, ho⟩ := mem_namesOf.1 hm
    rw [x.owns _ ho]; simp
/-- One row more that matters. -/
theorem NewT.row {h h' : Heap} {T : List Nat} {l : List (Nat × HObj)} (x : NewT h T l h') {n : Nat} {o : HObj} (hn : h' n = none) : NewT h T ((n, o) :: l) (upd h' n o) := by
  have hn1 : n ∉ T ++ namesOf l := fun q => x.some q hn
  have nd := List.nodup_append.1 x.nodup
  refine ⟨List.nodup_append.2 ⟨nd.1, ?_, ?_⟩, ?_, ?_, fun p hp => ?_, fun m hm => ?_⟩
  · show (n :: namesOf l).Nodup
    exact List.nodup_cons.2 ⟨fun q => hn1 (List.mem_append_right _ q), nd.2.1⟩
  · intro a ha b hb e
    have hb' : b ∈ n :: namesOf l := hb
    rcases List.mem_cons.1 hb' with rfl | hb'
    · exact hn1 (e ▸ List.mem_append_left _ ha)
    · exact nd.2.2 a ha b hb' e
  · intro m hm
    rcases List.mem_append.1 hm with hm | hm
    · exact x.fresh m (List.mem_append_left _ hm)
    · have hm' : m ∈ n :: namesOf l := hm
      rcases List.mem_cons.1 hm' with rfl | hm'
      · rw [← x.upto m hn1]; exact hn
      · exact x.fresh m (List.mem_append_right _ hm')
  · intro m hm
    have : m ≠ n := fun e => hn1 (e ▸ List.mem_append_left _ hm)
    rw [upd_ne _ _ _ _ this]; exact x.there m hm
  · rcases List.mem_cons.1 hp with rfl | hp
    · exact upd_same _ _ _
    · have : p.1 ≠ n := fun e => hn1 (e ▸ List.mem_append_right _ (mem_namesOf.2 ⟨p.2, hp⟩))
      rw [upd_ne _ _ _ _ this]; exact x.owns p hp
  · have h1 : m ≠ n := fun e => hm (e ▸ List.mem_append_right _ (by simp [namesOf]))
    rw [upd_ne _ _ _ _ h1]
    refine x.upto m fun q => hm ?_
    rcases List.mem_append.1 q with q | q
    · exact List.mem_append_left _ q
    · exact List.mem_append_right _ (List.mem_cons_of_mem _ q)
/-- A call that brings new rows. -/
theorem NewT.call {h h1 h2 : Heap} {T : List Nat} {a b : List (Nat × HObj)} (x : NewT h T a h1) (y : New h1 b h2) : NewT h T (a ++ b) h2 := by
  have dis : ∀ m ∈ T ++ namesOf a, m ∉ namesOf b := fun m hm hb => x.some hm (y.fresh m hb)
  have mm : ∀ m, m ∈ T ++ namesOf (a ++ b) ↔ m ∈ T ++ namesOf a ∨ m ∈ namesOf b := fun m => by
    rw [namesOf_append]; simp only [List.mem_append, or_assoc]
  refine ⟨?_, ?_, ?_, ?_, ?_⟩
  · rw [namesOf_append, ← List.append_assoc]
    exact List.nodup_append.2 ⟨x.nodup, y.nodup, fun p hp q hq e => dis p hp (e ▸ hq)⟩
  · intro m hm
    by_cases e : m ∈ T ++ namesOf a
    · exact x.fresh m e
    · rcases (mm m).1 hm with q | q
      · exact absurd q e
      · rw [← x.upto m e]; exact y.fresh m q
  · intro m hm
    rw [y.upto m (dis m (List.mem_append_left _ hm))]; exact x.there m hm
  · intro p hp
    rcases List.mem_append.1 hp with hp | hp
    · rw [y.upto p.1 (dis _ (List.mem_append_right _ (mem_namesOf.2 ⟨p.2, hp⟩)))]; exact x.owns p hp
    · exact y.owns p hp
  · intro m hm
    have h1 := fun q => hm ((mm m).2 q)
    rw [y.upto m fun q => h1 (.inr q), x.upto m fun q => h1 (.inl q)]
/-- What a row reads as behind a call that brings new rows. -/
theorem New.keep {h h' : Heap} {l : List (Nat × HObj)} (x : New h l h') {n : Nat} {o : HObj} (hn : h n = some o) : h' n = some o := by
  rw [x.upto n fun q => by rw [x.fresh n q] at hn; cases hn]; exact hn
/-- The first row is written anew. -/
theorem NewT.set {h h' : Heap} {T : List Nat} {n : Nat} {o o' : HObj} {l : List (Nat × HObj)} (x : NewT h T ((n, o) :: l) h') : NewT h T ((n, o') :: l) (upd h' n o') := by
  have nd := List.nodup_append.1 x.nodup
  have nd2 : (n :: namesOf l).Nodup := nd.2.1
  refine ⟨x.nodup, x.fresh, fun m hm => ?_, fun p hp => ?_, fun m hm => ?_⟩
  · by_cases e : m = n
    · subst e; simp
    · rw [upd_ne _ _ _ _ e]; exact x.there m hm
  · rcases List.mem_cons.1 hp with rfl | hp
    · exact upd_same _ _ _
    · have : p.1 ≠ n := fun e => (List.nodup_cons.1 nd2).1 (e ▸ mem_namesOf.2 ⟨p.2, hp⟩)
      rw [upd_ne _ _ _ _ this]; exact x.owns p (List.mem_cons_of_mem _ hp)
  · have h1 : m ≠ n := fun e => hm (e ▸ List.mem_append_right _ (by simp [namesOf]))
    rw [upd_ne _ _ _ _ h1]; exact x.upto m hm
theorem OR_map {α : Type} {c : α → HVal} : ∀ (l : List α), OR (oP c) l (l.map fun x => [.v (c x)])
  | [] => trivial
  | x :: l => ⟨rfl, OR_map l⟩
theorem cells_map {α : Type} (c : α → HVal) (l : List α) : OV.cells (l.map fun x => [OV.v (c x)]) = (l.map fun x => [c x]).map (List.map .v) := by
  simp [OV.cells, OV.val]
theorem rows_map {α : Type} (c : α → HVal) : ∀ (l : List α), OV.rowsRows (l.map fun x => [OV.v (c x)]) = []
  | [] => rfl
  | x :: l => by rw [List.map_cons, OV.rowsRows, rows_map c l]; rfl
theorem OS.flat {α : Type} {R : α → List OV → Prop} {sz : Nat} {l : List α} {y : OV} (h : OS R sz l y) : y.val.flat = true := by
  rcases h with ⟨rfl, _⟩ | ⟨n, es, rfl, _⟩ <;> rfl
theorem OS.one {α : Type} {R : α → List OV → Prop} {sz : Nat} {l : List α} {y : OV} (h : OS R sz l y) : y.val.cells = [y.val] := by
  rcases h with ⟨rfl, _⟩ | ⟨n, es, rfl, _⟩ <;> rfl
end Go.Hl

/-
  Own results: contracts, calls under temporary rows, and calls that view all own rows as memory that nobody writes.
-/
namespace Go.Hl
set_option linter.unusedVariables false
set_option linter.unusedSimpArgs false

/-- A contract of a function that hands back new own rows. -/
def FnN (P : Program) (f : FuncId) (args : List HVal) (Q : HVal → List (Nat × HObj) → Prop) : Prop := ∀ h : Heap, HFn P f args h fun r h' => ∃ l, Q r l ∧ New h l h'

theorem New.under {g h' : Heap} {n : Nat} {o : HObj} {l : List (Nat × HObj)} (hg : g n = none) (x : New (upd g n o) l h') : ∃ g', h' = upd g' n o ∧ New g l g' ∧ g' n = none := by
  have hn : n ∉ namesOf l := fun q => by have := x.fresh n q; simp at this
  have hk : h' n = some o := x.keep (upd_same _ _ _)
  refine ⟨dropN h' [n], ?_, ⟨x.nodup, fun m hm => ?_, fun p hp => ?_, fun m hm => ?_⟩, by simp [dropN]⟩
  · funext m
    by_cases e : m = n
    · subst e; rw [upd_same, hk]
    · rw [upd_ne _ _ _ _ e]; simp [dropN, e]
  · have e : m ≠ n := fun e => hn (e ▸ hm)
    have := x.fresh m hm
    rwa [upd_ne _ _ _ _ e] at this
  · have e : p.1 ≠ n := fun e => hn (e ▸ mem_namesOf.2 ⟨p.2, hp⟩)
    have : dropN h' [n] p.1 = h' p.1 := by simp [dropN, e]
    rw [this]; exact x.owns p hp
  · by_cases e : m = n
    · subst e; rw [hg]; simp [dropN]
    · have : dropN h' [n] m = h' m := by simp [dropN, e]
      rw [this, x.upto m hm, upd_ne _ _ _ _ e]
section
variable {P : Program} {f : FuncId} {args : List HVal} {Q : HVal → List (Nat × HObj) → Prop} {K : HVal → Heap → Prop} {t : Tag K}
/-- A call that brings new rows. -/
theorem HFnF.nw {g : Heap} (a : FnN P f args Q) (k : ∀ r l g', Q r l → New g l g' → K r g') : HFnF P f args g K t :=
  HFnF.mkH (a g) fun r h' ⟨l, q, hn⟩ => k r l h' q hn
end

/-- The walk of a function that hands back new own rows. -/
theorem fnNF {P : Program} {f : FuncId} {fn : Func} {c : Code} (N : Nat) (keep ib : List Nat) (mk : Marks) {args : List HVal} {Q : HVal → List (Nat × HObj) → Prop} (hmix : P.follows .mixedOrders = true) (hf : P.funcs[f]? = some fn) (hb : fn.body = some c)
    (hck : (callable P f && decide (fn.ntmps = N) && codeOK N mk c) = true) (hl : args.length ≤ N)
    (hw : ∀ h, hwpF P N keep ib mk c (fun τ h' => postF P fn.results (fun r h' => ∃ r1 g l, Shift r h' r1 g ∧ Q r1 l ∧ New h l g) () .normal τ h') (postF P fn.results (fun r h' => ∃ r1 g l, Shift r h' r1 g ∧ Q r1 l ∧ New h l g) ()) (argsT 0 args) h ()) : FnN P f args Q := by
  intro h
  have h1 : HFn P f args h (fun r h' => ∃ r1 g l, Shift r h' r1 g ∧ Q r1 l ∧ New h l g) :=
    HFn.mono (fnHF (K := fun r h' => ∃ r1 g l, Shift r h' r1 g ∧ Q r1 l ∧ New h l g) N keep ib mk hmix hf hb hck hl (by
      have := hw h
      refine Eq.mp ?_ this
      have e : (fun r h' => ∃ r1 g l, Shift r h' r1 g ∧ Q r1 l ∧ New h l g) = (fun r h' => ∃ g' : Heap, g'.le h' ∧ ∃ r1 g l, Shift r g' r1 g ∧ Q r1 l ∧ New h l g) := by
        funext r h'
        refine propext ⟨fun ⟨r1, g, l, s, q⟩ => ⟨h', Heap.le_refl _, r1, g, l, s, q⟩, fun ⟨g', hl, r1, g, l, s, q⟩ => ⟨r1, g, l, (Shift.of (Sub.refl _) hl).trans s, q⟩⟩
      rw [e])) fun r h' q => q
  exact fn_of_wp_shift (fn := fn) (c := c) (N := N) h1 fun r h' ⟨r1, g, l, s, q, n⟩ => ⟨r1, g, s, l, q, n⟩

/-- Own results read as memory that nobody writes. -/
theorem FnN.fn0 {P : Program} {f : FuncId} {args : List HVal} {Q : HVal → List (Nat × HObj) → Prop} {r : HVal} (a : FnN P f args Q)
    (hk : ∀ r' l, Q r' l → ∀ E w v h', Owns h' l → Rel E h' w → Rep E h' w r' v → Rep E (goneL h' (namesOf l)) w r v) : Fn0 P f args r := fun h =>
  seal_own h (a h) fun r' h' ⟨l, q, hn⟩ => ⟨l, hn, fun E w v R rx => hk r' l q E w v h' hn.owns R rx⟩
theorem FnN.mono {P : Program} {f : FuncId} {args : List HVal} {Q Q' : HVal → List (Nat × HObj) → Prop} (a : FnN P f args Q) (hq : ∀ r l, Q r l → Q' r l) : FnN P f args Q' := fun h =>
  (a h).mono fun r h' ⟨l, q, n⟩ => ⟨l, hq r l q, n⟩
theorem FnN.sub {P : Program} {f : FuncId} {xs ys : List HVal} {Q : HVal → List (Nat × HObj) → Prop} (s : SubL xs ys) (a : FnN P f ys Q) : FnN P f xs Q := fun h => HFn.sub s (a h)

/-! ### all own rows as memory that nobody writes, for the time of a call -/
def goneA (h : Heap) : Heap := fun m => (h m).map fun _ => .gone
theorem goneA_live {h : Heap} {m : Nat} {o : HObj} (ho : goneA h m = some o) : o = .gone := by
  simp only [goneA, Option.map_eq_some_iff] at ho
  obtain ⟨_, _, rfl⟩ := ho; rfl
theorem imm_goneA {E : Env} {h : Heap} {w : World} {b : Nat} (hb : b < w.heap.size) : Imm E (goneA h) w b := ⟨hb, fun m o hm ho => by rw [goneA_live hm] at ho; exact ho.elim⟩
theorem Rel.goneA {E : Env} {h : Heap} {w : World} (R : Rel E h w) : Rel E (goneA h) w := by
  refine ⟨R.fin, fun m hm => R.dom m fun q => hm (by simp [Hl.goneA, q]), ?_, ?_, ?_, R.laid.imm fun b hb => imm_goneA hb.1⟩
  · intro m o b hm ho; rw [goneA_live hm] at ho; exact ho.elim
  · intro m o m' o' b hm ho; rw [goneA_live hm] at ho; exact ho.elim
  · intro m o hm; rw [goneA_live hm]; trivial
/-- What a value reads as when all own rows are left alone. -/
def View (h : Heap) (x x' : HVal) : Prop := ∀ E w v, Rel E h w → Rep E h w x v → Rep E (goneA h) w x' v
def ViewL (h : Heap) : List HVal → List HVal → Prop
  | [], [] => True
  | x :: xs, y :: ys => View h x y ∧ ViewL h xs ys
  | _, _ => False
theorem imm_lt {E : Env} {h : Heap} {w : World} {b : Nat} (i : Imm E h w b) : Imm E (goneA h) w b := imm_goneA i.1
theorem View.same (h : Heap) (x : HVal) : View h x x := fun E w v R r => r.imm fun b i => imm_lt i
theorem View.sub {h : Heap} {x y z : HVal} (a : View h x y) (s : Sub y z) : View h x z := fun E w v R r => s _ _ _ _ (a E w v R r)
theorem imm_goneLA {E : Env} {h : Heap} {w : World} {S : List Nat} : ∀ b, Imm E (Hl.goneL h S) w b → Imm E (goneA h) w b := fun b i => imm_goneA i.1
theorem View.ov {h : Heap} (y : OV) (ho : Owns h y.rows) : View h y.val y.dat := fun E w v R r =>
  (Rep.unown R (S := namesOf y.rows) y ho (fun p hp => mem_namesOf.2 ⟨p.2, hp⟩) v r).imm imm_goneLA
theorem View.agg {h : Heap} (e : List OV) (ho : Owns h (OV.rowsRow e)) : View h (.agg (e.map OV.val)) (.agg (e.map OV.dat)) := fun E w v R r =>
  (Rep.unownAgg R (S := namesOf (OV.rowsRow e)) e v ho (fun p hp => mem_namesOf.2 ⟨p.2, hp⟩) r).imm imm_goneLA
/-- A pointer into an own row. -/
theorem View.op {h : Heap} {n sz i off : Nat} (es : List (List OV)) (hn : h n = some (.row sz (OV.cells es))) (hne : es ≠ []) (ho : Owns h (OV.rowsRows es)) : View h (.op n sz i off) (.ip sz (OV.datRows es) i off) := by
  intro E w v R r
  cases v <;> try (cases r; done)
  cases r with
  | op _ _ _ _ b o hd hl =>
    obtain ⟨b', o', hl', hbS, hs, cs, ct, cv, T, hh, hm', hT, hD, hc, hrr⟩ := row_of R hn (.inr ⟨_, hl⟩)
    rw [hl] at hl'
    obtain ⟨rfl, rfl⟩ := Prod.mk.inj (Option.some.inj hl')
    have hcs : ∀ i j y, at2 (OV.datRows es) i j = some y → ∃ c, at2 es i j = some c ∧ y = c.dat ∧ cs[o + i * sz + j]? = some (cv i j) ∧ (cv i j).oneCell' = true ∧ Rep E h w c.val (cv i j) := by
      intro i j y hy
      rw [OV.datRows_map, at2_map] at hy
      obtain ⟨c, hc1, rfl⟩ := Option.map_eq_some_iff.1 hy
      have hcell : at2 (OV.cells es) i j = some (.v c.val) := by rw [OV.cells, at2_map, hc1]; rfl
      have h2 := hrr i j _ hcell
      generalize hcv : cv i j = z at h2
      cases h2 with
      | v x c' S' h1 hx => exact ⟨c, hc1, rfl, hcv ▸ hc i j _ hcell, h1, hx⟩
    refine .ip sz (OV.datRows es) i off b o cv (imm_goneA (R.lt n _ b hn trivial hbS)) ?_ ?_ ?_ ?_
    · intro e he
      rw [OV.datRows_map, List.mem_map] at he
      obtain ⟨e', he', rfl⟩ := he
      have := hs (e'.map fun c => Cell.v c.val) (List.mem_map.2 ⟨e', he', rfl⟩)
      simpa using this
    · intro i j y hy
      obtain ⟨c, _, _, h1, _, _⟩ := hcs i j y hy
      simp only [World.cell?, hh]
      rw [← h1]
      simp
    · intro i j y hy; obtain ⟨c, _, _, _, h1, _⟩ := hcs i j y hy; exact h1
    · intro i j y hy
      obtain ⟨c, hc1, rfl, _, _, h1⟩ := hcs i j y hy
      obtain ⟨e, he, hj⟩ := at2_some hc1
      exact (unownRows R (S := namesOf (OV.rowsRows es)) es ho (fun p hp => mem_namesOf.2 ⟨p.2, hp⟩) e (List.mem_of_getElem? he) c (List.mem_of_getElem? hj) _ h1).imm imm_goneLA
theorem ViewL.repL {h : Heap} : ∀ {xs ys : List HVal}, ViewL h xs ys → ∀ E w vs, Rel E h w → RepL E h w xs vs → RepL E (goneA h) w ys vs
  | [], [], _, E, w, [], R, r => trivial
  | x :: xs, y :: ys, hv, E, w, v :: vs, R, r => ⟨hv.1 E w v R r.1, ViewL.repL hv.2 E w vs R r.2⟩
  | [], [], _, E, w, _ :: _, R, r => r.elim
  | x :: xs, y :: ys, hv, E, w, [], R, r => r.elim
  | [], _ :: _, h, _, _, _, _, _ => h.elim
  | _ :: _, [], h, _, _, _, _, _ => h.elim
theorem ViewL.nil {h : Heap} : ViewL h [] [] := trivial
theorem ViewL.cons {h : Heap} {x y : HVal} {xs ys : List HVal} (a : View h x y) (b : ViewL h xs ys) : ViewL h (x :: xs) (y :: ys) := ⟨a, b⟩
section
variable {P : Program} {f : FuncId} {args args' : List HVal} {Q : HVal → List (Nat × HObj) → Prop} {K : HVal → Heap → Prop} {t : Tag K} {g : Heap}
end

/-! ### own values whose cells point nowhere else -/
end Go.Hl

/-
  What own results are: forms of contracts.
-/
namespace Go.Hl
set_option linter.unusedVariables false
set_option linter.unusedSimpArgs false
/-- An own slice is handed back (w: in what). -/
def QS (R : OV → Prop) (w : HVal → HVal := fun x => x) : HVal → List (Nat × HObj) → Prop := fun r l => ∃ y, R y ∧ r = w y.val ∧ l = y.rows
/-- A struct with own slices is handed back. -/
def QA (R : List OV → Prop) (w : HVal → HVal := fun x => x) : HVal → List (Nat × HObj) → Prop := fun r l => ∃ e, R e ∧ r = w (.agg (e.map OV.val)) ∧ l = OV.rowsRow e
theorem New.row {h h' : Heap} {l : List (Nat × HObj)} (x : New h l h') {n : Nat} {o : HObj} (hn : h' n = none) : New h ((n, o) :: l) (upd h' n o) := (x.toT.row hn).toNew
theorem QS.fn0 {P : Program} {f : FuncId} {args : List HVal} {R : OV → Prop} {d : HVal} (a : FnN P f args (QS R)) (hd : ∀ y, R y → y.dat = d) : Fn0 P f args d :=
  a.fn0 fun r' l ⟨y, hy, e1, e2⟩ E w v h' ho R rx => by
    subst e1 e2
    rw [← hd y hy]
    exact Rep.unown R y ho (fun p hp => mem_namesOf.2 ⟨p.2, hp⟩) v rx
theorem QA.fn0 {P : Program} {f : FuncId} {args : List HVal} {R : List OV → Prop} {d : List HVal} (a : FnN P f args (QA R)) (hd : ∀ e, R e → e.map OV.dat = d) : Fn0 P f args (.agg d) :=
  a.fn0 fun r' l ⟨y, hy, e1, e2⟩ E w v h' ho R rx => by
    subst e1 e2
    rw [← hd y hy]
    exact Rep.unownAgg R y v ho (fun p hp => mem_namesOf.2 ⟨p.2, hp⟩) rx
theorem OS.nil {α : Type} {R : α → List OV → Prop} {sz : Nat} : OS R sz [] (.nil sz) := .inl ⟨rfl, rfl⟩
theorem OS.mk {α : Type} {R : α → List OV → Prop} {sz n : Nat} {l : List α} {es : List (List OV)} (h : OR R l es) : OS R sz l (.sl n sz es) := .inr ⟨n, es, rfl, h⟩
theorem OV.nil_rows (sz : Nat) : (OV.nil sz).rows = [] := by rw [OV.rows]
theorem OV.sl_rows (n sz : Nat) (es : List (List OV)) : (OV.sl n sz es).rows = (n, .row sz (OV.cells es)) :: OV.rowsRows es := by rw [OV.rows]
theorem OV.val_nil (sz : Nat) : (OV.nil sz).val = .sl sz [] true := rfl
theorem OV.val_sl (n sz : Nat) (es : List (List OV)) : (OV.sl n sz es).val = .os n sz 0 es.length := rfl
end Go.Hl

/-
  Own values whose leaves are numbered one after the other (what laws.mark* do).
-/
namespace Go.Hl
set_option linter.unusedVariables false
set_option linter.unusedSimpArgs false

/-- Decimal digits; none of 0. -/
def decDig (n : Nat) : List UInt8 := if h : n = 0 then [] else decDig (n / 10) ++ [UInt8.ofNat (48 + n % 10)]
termination_by n
decreasing_by omega
/-- laws.markText -/
def mtext (k : Int) : List UInt8 := if k ≤ 0 then [109, 48] else 109 :: decDig k.toNat

mutual
def OV.ct : OV → Nat
  | .v _ => 1
  | .nil _ => 0
  | .sl _ _ es => OV.ctRows es
def OV.ctRows : List (List OV) → Nat
  | [] => 0
  | e :: es => OV.ctRow e + OV.ctRows es
def OV.ctRow : List OV → Nat
  | [] => 0
  | x :: e => x.ct + OV.ctRow e
end
/-- A leaf with its number. -/
def leafMk (k : Int) : HVal → HVal
  | .int t _ => .int t k
  | .bool _ => .bool (decide (k.tmod 3 = 0))
  | .str _ => .str (mtext k)
  | x => x
mutual
def OV.mk (k : Int) : OV → OV
  | .v x => .v (leafMk k x)
  | .nil sz => .nil sz
  | .sl n sz es => .sl n sz (OV.mkRows k es)
def OV.mkRows (k : Int) : List (List OV) → List (List OV)
  | [] => []
  | e :: es => OV.mkRow k e :: OV.mkRows (k + OV.ctRow e) es
def OV.mkRow (k : Int) : List OV → List OV
  | [] => []
  | x :: e => x.mk k :: OV.mkRow (k + x.ct) e
end
/-- Some rows are rewritten; their names stay, and so does all else. -/
structure Chg (h h' : Heap) (l l' : List (Nat × HObj)) : Prop where
  names : namesOf l' = namesOf l
  owns : Owns h' l'
  upto : Upto (namesOf l) h h'
theorem Chg.refl {h : Heap} {l : List (Nat × HObj)} (o : Owns h l) : Chg h h l l := ⟨rfl, o, fun _ _ => rfl⟩
theorem Chg.trans {h h1 h2 : Heap} {a b c : List (Nat × HObj)} (x : Chg h h1 a b) (y : Chg h1 h2 b c) : Chg h h2 a c :=
  ⟨y.names.trans x.names, y.owns, fun m hm => (y.upto m (by rw [x.names]; exact hm)).trans (x.upto m hm)⟩
theorem Owns.left {h : Heap} {a b : List (Nat × HObj)} (o : Owns h (a ++ b)) : Owns h a := fun p hp => o p (List.mem_append_left _ hp)
theorem Owns.right {h : Heap} {a b : List (Nat × HObj)} (o : Owns h (a ++ b)) : Owns h b := fun p hp => o p (List.mem_append_right _ hp)
theorem Chg.mid {h h' : Heap} {a l l' b : List (Nat × HObj)} (o : Owns h (a ++ (l ++ b))) (nd : (namesOf (a ++ (l ++ b))).Nodup) (c : Chg h h' l l') : Chg h h' (a ++ (l ++ b)) (a ++ (l' ++ b)) := by
  have nd' := nd
  rw [namesOf_append, namesOf_append] at nd'
  obtain ⟨_, n2, d1⟩ := List.nodup_append.1 nd'
  obtain ⟨_, _, d2⟩ := List.nodup_append.1 n2
  refine ⟨by rw [namesOf_append, namesOf_append, namesOf_append, namesOf_append, c.names], fun p hp => ?_, fun m hm => c.upto m fun q => hm ?_⟩
  · rcases List.mem_append.1 hp with hp | hp
    · have hm : p.1 ∈ namesOf a := mem_namesOf.2 ⟨p.2, hp⟩
      rw [c.upto p.1 fun q => d1 _ hm _ (List.mem_append_left _ q) rfl]
      exact o p (List.mem_append_left _ hp)
    · rcases List.mem_append.1 hp with hp | hp
      · exact c.owns p hp
      · have hm : p.1 ∈ namesOf b := mem_namesOf.2 ⟨p.2, hp⟩
        rw [c.upto p.1 fun q => d2 _ q _ hm rfl]
        exact o p (List.mem_append_right _ (List.mem_append_right _ hp))
  · rw [namesOf_append, namesOf_append]
    exact List.mem_append_right _ (List.mem_append_left _ q)
theorem Chg.set {h : Heap} {n : Nat} {o o' : HObj} {l : List (Nat × HObj)} (ow : Owns h ((n, o) :: l)) (nd : (namesOf ((n, o) :: l)).Nodup) : Chg h (upd h n o') ((n, o) :: l) ((n, o') :: l) := by
  have hn : n ∉ namesOf l := (List.nodup_cons.1 (show (n :: namesOf l).Nodup from nd)).1
  refine ⟨rfl, fun p hp => ?_, fun m hm => ?_⟩
  · rcases List.mem_cons.1 hp with rfl | hp
    · exact upd_same _ _ _
    · have : p.1 ≠ n := fun e => hn (e ▸ mem_namesOf.2 ⟨p.2, hp⟩)
      rw [upd_ne _ _ _ _ this]; exact ow p (List.mem_cons_of_mem _ hp)
  · have : m ≠ n := fun e => hm (by rw [e]; exact List.mem_cons_self)
    exact upd_ne _ _ _ _ this
theorem Chg.nodup {h h' : Heap} {a b : List (Nat × HObj)} (c : Chg h h' a b) (nd : (namesOf a).Nodup) : (namesOf b).Nodup := by rw [c.names]; exact nd
/-- Rows that were new are rewritten. -/
theorem New.chg {h h1 h2 : Heap} {l l' : List (Nat × HObj)} (x : New h l h1) (c : Chg h1 h2 l l') : New h l' h2 :=
  ⟨c.nodup x.nodup, fun m hm => x.fresh m (c.names ▸ hm), c.owns, fun m hm => (c.upto m (c.names ▸ hm)).trans (x.upto m (c.names ▸ hm))⟩
theorem OR.split {α : Type} {R : α → List OV → Prop} : ∀ {l : List α} {es : List (List OV)}, OR R l es → ∀ k (hk : k < l.length), ∃ A e B, es = A ++ e :: B ∧ A.length = k ∧ R l[k] e
  | x :: l, e :: es, h, 0, _ => ⟨[], e, es, rfl, rfl, h.1⟩
  | x :: l, e :: es, h, k + 1, hk => by
    obtain ⟨A, e', B, h1, h2, h3⟩ := OR.split h.2 k (by simpa using hk)
    exact ⟨e :: A, e', B, by rw [h1]; rfl, by simp [h2], by simpa using h3⟩
  | [], [], _, k, hk => by simp at hk
  | [], _ :: _, h, _, _ => h.elim
  | _ :: _, [], h, _, _ => h.elim
end Go.Hl

/-
  Calls under temporary rows, for some numbers of such rows.
-/
namespace Go.Hl
set_option linter.unusedVariables false
set_option linter.unusedSimpArgs false
theorem Owns.up {g : Heap} {l : List (Nat × HObj)} {n : Nat} {o : HObj} (ow : Owns g l) (hn : g n = none) : Owns (upd g n o) l := fun p hp => by
  have : p.1 ≠ n := fun e => by have := ow p hp; rw [e, hn] at this; cases this
  rw [upd_ne _ _ _ _ this]; exact ow p hp
theorem Chg.under {g h' : Heap} {n : Nat} {o : HObj} {l l' : List (Nat × HObj)} (hg : g n = none) (ho : Owns g l) (c : Chg (upd g n o) h' l l') : ∃ g', h' = upd g' n o ∧ Chg g g' l l' ∧ g' n = none := by
  have hn : n ∉ namesOf l := fun q => by
    obtain ⟨x, hx⟩ := mem_namesOf.1 q
    have := ho _ hx
    rw [hg] at this; cases this
  have hk : h' n = some o := by rw [c.upto n hn, upd_same]
  refine ⟨dropN h' [n], ?_, ⟨c.names, fun p hp => ?_, fun m hm => ?_⟩, by simp [dropN]⟩
  · funext m
    by_cases e : m = n
    · subst e; rw [upd_same, hk]
    · rw [upd_ne _ _ _ _ e]; simp [dropN, e]
  · have e : p.1 ≠ n := fun e => hn (by rw [← c.names]; exact e ▸ mem_namesOf.2 ⟨p.2, hp⟩)
    have : dropN h' [n] p.1 = h' p.1 := by simp [dropN, e]
    rw [this]; exact c.owns p hp
  · by_cases e : m = n
    · subst e; rw [hg]; simp [dropN]
    · have : dropN h' [n] m = h' m := by simp [dropN, e]
      rw [this, c.upto m hm, upd_ne _ _ _ _ e]
theorem New.un0 {g h' : Heap} {l : List (Nat × HObj)}  (x : New g l h') : ∃ g', h' = g' ∧ New g l g' := by
  exact ⟨h', rfl, x⟩
theorem Chg.un0 {g h' : Heap} {l l' : List (Nat × HObj)}  (ho : Owns g l) (x : Chg g h' l l') : ∃ g', h' = g' ∧ Chg g g' l l' := by
  exact ⟨h', rfl, x⟩
theorem HFnF.wn0 {P : Program} {f : FuncId} {args : List HVal} {Q : HVal → List (Nat × HObj) → Prop} {K : HVal → Heap → Prop} {t : Tag K} {g : Heap} (a : FnN P f args Q)  (k : ∀ r l g', Q r l → New g l g' → K r g') : HFnF P f args g K t :=
  HFnF.mkH (a _) fun r h' ⟨l, q, hq⟩ => by
    obtain ⟨g', e0, q2⟩ := hq.un0; subst e0
    exact k r l _ q q2 
/-- Counts of leaves. -/
theorem OR.ct {α : Type} {R : α → List OV → Prop} {s : α → Nat} : ∀ {l : List α} {es : List (List OV)}, OR R l es → (∀ x ∈ l, ∀ e, R x e → OV.ctRow e ≤ 16 * (1 + s x)) → OV.ctRows es ≤ 16 * szs s l
  | [], [], _, _ => by simp [OV.ctRows]
  | x :: l, e :: es, h, hc => by
    have h1 := hc x List.mem_cons_self e h.1
    have h2 := OR.ct (s := s) h.2 fun y hy => hc y (List.mem_cons_of_mem _ hy)
    rw [OV.ctRows]
    simp only [szs, List.length_cons, List.map_cons, List.sum_cons] at h2 ⊢
    omega
  | [], _ :: _, h, _ => h.elim
  | _ :: _, [], h, _ => h.elim
end Go.Hl

/-
  Own results within tuples, and their sealed forms.
-/
namespace Go.Hl
set_option linter.unusedVariables false
set_option linter.unusedSimpArgs false
/-! ### a slice that grows from empty -/
/-- An own slice, or an empty one. -/
def oval (sz len : Nat) : Option Nat → HVal
  | none => .sl sz [] true
  | some n => .os n sz 0 len
def oheap (h : Heap) (o : HObj) : Option Nat → Heap
  | none => h
  | some n => upd h n o
theorem oval_none (sz len : Nat) : oval sz len none = .sl sz [] true := rfl
theorem oval_some (sz len n : Nat) : oval sz len (some n) = .os n sz 0 len := rfl
theorem oheap_none (h : Heap) (o : HObj) : oheap h o none = h := rfl
theorem oheap_some (h : Heap) (o : HObj) (n : Nat) : oheap h o (some n) = upd h n o := rfl
theorem le_app {h : Heap} {n b : Nat} {o r : HObj} (hn : h n = none) : (upd h b r).le (upd (upd (upd h n o) n .gone) b r) := fun m => by
  by_cases e : m = b
  · subst e; right; simp
  · rw [upd_ne _ _ _ _ e, upd_ne _ _ _ _ e]
    by_cases e2 : m = n
    · subst e2; exact .inl hn
    · right; rw [upd_ne _ _ _ _ e2, upd_ne _ _ _ _ e2]
/-- Side conditions of a slice that grows. -/
def oside {α : Type} (h : Heap) (l : List α) : Option Nat → Prop
  | none => l = []
  | some n => h n = none
theorem oside_none {α : Type} (h : Heap) (l : List α) : oside h l none = (l = []) := rfl
theorem oside_some {α : Type} (h : Heap) (l : List α) (n : Nat) : oside h l (some n) = (h n = none) := rfl
theorem grow_row {α : Type} (c : α → HVal) (l : List α) (x : α) : List.take l.length ((l.map fun x => [c x]).map (List.map Cell.v)) ++ [[Cell.v (c x)]] = ((l ++ [x]).map fun x => [c x]).map (List.map .v) := by
  rw [List.take_of_length_le (by simp)]
  simp
theorem FnN.fn0S {P : Program} {f : FuncId} {args : List HVal} {R : OV → Prop} {d : HVal} (a : FnN P f args (QS R)) (hd : ∀ y, R y → y.dat = d) : Fn0 P f args d := QS.fn0 a hd
end Go.Hl

/-
  Ends of walks that hand back own slices.
-/
namespace Go.Hl
set_option linter.unusedVariables false
set_option linter.unusedSimpArgs false
theorem own_nil {α : Type} {c : α → HVal} {l : List α} {sz : Nat} {h : Heap} (e : (l.map fun x => [c x]) = []) : ∃ r1 g l1, Shift .nilsl h r1 g ∧ QS (OS (oP c) sz l) (fun x => x) r1 l1 ∧ New h l1 g := by
  obtain rfl : l = [] := by simpa using e
  exact ⟨_, _, _, Shift.of (Sub.nil sz true) (Heap.le_refl _), ⟨.nil sz, OS.nil, rfl, rfl⟩, by rw [OV.nil_rows]; exact New.nil h⟩
theorem own_emp {α : Type} {c : α → HVal} {l : List α} {sz : Nat} {h : Heap} (e : (l.map fun x => [c x]) = []) : ∃ r1 g l1, Shift (.sl sz [] true) h r1 g ∧ QS (OS (oP c) sz l) (fun x => x) r1 l1 ∧ New h l1 g := by
  obtain rfl : l = [] := by simpa using e
  exact ⟨_, _, _, shift_self _ _, ⟨.nil sz, OS.nil, rfl, rfl⟩, by rw [OV.nil_rows]; exact New.nil h⟩
theorem own_row {α : Type} {c : α → HVal} {l : List α} {sz n : Nat} {h : Heap} (hn : h n = none) :
    ∃ r1 g l1, Shift (.os n sz 0 l.length) (upd h n (.row sz ((l.map fun x => [c x]).map (List.map .v)))) r1 g ∧ QS (OS (oP c) sz l) (fun x => x) r1 l1 ∧ New h l1 g := by
  refine ⟨_, _, _, shift_self _ _, ⟨.sl n sz (l.map fun x => [.v (c x)]), OS.mk (OR_map l), by simp [OV.val], rfl⟩, ?_⟩
  rw [OV.sl_rows, rows_map, cells_map]
  exact New.one hn
/-- An own slice, or nil. -/
def onil (sz len : Nat) : Option Nat → HVal
  | none => .nilsl
  | some n => .os n sz 0 len
theorem onil_none (sz len : Nat) : onil sz len none = .nilsl := rfl
theorem onil_some (sz len n : Nat) : onil sz len (some n) = .os n sz 0 len := rfl
theorem onil_flat (sz len : Nat) (o : Option Nat) : (onil sz len o).flat = true := by cases o <;> rfl
/-! ### heaps that say less -/
def Heap.wk (g h : Heap) : Prop := ∀ E w, Rel E h w → Rel E g w ∧ ∀ b, Imm E h w b → Imm E g w b
theorem Heap.wk_of_le {g h : Heap} (hl : g.le h) : g.wk h := fun E w R => ⟨R.forget hl, fun b i => Imm.le hl i⟩
theorem Heap.wk.trans {a b c : Heap} (x : a.wk b) (y : b.wk c) : a.wk c := fun E w R =>
  ⟨(x E w (y E w R).1).1, fun d i => (x E w (y E w R).1).2 d ((y E w R).2 d i)⟩
theorem Heap.wk.ev {g h : Heap} (x : g.wk h) {E : Env} {w : World} (R : Rel E h w) : Ev E h w E g w :=
  ⟨Nat.le_refl _, fun b hb => ⟨rfl, (x E w R).2 b hb⟩, fun _ _ => rfl, fun _ hn => ⟨rfl, hn⟩, rfl, rfl⟩
theorem HWp.wk {P : Program} {N : Nat} {c : Code} {Q : Exit → Tmps → Heap → Prop} {τ : Tmps} {h g : Heap} (hl : g.wk h) (x : HWp P N c Q τ g) : HWp P N c Q τ h :=
  fun E w a R r => Code.wp_mono (fun e a' w' y => AfterC.trans (hl.ev R) y) (x E w a (hl E w R).1 (r.ev (hl.ev R)))
theorem HWp.loopW {P : Program} {N : Nat} {c : Code} {Q : Exit → Tmps → Heap → Prop} {τ : Tmps} {h : Heap} {α : Type} (S : α → Tmps) (H : α → Heap) (side : α → Prop) (μ : α → Nat) (x₀ : α)
    (h₀ : SatL (S x₀) τ ∧ (H x₀).wk h ∧ side x₀)
    (round : ∀ x, side x → HWp P N c (thenQ (fun τ' h' => ∃ x', SatL (S x') τ' ∧ (H x').wk h' ∧ side x' ∧ μ x' < μ x) Q) (S x) (H x)) : HWp P N (.loop c) Q τ h :=
  HWp.loop (fun x τ h => SatL (S x) τ ∧ (H x).wk h ∧ side x) μ x₀ h₀ fun x τ h ⟨h1, h2, h3⟩ =>
    HWp.wk h2 (HWp.weaken h1 (Heap.le_refl _) ((round x h3).mono fun e τ h q => by
      cases e <;> simp only [thenQ] at q ⊢ <;> first | exact q | (obtain ⟨x', a, b, c, d⟩ := q; exact ⟨x', ⟨a, b, c⟩, d⟩)))
theorem loopW {P : Program} {N : Nat} {keep ib : List Nat} {mk : Marks} {c : Code} {Q : Exit → Tmps → Heap → Prop} {τ : Tmps} {h : Heap} {t : Tag (Code.loop c, Q)} {α : Type} (hmix : P.follows .mixedOrders = true) (hc : codeOK N mk c = true) (S : α → Tmps) (H : α → Heap) (side : α → Prop) (μ : α → Nat) (x₀ : α)
    (h₀ : SatL (S x₀) τ ∧ (H x₀).wk h ∧ side x₀)
    (round : ∀ x, side x → hwpF P N keep ib mk c (fun τ' h' => ∃ x', SatL (S x') τ' ∧ (H x').wk h' ∧ side x' ∧ μ x' < μ x) Q (S x) (H x) ()) : HWpF P N (.loop c) Q τ h t :=
  HWp.loopW S H side μ x₀ h₀ fun x hx => hwpF_sound hmix c _ _ _ _ hc (round x hx)
/-- One cell says less. -/
def CellWk (x y : Cell) : Prop := ∀ E h w c S, CRep E h w x c S → CRep E h w y c S
theorem CellWk.refl (x : Cell) : CellWk x x := fun _ _ _ _ _ r => r
theorem CellWk.v {x y : HVal} (s : Sub x y) : CellWk (.v x) (.v y) := fun E h w c S r => by
  cases r with
  | v _ _ _ h1 hx => exact .v _ _ _ h1 (s _ _ _ _ hx)
/-- Rows whose cells say less. -/
def RowsWk : List (List Cell) → List (List Cell) → Prop
  | [], [] => True
  | a :: l, b :: m => (a.length = b.length ∧ ∀ (j : Nat) (x : Cell), b[j]? = some x → ∃ y, a[j]? = some y ∧ CellWk y x) ∧ RowsWk l m
  | _, _ => False
theorem RowsWk.refl : ∀ l, RowsWk l l
  | [] => trivial
  | a :: l => ⟨⟨rfl, fun j x h => ⟨x, h, .refl x⟩⟩, RowsWk.refl l⟩
theorem RowsWk.last {a b : List Cell} (hl : a.length = b.length) (hc : ∀ (j : Nat) (x : Cell), b[j]? = some x → ∃ y, a[j]? = some y ∧ CellWk y x) : ∀ l, RowsWk (l ++ [a]) (l ++ [b])
  | [] => ⟨⟨hl, hc⟩, trivial⟩
  | c :: l => ⟨⟨rfl, fun j x h => ⟨x, h, .refl x⟩⟩, RowsWk.last hl hc l⟩
theorem RowsWk.length : ∀ {l m}, RowsWk l m → l.length = m.length
  | [], [], _ => rfl
  | a :: l, b :: m, h => by rw [List.length_cons, List.length_cons, RowsWk.length h.2]
  | [], _ :: _, h => h.elim
  | _ :: _, [], h => h.elim
theorem RowsWk.size {sz : Nat} : ∀ {l m}, RowsWk l m → (∀ e ∈ l, e.length = sz) → ∀ e ∈ m, e.length = sz
  | [], [], _, _ => by simp
  | a :: l, b :: m, h, hs => fun e he => by
    rcases List.mem_cons.1 he with rfl | he
    · rw [← h.1.1]; exact hs a List.mem_cons_self
    · exact RowsWk.size h.2 (fun e he => hs e (List.mem_cons_of_mem _ he)) e he
  | [], _ :: _, h, _ => h.elim
  | _ :: _, [], h, _ => h.elim
theorem RowsWk.at2 : ∀ {l m} (i j : Nat) (x : Cell), RowsWk l m → Hl.at2 m i j = some x → ∃ y, Hl.at2 l i j = some y ∧ CellWk y x
  | [], [], i, j, x, _, h => by simp [Hl.at2] at h
  | a :: l, b :: m, 0, j, x, w, h => by simp only [Hl.at2, List.getElem?_cons_zero, Option.bind_some] at h ⊢; exact w.1.2 j x h
  | a :: l, b :: m, i + 1, j, x, w, h => by simp only [Hl.at2, List.getElem?_cons_succ] at h ⊢; exact RowsWk.at2 i j x w.2 h
  | [], _ :: _, _, _, _, w, _ => w.elim
  | _ :: _, [], _, _, _, w, _ => w.elim
theorem Heap.wk_row {g h : Heap} {m sz : Nat} {es es' : List (List Cell)} (hg : ∀ q, q ≠ m → g q = h q) (hm : h m = some (.row sz es)) (gm : g m = some (.row sz es')) (hw : RowsWk es es') : g.wk h := fun E w R => by
  have live : ∀ q o, g q = some o → ∃ o', h q = some o' ∧ (o.live → o'.live) := fun q o ho => by
    by_cases e : q = m
    · subst e; exact ⟨_, hm, fun _ => trivial⟩
    · rw [hg q e] at ho; exact ⟨o, ho, id⟩
  have live' : ∀ q o, h q = some o → ∃ o', g q = some o' ∧ (o.live → o'.live) := fun q o ho => by
    by_cases e : q = m
    · subst e; exact ⟨_, gm, fun _ => trivial⟩
    · rw [← hg q e] at ho; exact ⟨o, ho, id⟩
  have imm : ∀ b, Imm E h w b → Imm E g w b := fun b i => ⟨i.1, fun q o ho hl => by
    obtain ⟨o', h1, h2⟩ := live q o ho; exact i.2 q o' h1 (h2 hl)⟩
  refine ⟨⟨R.fin, fun n hn => R.dom n fun e => ?_, fun n o b hn hl => ?_, fun n o n' o' b hn hl hn' hl' => ?_, fun n o hn => ?_, R.laid.imm imm⟩, imm⟩
  · by_cases e2 : n = m
    · subst e2; rw [hm] at e; cases e
    · rw [hg n e2] at hn; exact hn e
  · obtain ⟨o2, h1, h2⟩ := live n o hn
    exact R.lt n o2 b h1 (h2 hl)
  · obtain ⟨o2, h1, h2⟩ := live n o hn
    obtain ⟨o3, h3, h4⟩ := live n' o' hn'
    exact R.apart n o2 n' o3 b h1 (h2 hl) h3 (h4 hl')
  · by_cases e : n = m
    · subst e
      rw [gm] at hn
      obtain rfl := Option.some.inj hn
      rcases R.obj n _ hm with ⟨b, o2, hl, ra⟩ | ⟨he, hl⟩
      · refine .inl ⟨b, o2, hl, ra.hb, hw.size ra.size, ?_⟩
        obtain ⟨cs, t, cv, T, h1, h2, h3, h4, h5, h6⟩ := ra.mem
        refine ⟨cs, t, cv, T, h1, by rw [← hw.length]; exact h2, h3, h4, fun i j x hx => ?_, fun i j x hx => ?_⟩
        · obtain ⟨y, hy, _⟩ := hw.at2 i j x hx; exact h5 i j y hy
        · obtain ⟨y, hy, hyx⟩ := hw.at2 i j x hx; exact (hyx _ _ _ _ _ (h6 i j y hy)).imm imm
      · subst he
        have : es' = [] := by have := hw.length; simp at this; exact List.length_eq_zero_iff.1 this.symm
        exact .inr ⟨this, hl⟩
    · rw [hg n e] at hn
      exact (R.obj n o hn).imm imm
theorem RowsWk.sub {xs ys : List HVal} (s : SubL xs ys) (A : List (List Cell)) : RowsWk (A ++ [xs.map .v]) (A ++ [ys.map .v]) := by
  refine RowsWk.last (by simpa using s.1) (fun j x hx => ?_) A
  rw [List.getElem?_map, Option.map_eq_some_iff] at hx
  obtain ⟨y, hy, rfl⟩ := hx
  have hlt : j < ys.length := (List.getElem?_eq_some_iff.1 hy).1
  have hxl : j < xs.length := by rw [s.1]; exact hlt
  have hx2 : xs[j]? = some xs[j] := List.getElem?_eq_getElem hxl
  exact ⟨.v xs[j], by rw [List.getElem?_map, hx2]; rfl, CellWk.v (s.2 j _ _ hx2 hy)⟩
end Go.Hl

/-
  Structs whose slices change: own fields written, heaps that say less, several slices that grow at a time.
-/
namespace Go.Hl
set_option linter.unusedVariables false
set_option linter.unusedSimpArgs false
theorem Shift.wk {r' r : HVal} {h' h : Heap} (s : Sub r' r) (hl : h.wk h') : Shift r' h' r h := fun E w v R q =>
  ⟨E, hl.ev R, (hl E w R).1, Rep.imm (hl E w R).2 (s _ _ _ _ q)⟩
/-- Some of the new rows are rewritten. -/
theorem New.field {h g g' : Heap} {A l l' B : List (Nat × HObj)} (x : New h (A ++ (l ++ B)) g) (c : Chg g g' l l') : New h (A ++ (l' ++ B)) g' := x.chg (Chg.mid x.owns x.nodup c)
/-! ### four slices that grow together -/
abbrev Q4 := Option (Nat × Nat × Nat × Nat)
def q1 : Q4 → Option Nat | none => none | some x => some x.1
def q2 : Q4 → Option Nat | none => none | some x => some x.2.1
def q3 : Q4 → Option Nat | none => none | some x => some x.2.2.1
def q4 : Q4 → Option Nat | none => none | some x => some x.2.2.2
/-- Four rows more. -/
theorem New.four {h g : Heap} {L : List (Nat × HObj)} (w : New h L g) {a b c d : Nat} {ra rb rc rd : HObj} (ha : g a = none) (hb : g b = none) (hc : g c = none) (hd : g d = none)
    (ab : a ≠ b) (ac : a ≠ c) (ad : a ≠ d) (bc : b ≠ c) (bd : b ≠ d) (cd : c ≠ d) : New h (L ++ [(a, ra), (b, rb), (c, rc), (d, rd)]) (upd (upd (upd (upd g a ra) b rb) c rc) d rd) := by
  have h1 := w.row (o := ra) ha
  have h2 := h1.row (n := b) (o := rb) (by rw [upd_ne _ _ _ _ ab.symm]; exact hb)
  have h3 := h2.row (n := c) (o := rc) (by rw [upd_ne _ _ _ _ bc.symm, upd_ne _ _ _ _ ac.symm]; exact hc)
  have h4 := h3.row (n := d) (o := rd) (by rw [upd_ne _ _ _ _ cd.symm, upd_ne _ _ _ _ bd.symm, upd_ne _ _ _ _ ad.symm]; exact hd)
  refine h4.perm ?_
  exact (List.Perm.append_right L (List.reverse_perm [(a, ra), (b, rb), (c, rc), (d, rd)])).trans List.perm_append_comm
/-! ### ends of walks -/
theorem SubL.mid {x y : HVal} (s : Sub x y) (b : List HVal) : ∀ a : List HVal, SubL (a ++ x :: b) (a ++ y :: b)
  | [] => .cons s (.refl b)
  | z :: a => .cons (.refl z) (SubL.mid s b a)
/-! ### own slices in a struct: read and written -/
theorem rowSet {α : Type} (c : α → HVal) (l : List α) (k : Nat) (x : α) : ((l.map fun x => [c x]).map (List.map Cell.v)).set k [Cell.v (c x)] = ((l.set k x).map fun x => [c x]).map (List.map Cell.v) := by
  rw [List.map_map, List.map_map, List.map_set]; rfl
theorem OR.prim {α : Type} {c : α → HVal} : ∀ {l : List α} {es : List (List OV)}, OR (oP c) l es → es = l.map fun x => [.v (c x)]
  | [], [], _ => rfl
  | x :: l, e :: es, h => by rw [List.map_cons, ← OR.prim h.2, show e = [.v (c x)] from h.1]
  | [], _ :: _, h => h.elim
  | _ :: _, [], h => h.elim
/-- An own slice of plain elements: empty, or a row. -/
theorem OS.prim {α : Type} {c : α → HVal} {sz : Nat} {l : List α} {y : OV} (h : OS (oP c) sz l y) : (y = .nil sz ∧ l = []) ∨ ∃ n, y = .sl n sz (l.map fun x => [.v (c x)]) := by
  rcases h with h | ⟨n, es, rfl, h⟩
  · exact .inl h
  · exact .inr ⟨n, by rw [h.prim]⟩
theorem OV.val_prim {α : Type} (c : α → HVal) (n sz : Nat) (l : List α) : (OV.sl n sz (l.map fun x => [.v (c x)])).val = .os n sz 0 l.length := by rw [OV.val_sl, List.length_map]
/-! ### loops that leave the rows, or write one -/
theorem loopSame {P : Program} {N : Nat} {keep ib : List Nat} {mk : Marks} {c : Code} {Q : Exit → Tmps → Heap → Prop} {τ : Tmps} {h : Heap} {t : Tag (Code.loop c, Q)} {α : Type} (hmix : P.follows .mixedOrders = true) (hc : codeOK N mk c = true) (S : α → Tmps) (side : α → Prop) (μ : α → Nat) (x₀ : α)
    (h₀ : SatL (S x₀) τ ∧ side x₀)
    (round : ∀ x, side x → hwpF P N keep ib mk c (fun τ' h' => ∃ x', SatL (S x') τ' ∧ h.le h' ∧ side x' ∧ μ x' < μ x) Q (S x) h ()) : HWpF P N (.loop c) Q τ h t :=
  loopF hmix hc S (fun _ => h) side μ x₀ ⟨h₀.1, Heap.le_refl _, h₀.2⟩ round
theorem upd_self {h : Heap} {n : Nat} {o : HObj} (hn : h n = some o) : upd h n o = h := by
  funext q; simp only [upd_apply]; split
  · subst_vars; exact hn.symm
  · rfl
theorem loopRow {P : Program} {N : Nat} {keep ib : List Nat} {mk : Marks} {c : Code} {Q : Exit → Tmps → Heap → Prop} {τ : Tmps} {h : Heap} {t : Tag (Code.loop c, Q)} {α : Type} (hmix : P.follows .mixedOrders = true) (hc : codeOK N mk c = true) (S : α → Tmps) (n : Nat) (R : α → HObj) (side : α → Prop) (μ : α → Nat) (x₀ : α)
    (h₀ : SatL (S x₀) τ ∧ h n = some (R x₀) ∧ side x₀)
    (round : ∀ x, side x → hwpF P N keep ib mk c (fun τ' h' => ∃ x', SatL (S x') τ' ∧ (upd h n (R x')).le h' ∧ side x' ∧ μ x' < μ x) Q (S x) (upd h n (R x)) ()) : HWpF P N (.loop c) Q τ h t :=
  loopF hmix hc S (fun x => upd h n (R x)) side μ x₀ ⟨h₀.1, by simp only [upd_self h₀.2.1]; exact Heap.le_refl _, h₀.2.2⟩ round
theorem Heap.le_both {g h : Heap} {n : Nat} {o : HObj} (hl : g.le h) : (upd g n o).le (upd h n o) := fun q => by
  simp only [upd_apply]; split
  · exact .inr rfl
  · exact hl q
/-! ### methods that change an own struct in its box -/
theorem New.over {h g : Heap} {l : List (Nat × HObj)} {n : Nat} {o : HObj} (w : New h l g) (hn : g n = none) : New (upd h n o) l (upd g n o) := by
  have hne : ∀ m ∈ namesOf l, m ≠ n := fun m hm e => by
    obtain ⟨x, hx⟩ := mem_namesOf.1 hm
    have := w.owns (m, x) hx
    rw [e, hn] at this; cases this
  refine ⟨w.nodup, fun m hm => ?_, fun p hp => ?_, fun m hm => ?_⟩
  · rw [upd_ne _ _ _ _ (hne m hm)]; exact w.fresh m hm
  · rw [upd_ne _ _ _ _ (hne p.1 (mem_namesOf.2 ⟨p.2, hp⟩))]; exact w.owns p hp
  · simp only [upd_apply]; split
    · rfl
    · exact w.upto m hm
/-- .. and back: a row of the heap before is left out. -/
theorem New.base {h g : Heap} {l : List (Nat × HObj)} {n : Nat} {o : HObj} (w : New (upd h n o) l g) (hn : h n = none) : ∃ g', g'.le g ∧ New h l g' ∧ g' n = none ∧ g = upd g' n o := by
  have hne : ∀ m ∈ namesOf l, m ≠ n := fun m hm e => by
    have := w.fresh m hm
    rw [e, upd_same] at this; cases this
  have hg : g n = some o := by
    rw [w.upto n (fun hm => hne n hm rfl), upd_same]
  refine ⟨fun m => if m = n then none else g m, fun m => ?_, ⟨w.nodup, fun m hm => ?_, fun p hp => ?_, fun m hm => ?_⟩, by simp, ?_⟩
  · by_cases e : m = n <;> simp [e]
  · have := w.fresh m hm; rwa [upd_ne _ _ _ _ (hne m hm)] at this
  · simp only [if_neg (hne p.1 (mem_namesOf.2 ⟨p.2, hp⟩))]; exact w.owns p hp
  · show (if m = n then none else g m) = h m
    split
    · subst_vars; exact hn.symm
    · rename_i e; rw [w.upto m hm, upd_ne _ _ _ _ e]
  · funext m; simp only [upd_apply]; split
    · subst_vars; exact hg
    · rename_i e; simp
/-- A pointer to an own struct in its box, lent out. -/
theorem View.box {T : List HVal} {g : Heap} {nb sz : Nat} {e : List OV} (hd : e.map OV.dat = T) (hn : g nb = none) (ho : Owns g (OV.rowsRow e)) : View (upd g nb (.row sz (OV.cells [e]))) (.op nb sz 0 0) (.ip sz [T] 0 0) := by
  have := View.op (h := upd g nb (.row sz (OV.cells [e]))) (n := nb) (sz := sz) (i := 0) (off := 0) [e] (by rw [upd_same]) (by simp) (by
    have h1 : OV.rowsRows [e] = OV.rowsRow e := by simp [OV.rowsRows]
    rw [h1]; exact ho.up hn)
  have h2 : OV.datRows [e] = [T] := by rw [OV.datRows_map]; simp [hd]
  rwa [h2] at this
theorem New.le {h g : Heap} {l : List (Nat × HObj)} (w : New h l g) : h.le g := fun q => by
  by_cases hq : q ∈ namesOf l
  · exact .inl (w.fresh q hq)
  · exact .inr (w.upto q hq).symm
/-! ### an element of an own slice of structs is replaced -/
theorem OR.set {α : Type} {R : α → List OV → Prop} : ∀ {l : List α} {es : List (List OV)}, OR R l es → ∀ (k : Nat) x e, R x e → OR R (l.set k x) (es.set k e)
  | [], [], _, k, x, e, _ => by simp [OR]
  | a :: l, b :: es, h, 0, x, e, he => ⟨he, h.2⟩
  | a :: l, b :: es, h, k + 1, x, e, he => ⟨h.1, OR.set h.2 k x e he⟩
  | [], _ :: _, h, _, _, _, _ => h.elim
  | _ :: _, [], h, _, _, _, _ => h.elim
/-- An own slice that has an element is a row. -/
theorem OS.some {α : Type} {R : α → List OV → Prop} {sz : Nat} {l : List α} {y : OV} (h : OS R sz l y) (hl : 0 < l.length) : ∃ n es, y = .sl n sz es ∧ OR R l es := by
  rcases h with ⟨_, h⟩ | h
  · rw [h] at hl; simp at hl
  · exact h
/-! ### which heap says less, name by name -/
def leX (S : List Nat) (g h : Heap) : Prop := ∀ q, q ∉ S → g q = none ∨ g q = h q
theorem leX_nil {g h : Heap} (x : leX [] g h) : g.le h := fun q => x q (by simp)
theorem leX_refl (S : List Nat) (g : Heap) : leX S g g := fun q _ => .inr rfl
theorem leX_put {S : List Nat} {g h : Heap} {n : Nat} {o : HObj} (hn : h n = some o) (x : leX (n :: S) g h) : leX S (upd g n o) h := fun q hq => by
  simp only [upd_apply]; split
  · subst_vars; exact .inr hn.symm
  · rename_i e; exact x q (by simp only [List.mem_cons, not_or]; exact ⟨e, hq⟩)
theorem leX_strip {S : List Nat} {g h : Heap} {n : Nat} {o : HObj} (hn : n ∈ S ∨ g n = none) (x : leX S g h) : leX S g (upd h n o) := fun q hq => by
  simp only [upd_apply]; split
  · subst_vars
    rcases hn with hn | hn
    · exact absurd hn hq
    · exact .inl hn
  · exact x q hq
theorem Heap.le_none {g h : Heap} (hl : g.le h) {n : Nat} (hn : h n = none) : g n = none := by
  rcases hl n with e | e
  · exact e
  · rw [e, hn]
/-! ### a call, seen from a heap that says less -/
theorem HFn.wk {P : Program} {f : FuncId} {args : List HVal} {g h : Heap} {K : HVal → Heap → Prop} (hl : g.wk h) (a : HFn P f args g K) : HFn P f args h K :=
  ⟨a.1, fun E w vs R r => by
    obtain ⟨R', hi⟩ := hl E w R
    exact (a.2 E w vs R' (RepL.imm hi r)).mono fun e w' q => by
      cases e with
      | returned v =>
        obtain ⟨r, h', E', k, ev, R2, r2⟩ := q
        exact ⟨r, h', E', k, (hl.ev R).trans ev, R2, r2⟩
      | _ => exact q.elim⟩
theorem HFnF.wk {P : Program} {f : FuncId} {args : List HVal} {g h : Heap} {K : HVal → Heap → Prop} {t : Tag K} (hl : g.wk h) (a : HFnF P f args g K t) : HFnF P f args h K t := HFn.wk hl a
/-- .. and its result. -/
theorem HFn.shift {P : Program} {f : FuncId} {args : List HVal} {h : Heap} {K K' : HVal → Heap → Prop} (a : HFn P f args h K') (hk : ∀ r h', K' r h' → ∃ g : Heap, g.wk h' ∧ K r g) : HFn P f args h K :=
  ⟨a.1, fun E w vs R r => by
    exact (a.2 E w vs R r).mono fun e w' q => by
      cases e with
      | returned v =>
        obtain ⟨r, h', E', k, ev, R2, r2⟩ := q
        obtain ⟨g, hg, k'⟩ := hk r h' k
        obtain ⟨R3, hi⟩ := hg E' w' R2
        exact ⟨r, g, E', k', ev.trans (hg.ev R2), R3, Rep.imm hi r2⟩
      | _ => exact q.elim⟩
/-! ### a row of numbers that is filled from the left -/
def upL (c : List Int) (k : Nat) : List Int := c.take k ++ List.replicate (c.length - k) 0
theorem upL_zero (c : List Int) : upL c 0 = List.replicate c.length 0 := by simp [upL]
theorem upL_all (c : List Int) : upL c c.length = c := by simp [upL]
theorem upL_len (c : List Int) {k : Nat} (hk : k ≤ c.length) : (upL c k).length = c.length := by simp [upL]; omega
theorem upL_get {c : List Int} {k : Nat} (hk : k < c.length) : (upL c k)[k]? = some 0 := by
  have h1 : (c.take k).length = k := by rw [List.length_take]; omega
  rw [upL, List.getElem?_append_right (by omega), h1, Nat.sub_self, List.getElem?_replicate, if_pos (by omega)]
theorem upL_set {c : List Int} {k : Nat} (hk : k < c.length) : (upL c k).set k c[k] = upL c (k + 1) := by
  have h1 : (c.take k).length = k := by rw [List.length_take]; omega
  rw [upL, upL, List.set_append_right _ _ (by omega), h1, Nat.sub_self, List.take_succ_eq_append_getElem hk, show c.length - k = (c.length - (k + 1)) + 1 by omega, List.replicate_succ, List.set_cons_zero, List.append_assoc, List.singleton_append]
theorem rowZero (n : Nat) : (List.replicate n [HVal.int .i64 0]).map (List.map Cell.v) = ((List.replicate n (0 : Int)).map fun n => [HVal.int .i64 n]).map (List.map Cell.v) := by simp
set_option linter.unusedVariables false
set_option linter.unusedSimpArgs false
/-- A general contract by the walk, where what is handed back may be seen in another way. -/
theorem fnKF {P : Program} {f : FuncId} {fn : Func} {c : Code} (N : Nat) (keep ib : List Nat) (mk : Marks) {args : List HVal} {h : Heap} {K : HVal → Heap → Prop} (hmix : P.follows .mixedOrders = true) (hf : P.funcs[f]? = some fn) (hb : fn.body = some c)
    (hck : (callable P f && decide (fn.ntmps = N) && codeOK N mk c) = true) (hl : args.length ≤ N)
    (hw : hwpF P N keep ib mk c (fun τ h' => postF P fn.results (fun r h' => ∃ r1 g, Shift r h' r1 g ∧ K r1 g) () .normal τ h') (postF P fn.results (fun r h' => ∃ r1 g, Shift r h' r1 g ∧ K r1 g) ()) (argsT 0 args) h ()) : HFn P f args h K :=
  fn_of_wp_shift (fn := fn) (c := c) (N := N) (fn_hwp N keep ib mk hmix hf hb hck hl (K' := fun r h' => ∃ r1 g, Shift r h' r1 g ∧ K r1 g) (K := fun r h' => ∃ r1 g, Shift r h' r1 g ∧ K r1 g) hw fun _ h' hx => ⟨h', Heap.le_refl _, hx⟩) fun r h' hx => hx
theorem RepL.sealed {E : Env} {h : Heap} {w : World} (R : Rel E h w) {n sz : Nat} {es : List (List Cell)} (hn : h n = some (.row sz es)) : ∀ {xs : List HVal} {vs : List Value}, RepL E h w xs vs → sealOKL n sz es.length xs = true → RepL E (upd h n .gone) w (sealL n (valRows es) xs) vs
  | [], [], _, _ => trivial
  | x :: xs, v :: vs, r, hb => by
    simp only [sealOKL, Bool.and_eq_true] at hb
    exact ⟨r.1.sealed R hn hb.1, RepL.sealed R hn r.2 hb.2⟩
  | [], _ :: _, r, _ => r.elim
  | _ :: _, [], r, _ => r.elim
/-- A row is given up at a call. -/
theorem HFnF.give {P : Program} {f : FuncId} {args : List HVal} {h : Heap} {K : HVal → Heap → Prop} {t : Tag K} (n : Nat) {sz : Nat} {es : List (List Cell)} (hn : h n = some (.row sz es)) (hb : sealOKL n sz es.length args = true)
    (a : HFn P f (sealL n (valRows es) args) (upd h n .gone) K) : HFnF P f args h K t :=
  ⟨a.1, fun E w vs R r => (a.2 E w vs (R.gone hn) (r.sealed R hn hb)).mono fun e w' q => by
    cases e with
    | returned v =>
      obtain ⟨r, h', E', k, ev, R2, r2⟩ := q
      exact ⟨r, h', E', k, (Ev.gone n).trans ev, R2, r2⟩
    | _ => exact q.elim⟩
set_option linter.unusedVariables false
set_option linter.unusedSimpArgs false
set_option linter.unusedVariables false
set_option linter.unusedSimpArgs false
end Go.Hl

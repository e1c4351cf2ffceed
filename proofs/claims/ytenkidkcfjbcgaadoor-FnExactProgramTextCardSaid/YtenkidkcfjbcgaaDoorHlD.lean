/-
  Contracts of functions and laws of the layer over the walk.
-/
import Derived.Test.YtenkidkcfjbcgaaDoorHlC
import Derived.LaidLaws
import Derived.LaidHandle
import Derived.Stop.Joined
import Derived.Lib.LaidTab
import Derived.Shelf.Vars
import Derived.Sort.Grow
import Derived.Deep.Draws
import Derived.Below
/-
  Own values: slices that own their rows, and the slices in their cells that own theirs. They are sealed all at once, and can be lent out for a call.
-/
namespace Go.Hl
set_option linter.unusedVariables false
set_option linter.unusedSimpArgs false

/-- An own value: one that owns nothing, or a slice with the named row that it owns. -/
inductive OV where
  | v (x : HVal)
  | nil (sz : Nat)
  | sl (n sz : Nat) (es : List (List OV))

def OV.val : OV → HVal
  | .v x => x
  | .nil sz => .sl sz [] true
  | .sl n sz es => .os n sz 0 es.length

mutual
/-- What it reads as when nobody writes it any more. -/
def OV.dat : OV → HVal
  | .v x => x
  | .nil sz => .sl sz [] false
  | .sl n sz es => .sl sz (OV.datRows es) false
def OV.datRows : List (List OV) → List (List HVal)
  | [] => []
  | e :: es => OV.datRow e :: OV.datRows es
def OV.datRow : List OV → List HVal
  | [] => []
  | x :: e => x.dat :: OV.datRow e
end
theorem OV.datRow_map : ∀ (e : List OV), OV.datRow e = e.map OV.dat
  | [] => rfl
  | x :: e => by rw [OV.datRow, OV.datRow_map e]; rfl
theorem OV.datRows_map : ∀ (es : List (List OV)), OV.datRows es = es.map (List.map OV.dat)
  | [] => rfl
  | e :: es => by rw [OV.datRows, OV.datRows_map es, OV.datRow_map]; rfl

/-- The cells of an own slice's row. -/
def OV.cells (es : List (List OV)) : List (List Cell) := es.map (List.map fun c => Cell.v c.val)

mutual
/-- The named rows that it owns. -/
def OV.rows : OV → List (Nat × HObj)
  | .v _ => []
  | .nil _ => []
  | .sl n sz es => (n, .row sz (OV.cells es)) :: OV.rowsRows es
def OV.rowsRows : List (List OV) → List (Nat × HObj)
  | [] => []
  | e :: es => OV.rowsRow e ++ OV.rowsRows es
def OV.rowsRow : List OV → List (Nat × HObj)
  | [] => []
  | x :: e => x.rows ++ OV.rowsRow e
end
/-- The rows are there. -/
def Owns (h : Heap) (l : List (Nat × HObj)) : Prop := ∀ p ∈ l, h p.1 = some p.2

/-- Some names given up. -/
def goneL (h : Heap) (S : List Nat) : Heap := fun m => if m ∈ S then (h m).map fun _ => .gone else h m

theorem goneL_mem {h : Heap} {S : List Nat} {m : Nat} {o : HObj} (hm : m ∈ S) (ho : goneL h S m = some o) : o = .gone := by
  simp only [goneL, if_pos hm, Option.map_eq_some_iff] at ho
  obtain ⟨_, _, rfl⟩ := ho; rfl
theorem goneL_not {h : Heap} {S : List Nat} {m : Nat} (hm : m ∉ S) : goneL h S m = h m := by simp only [goneL, if_neg hm]

theorem imm_goneL {E : Env} {h : Heap} {w : World} (S : List Nat) (b : Nat) (i : Imm E h w b) : Imm E (goneL h S) w b :=
  ⟨i.1, fun m o hm ho => by
    by_cases e : m ∈ S
    · rw [goneL_mem e hm] at ho; exact ho.elim
    · rw [goneL_not e] at hm; exact i.2 m o hm ho⟩
theorem imm_of_goneL {E : Env} {h : Heap} {w : World} (R : Rel E h w) {S : List Nat} {n : Nat} (hS : n ∈ S) {x : HObj} (hn : h n = some x) (hx : x.live) (b : Nat) (hb : E.fp n b) : Imm E (goneL h S) w b :=
  ⟨R.lt n x b hn hx hb, fun m o hm ho hf => by
    by_cases e : m ∈ S
    · rw [goneL_mem e hm] at ho; exact ho.elim
    · rw [goneL_not e] at hm
      have := R.apart m o n x b hm ho hn hx hf hb
      exact e (this ▸ hS)⟩
mutual
theorem Rep.unown {E : Env} {h : Heap} {w : World} (R : Rel E h w) {S : List Nat} : ∀ (x : OV), Owns h x.rows → (∀ p ∈ x.rows, p.1 ∈ S) → ∀ v, Rep E h w x.val v → Rep E (Hl.goneL h S) w x.dat v
  | .v x, _, _, v, r => Rep.imm (fun b => imm_goneL S b) r
  | .nil sz, _, _, v, r => Sub.loose sz [] true _ _ _ _ (Rep.imm (fun b => imm_goneL S b) (show Rep E h w (.sl sz [] true) v from r))
  | .sl n sz es, ho, hS, v, r => by
    have hn : h n = some (.row sz (OV.cells es)) := ho (n, _) (by rw [OV.rows]; exact List.mem_cons_self)
    have hnS : n ∈ S := hS (n, _) (by rw [OV.rows]; exact List.mem_cons_self)
    simp only [OV.val] at r
    simp only [OV.dat]
    have hcells : ∀ i j y, at2 (OV.cells es) i j = some y → ∃ c, at2 es i j = some c ∧ y = .v c.val := by
      intro i j y hy
      rw [OV.cells, at2_map] at hy
      obtain ⟨c, hc, rfl⟩ := Option.map_eq_some_iff.1 hy
      exact ⟨c, hc, rfl⟩
    have hdat : ∀ i j y, at2 (OV.datRows es) i j = some y → ∃ c, at2 es i j = some c ∧ y = c.dat := by
      intro i j y hy
      rw [OV.datRows_map, at2_map] at hy
      obtain ⟨c, hc, rfl⟩ := Option.map_eq_some_iff.1 hy
      exact ⟨c, hc, rfl⟩
    have hlen : (OV.datRows es).length = es.length := by rw [OV.datRows_map, List.length_map]
    have key : ∀ L, L = es.length → Rep E h w (.os n sz 0 L) v → Rep E (Hl.goneL h S) w (.sl sz (OV.datRows es) false) v := by
      intro L hL r
      cases r with
      | os0 _ _ hd hl =>
        have : es = [] := List.eq_nil_of_length_eq_zero hL.symm
        subst this
        exact .sl0 sz false none 0 (fun _ => rfl) (by simp [maxLen]) trivial
      | os _ _ _ _ b o cap t m hd hl hlc hmax hsh hm =>
        obtain ⟨b', o', hl', hbS, hs, cs, ct, cv, T, hh, hm', hT, hD, hc, hrr⟩ := row_of R hn (.inr ⟨_, hl⟩)
        rw [hl] at hl'
        obtain ⟨rfl, rfl⟩ := Prod.mk.inj (Option.some.inj hl')
        have himm : ∀ c, E.fp n c → Imm E (Hl.goneL h S) w c := fun c hc => imm_of_goneL R hnS hn trivial c hc
        have hcs : ∀ i j y, at2 (OV.datRows es) i j = some y → ∃ c, at2 es i j = some c ∧ y = c.dat ∧ cs[o + i * sz + j]? = some (cv i j) ∧ (cv i j).oneCell' = true ∧ Rep E h w c.val (cv i j) := by
          intro i j y hy
          obtain ⟨c, hc1, rfl⟩ := hdat i j y hy
          have hcell : at2 (OV.cells es) i j = some (.v c.val) := by rw [OV.cells, at2_map, hc1]; rfl
          have h2 := hrr i j _ hcell
          cases h2 with
          | v x c' S' h1 hx => exact ⟨c, hc1, rfl, hc i j _ hcell, h1, hx⟩
        have := Rep.sl (E := E) (h := Hl.goneL h S) (w := w) sz (OV.datRows es) false b (o + 0 * sz) cap cv (himm b hbS) (by rw [hlen, ← hL]; exact hlc) hmax (fun e => by simp at e)
          (fun e he => by
            rw [OV.datRows_map, List.mem_map] at he
            obtain ⟨e', he', rfl⟩ := he
            have := hs (e'.map fun c => Cell.v c.val) (List.mem_map.2 ⟨e', he', rfl⟩)
            simpa using this)
          (fun i j y hy => by
            obtain ⟨c, _, _, h1, _, _⟩ := hcs i j y hy
            simp only [World.cell?, hh]
            rw [← h1]
            simp)
          (fun i j y hy => by obtain ⟨c, _, _, _, h1, _⟩ := hcs i j y hy; exact h1)
          (fun i j y hy => by
            obtain ⟨c, hc1, rfl, _, _, h1⟩ := hcs i j y hy
            obtain ⟨e, he, hj⟩ := at2_some hc1
            exact unownRows R es (fun p hp => ho p (by rw [OV.rows]; exact List.mem_cons_of_mem _ hp)) (fun p hp => hS p (by rw [OV.rows]; exact List.mem_cons_of_mem _ hp)) e (List.mem_of_getElem? he) c (List.mem_of_getElem? hj) _ h1)
        rw [hlen, ← hL] at this
        exact this
    exact key _ rfl r
theorem unownRows {E : Env} {h : Heap} {w : World} (R : Rel E h w) {S : List Nat} : ∀ (es : List (List OV)), Owns h (OV.rowsRows es) → (∀ p ∈ OV.rowsRows es, p.1 ∈ S) → ∀ e ∈ es, ∀ c ∈ e, ∀ v, Rep E h w c.val v → Rep E (Hl.goneL h S) w c.dat v
  | [], _, _, e, he, _, _, _, _ => by simp at he
  | a :: es, ho, hS, e, he, c, hc, v, r => by
    rcases List.mem_cons.1 he with h1 | h1
    · rw [h1] at hc
      exact unownRow R a (fun p hp => ho p (by rw [OV.rowsRows]; exact List.mem_append_left _ hp)) (fun p hp => hS p (by rw [OV.rowsRows]; exact List.mem_append_left _ hp)) c hc v r
    · exact unownRows R es (fun p hp => ho p (by rw [OV.rowsRows]; exact List.mem_append_right _ hp)) (fun p hp => hS p (by rw [OV.rowsRows]; exact List.mem_append_right _ hp)) e h1 c hc v r
theorem unownRow {E : Env} {h : Heap} {w : World} (R : Rel E h w) {S : List Nat} : ∀ (e : List OV), Owns h (OV.rowsRow e) → (∀ p ∈ OV.rowsRow e, p.1 ∈ S) → ∀ c ∈ e, ∀ v, Rep E h w c.val v → Rep E (Hl.goneL h S) w c.dat v
  | [], _, _, c, hc, _, _ => by simp at hc
  | a :: e, ho, hS, c, hc, v, r => by
    rcases List.mem_cons.1 hc with h1 | h1
    · rw [h1] at r ⊢
      exact Rep.unown R a (fun p hp => ho p (by rw [OV.rowsRow]; exact List.mem_append_left _ hp)) (fun p hp => hS p (by rw [OV.rowsRow]; exact List.mem_append_left _ hp)) v r
    · exact unownRow R e (fun p hp => ho p (by rw [OV.rowsRow]; exact List.mem_append_right _ hp)) (fun p hp => hS p (by rw [OV.rowsRow]; exact List.mem_append_right _ hp)) c h1 v r
end

/-! ### lending -/
/-! ### what an own value stands for -/
def OR {α : Type} (R : α → List OV → Prop) : List α → List (List OV) → Prop
  | [], [] => True
  | x :: l, e :: es => R x e ∧ OR R l es
  | _, _ => False
theorem OR.length {α : Type} {R : α → List OV → Prop} : ∀ {l : List α} {es : List (List OV)}, OR R l es → l.length = es.length
  | [], [], _ => rfl
  | x :: l, e :: es, h => by simpa using OR.length h.2
  | [], _ :: _, h => h.elim
  | _ :: _, [], h => h.elim
def namesOf (l : List (Nat × HObj)) : List Nat := l.map (·.1)
/-- Other names are as they were. -/
def Upto (S : List Nat) (h h' : Heap) : Prop := ∀ m, m ∉ S → h' m = h m
end Go.Hl

/-
  The row's end for laws whose contract starts where no row has a name.
-/
namespace Go.Hl
open Go.ChangeShapes Go.WideShapes
set_option linter.unusedVariables false
set_option linter.unusedSimpArgs false
/-- What laws.sz* counts of a slice. -/
def szs {α : Type} (s : α → Nat) (l : List α) : Nat := l.length + (l.map s).sum
theorem szs_eq {α : Type} (s : α → Nat) (l : List α) : szs s l = l.length + (l.map s).sum := rfl
end Go.Hl

/-
  The row's end where package-level variables are laid.
-/
namespace Go.Hl
open Go.ChangeShapes Go.WideShapes
set_option linter.unusedVariables false
set_option linter.unusedSimpArgs false
/-- The kit's bridge, with the shape of the first world handed on. -/
theorem returns_shaped {H : Type} {enc : TypeId × Value → H} {a : Assume} {C : Checked} {os : Os} {f : FuncId} {fn : Func} {s : ChangeSpec} {conds : List PathCond} {apart fresh handsOn again : Bool} {X : World → Array Value → Prop}
    (hX : ∀ (w w' : World) (args : Array Value), w.heap = w'.heap → X w args → X w' args)
    (own : ownKnob C.prog.godebug = none) (started : os.Started) (noInit : C.prog.inits.idxOf? f = none) (hfn : C.prog.funcs[f]? = some fn)
    (witness : ∃ (w : World) (tape : Tape) (i : Input), w.os = os ∧ (w.forCall tape i).Shaped C.prog ∧ i.vars = [] ∧ Input.okWide C.prog (w.forCall tape i) .any w.heap.size f i ∧
      ((s.pre enc C.prog fn conds apart (w.forCall tape i).memory i.args ∧ X (w.forCall tape i).memory i.args) ∧ sizedMet enc C.prog fn (OpenSpec.ofChange s) apart (w.forCall tape i).memory i.args) ∧ a.holds C.prog (lone (Frame.enter C.prog f i.args .normal) [] (w.forCall tape i)))
    (contract : ∀ (W : World) (base : Nat) (args : Array Value) (ds gs : List (DataW H)) (before : List MemPlace), W.ShapedOpen C.prog →
      (∀ (j : Nat) t v, fn.params[j]? = some t → args[j]? = some v → Value.okWide C.prog W .any base t v) →
      DataW.Whole enc C.prog fn.params.toList s.vars apart W args.toList ds gs before →
      conds.all (PathCond.test C.prog ⟨fn.params.toList, ds, s.plain.varTypes C.prog, gs⟩) = true →
      (DataW.weightsEach C.prog (fn.params.toList ++ s.plain.varTypes C.prog) (ds ++ gs)).all (· ≤ reachBytes) = true → X W args →
      a.holds C.prog (lone (Frame.enter C.prog f args .normal) [] W) →
      Calls C.prog f args W fun e W' => ∃ v, e = .returned v ∧ s.post enc C.prog fn apart fresh handsOn again W args v W') :
    ReturnsInHanded a C os f .any (fun w args => (s.pre enc C.prog fn conds apart w args ∧ X w args) ∧ sizedMet enc C.prog fn (OpenSpec.ofChange s) apart w args) (s.post enc C.prog fn apart fresh handsOn again) := by
  refine returnsInHanded_of_calls own started noInit witness ?_
  intro w tape i _ hsh _ hok hpre hholds
  obtain ⟨_, _, _, fn', hfn', _, _, _, _, hval⟩ := hok
  have e : fn' = fn := Option.some.inj (hfn'.symm.trans hfn)
  subst e
  obtain ⟨⟨⟨ds, gs, before, hw, hc⟩, hx⟩, hz⟩ := hpre
  have hw' := DataW.Whole.of_heap (w' := w.forCall tape i) (by rfl) hw
  refine (contract (w.forCall tape i) w.heap.size i.args ds gs before hsh hval hw' hc (hz.weights hw) (hX _ _ _ (by rfl) hx) hholds).mono fun e W' ⟨v, he, hp⟩ => ?_
  subst he
  exact ChangeSpec.post_blind hp
/-- .. where package-level variables are laid. -/
theorem law_returnsD {H : Type} {enc : TypeId × Value → H} {C : Checked} {os : Os} {f : FuncId} {fn : Func} {s : ChangeSpec} {laid : List (String × DataW Unit)}
    (own : ownKnob C.prog.godebug = none) (started : os.Started) (noInit : C.prog.inits.idxOf? f = none) (hfn : C.prog.funcs[f]? = some fn)
    (witness : ∃ (w : World) (tape : Tape) (i : Input), w.os = os ∧ (w.forCall tape i).Shaped C.prog ∧ i.vars = [] ∧ Input.okWide C.prog (w.forCall tape i) .any w.heap.size f i ∧
      ((s.pre enc C.prog fn [] false (w.forCall tape i).memory i.args ∧ laidMetH C.prog laid (w.forCall tape i).memory) ∧ sizedMet enc C.prog fn (OpenSpec.ofChange s) false (w.forCall tape i).memory i.args) ∧ ({} : Assume).holds C.prog (lone (Frame.enter C.prog f i.args .normal) [] (w.forCall tape i)))
    (lo : laidOutB C.prog = true) (mr : mapsRowed C.prog = true)
    (hz : ((List.range C.prog.types.size).all fun t => match C.prog.underlying t with | some (.slice e) => decide (0 < C.prog.cellsOf e) | _ => true) = true)
    (T : List TypeId) (hT : datB C.prog T = true) (hp : fn.params.all (fun t => decide (t < C.prog.types.size) && T.contains t) = true)
    (hsv : s.vars = []) (hs : ∀ ds : List (DataW H), ds.length = fn.params.size → s.fn H ds = { results := [.lit (.bool true)], args := ds })
    {tb : TypeId} (hr : fn.resultTypes = #[tb]) (htb : C.prog.underlying tb = some .bool)
    (hc : ∀ xs, ArgsD C.prog fn.params.toList xs → Fn0 C.prog f xs (.bool true)) (hlaid : ∀ W, laidMetH C.prog laid W → W.ShapedOpen C.prog → ∀ p ∈ laidBlocks, ∃ cs t f, W.heap[p.1]? = some (.cells cs t f) ∧ p.2 cs) :
    ReturnsInHanded {} C os f .any (fun w args => (s.pre enc C.prog fn [] false w args ∧ laidMetH C.prog laid w) ∧ sizedMet enc C.prog fn (OpenSpec.ofChange s) false w args) (s.post enc C.prog fn false true false false) := by
  refine returns_shaped (X := fun w _ => laidMetH C.prog laid w) (fun _ _ _ hh h => h.of_heap hh) own started noInit hfn witness ?_
  intro W base args ds gs before hsh hval hW _ _ hL _
  have hW0 := hW
  obtain ⟨p, q, hA, hV, _, _, _⟩ := hW
  have hp' := Array.all_eq_true_iff_forall_mem.1 hp
  simp only [Bool.and_eq_true, decide_eq_true_eq] at hp'
  have hbase : ∀ (j : Nat) t v, fn.params.toList[j]? = some t → args.toList[j]? = some v → Value.okWide C.prog W .any base t v := fun j t v h1 h2 => hval j t v (by simpa using h1) (by simpa using h2)
  obtain ⟨xs, h1, h2, h3⟩ := open_args hT (E := noEnv) (h := noRows) (fun b hb => imm_none hb) (fun t ht => by have := (hp' t (by simpa using ht)).2; simpa using this) hbase hA
  refine Calls.mono (by simpa using (hc xs h1 noRows).2 noEnv W args.toList (rel_none W fun p hp => ⟨imm_none (by obtain ⟨cs, t, f, e, _⟩ := hlaid W hL hsh p hp; exact (Array.getElem?_eq_some_iff.1 e).1), hlaid W hL hsh p hp⟩) h2) fun e W' he => ?_
  cases e with
  | returned v =>
    obtain ⟨r, h', E', ⟨rfl, rfl⟩, ev, _, rep⟩ := he
    cases rep
    exact ⟨_, rfl, law_post lo mr hz (by rw [Array.all_eq_true_iff_forall_mem]; intro t ht; simpa using (hp' t ht).1) hsv hs hr htb hW0 (by simpa using h3) (fun b hb => (ev.keep b (imm_none hb)).1) ev.os ev.out⟩
  | _ => exact he.elim
theorem laidMet_tail {P : Program} {n : String} {d : DataW Unit} {r : List (String × DataW Unit)} {w : World} (h : laidMet P ((n, d) :: r) w) : laidMet P r w := by
  obtain ⟨ps, ⟨g, t, cs, fuel, p, q, _, _, _, _, hq, rfl⟩, hn, ha⟩ := h
  exact ⟨q, hq, (List.nodup_append.1 hn).2.1, fun b off hm => ha b off (List.mem_append_right _ hm)⟩
end Go.Hl

/-
  New own values behind a call.
-/
namespace Go.Hl
set_option linter.unusedVariables false
set_option linter.unusedSimpArgs false

theorem namesOf_append (a b : List (Nat × HObj)) : namesOf (a ++ b) = namesOf a ++ namesOf b := List.map_append
theorem mem_namesOf {l : List (Nat × HObj)} {m : Nat} : m ∈ namesOf l ↔ ∃ o, (m, o) ∈ l := by
  simp [namesOf]

/-- Rows that were not there: their names differ, nobody had them, and nothing else has changed. -/
structure New (h : Heap) (l : List (Nat × HObj)) (h' : Heap) : Prop where
  nodup : (namesOf l).Nodup
  fresh : ∀ m ∈ namesOf l, h m = none
  owns : Owns h' l
  upto : Upto (namesOf l) h h'

/-- Rows that are forgotten. -/
def dropN (h : Heap) (S : List Nat) : Heap := fun m => if m ∈ S then none else h m
/-- .. new ones, of which some are forgotten. -/
theorem New.drop {h h' : Heap} {a b : List (Nat × HObj)} (x : New h (a ++ b) h') : New h b (dropN h' (namesOf a)) := by
  have hnd := x.nodup
  rw [namesOf_append] at hnd
  obtain ⟨_, nb, dis⟩ := List.nodup_append.1 hnd
  refine ⟨nb, fun m hm => x.fresh m (by rw [namesOf_append]; exact List.mem_append_right _ hm), fun p hp => ?_, fun m hm => ?_⟩
  · have : p.1 ∉ namesOf a := fun q => dis _ q _ (mem_namesOf.2 ⟨p.2, hp⟩) rfl
    simp only [dropN, if_neg this]
    exact x.owns p (List.mem_append_right _ hp)
  · by_cases e : m ∈ namesOf a
    · simp only [dropN, if_pos e]
      exact (x.fresh m (by rw [namesOf_append]; exact List.mem_append_left _ e)).symm
    · simp only [dropN, if_neg e]
      exact x.upto m (by rw [namesOf_append]; simp [e, hm])

end Go.Hl

/-
  New own values, and rows that are thrown away.
-/
namespace Go.Hl
set_option linter.unusedVariables false
set_option linter.unusedSimpArgs false

/-- Rows that were not there (l), and others that were not there and don't matter (T). -/
structure NewT (h : Heap) (T : List Nat) (l : List (Nat × HObj)) (h' : Heap) : Prop where
  nodup : (T ++ namesOf l).Nodup
  fresh : ∀ m ∈ T ++ namesOf l, h m = none
  there : ∀ m ∈ T, h' m ≠ none
  owns : Owns h' l
  upto : Upto (T ++ namesOf l) h h'

theorem NewT.drop {h h' : Heap} {T : List Nat} {l : List (Nat × HObj)} (x : NewT h T l h') : New h l (dropN h' T) := by
  obtain ⟨_, nb, dis⟩ := List.nodup_append.1 x.nodup
  refine ⟨nb, fun m hm => x.fresh m (List.mem_append_right _ hm), fun p hp => ?_, fun m hm => ?_⟩
  · have : p.1 ∉ T := fun q => dis _ q _ (mem_namesOf.2 ⟨p.2, hp⟩) rfl
    simp only [dropN, if_neg this]
    exact x.owns p hp
  · by_cases e : m ∈ T
    · simp only [dropN, if_pos e]
      exact (x.fresh m (List.mem_append_left _ e)).symm
    · simp only [dropN, if_neg e]
      exact x.upto m (by simp [e, hm])
/-- What a row reads as behind a call that brings new rows. -/
theorem New.keep {h h' : Heap} {l : List (Nat × HObj)} (x : New h l h') {n : Nat} {o : HObj} (hn : h n = some o) : h' n = some o := by
  rw [x.upto n fun q => by rw [x.fresh n q] at hn; cases hn]; exact hn
end Go.Hl

/-
  Own results: contracts, calls under temporary rows, and calls that view all own rows as memory that nobody writes.
-/
namespace Go.Hl
set_option linter.unusedVariables false
set_option linter.unusedSimpArgs false

section
variable {P : Program} {f : FuncId} {args : List HVal} {Q : HVal → List (Nat × HObj) → Prop} {K : HVal → Heap → Prop} {t : Tag K}
end

/-! ### all own rows as memory that nobody writes, for the time of a call -/
def goneA (h : Heap) : Heap := fun m => (h m).map fun _ => .gone
theorem goneA_live {h : Heap} {m : Nat} {o : HObj} (ho : goneA h m = some o) : o = .gone := by
  simp only [goneA, Option.map_eq_some_iff] at ho
  obtain ⟨_, _, rfl⟩ := ho; rfl
theorem imm_goneA {E : Env} {h : Heap} {w : World} {b : Nat} (hb : b < w.heap.size) : Imm E (goneA h) w b := ⟨hb, fun m o hm ho => by rw [goneA_live hm] at ho; exact ho.elim⟩
/-- What a value reads as when all own rows are left alone. -/
def View (h : Heap) (x x' : HVal) : Prop := ∀ E w v, Rel E h w → Rep E h w x v → Rep E (goneA h) w x' v
theorem imm_lt {E : Env} {h : Heap} {w : World} {b : Nat} (i : Imm E h w b) : Imm E (goneA h) w b := imm_goneA i.1
theorem View.same (h : Heap) (x : HVal) : View h x x := fun E w v R r => r.imm fun b i => imm_lt i
theorem imm_goneLA {E : Env} {h : Heap} {w : World} {S : List Nat} : ∀ b, Imm E (Hl.goneL h S) w b → Imm E (goneA h) w b := fun b i => imm_goneA i.1
/-- A pointer into an own row. -/
theorem View.op {h : Heap} {n sz i off : Nat} (es : List (List OV)) (hn : h n = some (.row sz (OV.cells es))) (hne : es ≠ []) (ho : Owns h (OV.rowsRows es)) : View h (.op n sz i off) (.ip sz (OV.datRows es) i off) := by
  intro E w v R r
  cases v <;> try (cases r; done)
  cases r with
  | op _ _ _ _ b o hd hl =>
    obtain ⟨b', o', hl', hbS, hs, cs, ct, cv, T, hh, hm', hT, hD, hc, hrr⟩ := row_of R hn (.inr ⟨_, hl⟩)
    rw [hl] at hl'
    obtain ⟨rfl, rfl⟩ := Prod.mk.inj (Option.some.inj hl')
    have hcs : ∀ i j y, at2 (OV.datRows es) i j = some y → ∃ c, at2 es i j = some c ∧ y = c.dat ∧ cs[o + i * sz + j]? = some (cv i j) ∧ (cv i j).oneCell' = true ∧ Rep E h w c.val (cv i j) := by
      intro i j y hy
      rw [OV.datRows_map, at2_map] at hy
      obtain ⟨c, hc1, rfl⟩ := Option.map_eq_some_iff.1 hy
      have hcell : at2 (OV.cells es) i j = some (.v c.val) := by rw [OV.cells, at2_map, hc1]; rfl
      have h2 := hrr i j _ hcell
      generalize hcv : cv i j = z at h2
      cases h2 with
      | v x c' S' h1 hx => exact ⟨c, hc1, rfl, hcv ▸ hc i j _ hcell, h1, hx⟩
    refine .ip sz (OV.datRows es) i off b o cv (imm_goneA (R.lt n _ b hn trivial hbS)) ?_ ?_ ?_ ?_
    · intro e he
      rw [OV.datRows_map, List.mem_map] at he
      obtain ⟨e', he', rfl⟩ := he
      have := hs (e'.map fun c => Cell.v c.val) (List.mem_map.2 ⟨e', he', rfl⟩)
      simpa using this
    · intro i j y hy
      obtain ⟨c, _, _, h1, _, _⟩ := hcs i j y hy
      simp only [World.cell?, hh]
      rw [← h1]
      simp
    · intro i j y hy; obtain ⟨c, _, _, _, h1, _⟩ := hcs i j y hy; exact h1
    · intro i j y hy
      obtain ⟨c, hc1, rfl, _, _, h1⟩ := hcs i j y hy
      obtain ⟨e, he, hj⟩ := at2_some hc1
      exact (unownRows R (S := namesOf (OV.rowsRows es)) es ho (fun p hp => mem_namesOf.2 ⟨p.2, hp⟩) e (List.mem_of_getElem? he) c (List.mem_of_getElem? hj) _ h1).imm imm_goneLA
section
variable {P : Program} {f : FuncId} {args args' : List HVal} {Q : HVal → List (Nat × HObj) → Prop} {K : HVal → Heap → Prop} {t : Tag K} {g : Heap}
end

/-! ### own values whose cells point nowhere else -/
end Go.Hl

/-
  What own results are: forms of contracts.
-/
namespace Go.Hl
set_option linter.unusedVariables false
set_option linter.unusedSimpArgs false
end Go.Hl

/-
  Own values whose leaves are numbered one after the other (what laws.mark* do).
-/
namespace Go.Hl
set_option linter.unusedVariables false
set_option linter.unusedSimpArgs false

end Go.Hl

/-
  Calls under temporary rows, for some numbers of such rows.
-/
namespace Go.Hl
set_option linter.unusedVariables false
set_option linter.unusedSimpArgs false
theorem Owns.up {g : Heap} {l : List (Nat × HObj)} {n : Nat} {o : HObj} (ow : Owns g l) (hn : g n = none) : Owns (upd g n o) l := fun p hp => by
  have : p.1 ≠ n := fun e => by have := ow p hp; rw [e, hn] at this; cases this
  rw [upd_ne _ _ _ _ this]; exact ow p hp
end Go.Hl

/-
  Own results within tuples, and their sealed forms.
-/
namespace Go.Hl
set_option linter.unusedVariables false
set_option linter.unusedSimpArgs false
/-! ### a slice that grows from empty -/
end Go.Hl

/-
  Ends of walks that hand back own slices.
-/
namespace Go.Hl
set_option linter.unusedVariables false
set_option linter.unusedSimpArgs false
/-! ### heaps that say less -/
def Heap.wk (g h : Heap) : Prop := ∀ E w, Rel E h w → Rel E g w ∧ ∀ b, Imm E h w b → Imm E g w b
theorem Heap.wk_of_le {g h : Heap} (hl : g.le h) : g.wk h := fun E w R => ⟨R.forget hl, fun b i => Imm.le hl i⟩
theorem Heap.wk.ev {g h : Heap} (x : g.wk h) {E : Env} {w : World} (R : Rel E h w) : Ev E h w E g w :=
  ⟨Nat.le_refl _, fun b hb => ⟨rfl, (x E w R).2 b hb⟩, fun _ _ => rfl, fun _ hn => ⟨rfl, hn⟩, rfl, rfl⟩
theorem HWp.wk {P : Program} {N : Nat} {c : Code} {Q : Exit → Tmps → Heap → Prop} {τ : Tmps} {h g : Heap} (hl : g.wk h) (x : HWp P N c Q τ g) : HWp P N c Q τ h :=
  fun E w a R r => Code.wp_mono (fun e a' w' y => AfterC.trans (hl.ev R) y) (x E w a (hl E w R).1 (r.ev (hl.ev R)))
theorem HWp.loopW {P : Program} {N : Nat} {c : Code} {Q : Exit → Tmps → Heap → Prop} {τ : Tmps} {h : Heap} {α : Type} (S : α → Tmps) (H : α → Heap) (side : α → Prop) (μ : α → Nat) (x₀ : α)
    (h₀ : SatL (S x₀) τ ∧ (H x₀).wk h ∧ side x₀)
    (round : ∀ x, side x → HWp P N c (thenQ (fun τ' h' => ∃ x', SatL (S x') τ' ∧ (H x').wk h' ∧ side x' ∧ μ x' < μ x) Q) (S x) (H x)) : HWp P N (.loop c) Q τ h :=
  HWp.loop (fun x τ h => SatL (S x) τ ∧ (H x).wk h ∧ side x) μ x₀ h₀ fun x τ h ⟨h1, h2, h3⟩ =>
    HWp.wk h2 (HWp.weaken h1 (Heap.le_refl _) ((round x h3).mono fun e τ h q => by
      cases e <;> simp only [thenQ] at q ⊢ <;> first | exact q | (obtain ⟨x', a, b, c, d⟩ := q; exact ⟨x', ⟨a, b, c⟩, d⟩)))
theorem loopW {P : Program} {N : Nat} {keep ib : List Nat} {mk : Marks} {c : Code} {Q : Exit → Tmps → Heap → Prop} {τ : Tmps} {h : Heap} {t : Tag (Code.loop c, Q)} {α : Type} (hmix : P.follows .mixedOrders = true) (hc : codeOK N mk c = true) (S : α → Tmps) (H : α → Heap) (side : α → Prop) (μ : α → Nat) (x₀ : α)
    (h₀ : SatL (S x₀) τ ∧ (H x₀).wk h ∧ side x₀)
    (round : ∀ x, side x → hwpF P N keep ib mk c (fun τ' h' => ∃ x', SatL (S x') τ' ∧ (H x').wk h' ∧ side x' ∧ μ x' < μ x) Q (S x) (H x) ()) : HWpF P N (.loop c) Q τ h t :=
  HWp.loopW S H side μ x₀ h₀ fun x hx => hwpF_sound hmix c _ _ _ _ hc (round x hx)
/-- One cell says less. -/
def CellWk (x y : Cell) : Prop := ∀ E h w c S, CRep E h w x c S → CRep E h w y c S
/-- Rows whose cells say less. -/
def RowsWk : List (List Cell) → List (List Cell) → Prop
  | [], [] => True
  | a :: l, b :: m => (a.length = b.length ∧ ∀ (j : Nat) (x : Cell), b[j]? = some x → ∃ y, a[j]? = some y ∧ CellWk y x) ∧ RowsWk l m
  | _, _ => False
theorem RowsWk.length : ∀ {l m}, RowsWk l m → l.length = m.length
  | [], [], _ => rfl
  | a :: l, b :: m, h => by rw [List.length_cons, List.length_cons, RowsWk.length h.2]
  | [], _ :: _, h => h.elim
  | _ :: _, [], h => h.elim
theorem RowsWk.size {sz : Nat} : ∀ {l m}, RowsWk l m → (∀ e ∈ l, e.length = sz) → ∀ e ∈ m, e.length = sz
  | [], [], _, _ => by simp
  | a :: l, b :: m, h, hs => fun e he => by
    rcases List.mem_cons.1 he with rfl | he
    · rw [← h.1.1]; exact hs a List.mem_cons_self
    · exact RowsWk.size h.2 (fun e he => hs e (List.mem_cons_of_mem _ he)) e he
  | [], _ :: _, h, _ => h.elim
  | _ :: _, [], h, _ => h.elim
end Go.Hl

/-
  Structs whose slices change: own fields written, heaps that say less, several slices that grow at a time.
-/
namespace Go.Hl
set_option linter.unusedVariables false
set_option linter.unusedSimpArgs false
/-! ### four slices that grow together -/
abbrev Q4 := Option (Nat × Nat × Nat × Nat)
def q1 : Q4 → Option Nat | none => none | some x => some x.1
def q2 : Q4 → Option Nat | none => none | some x => some x.2.1
/-! ### ends of walks -/
/-! ### own slices in a struct: read and written -/
/-! ### loops that leave the rows, or write one -/
/-! ### methods that change an own struct in its box -/
/-- A pointer to an own struct in its box, lent out. -/
theorem View.box {T : List HVal} {g : Heap} {nb sz : Nat} {e : List OV} (hd : e.map OV.dat = T) (hn : g nb = none) (ho : Owns g (OV.rowsRow e)) : View (upd g nb (.row sz (OV.cells [e]))) (.op nb sz 0 0) (.ip sz [T] 0 0) := by
  have := View.op (h := upd g nb (.row sz (OV.cells [e]))) (n := nb) (sz := sz) (i := 0) (off := 0) [e] (by rw [upd_same]) (by simp) (by
    have h1 : OV.rowsRows [e] = OV.rowsRow e := by simp [OV.rowsRows]
    rw [h1]; exact ho.up hn)
  have h2 : OV.datRows [e] = [T] := by rw [OV.datRows_map]; simp [hd]
  rwa [h2] at this
/-! ### an element of an own slice of structs is replaced -/
/-! ### which heap says less, name by name -/
/-! ### a call, seen from a heap that says less -/
/-- .. and its result. -/
theorem HFn.shift {P : Program} {f : FuncId} {args : List HVal} {h : Heap} {K K' : HVal → Heap → Prop} (a : HFn P f args h K') (hk : ∀ r h', K' r h' → ∃ g : Heap, g.wk h' ∧ K r g) : HFn P f args h K :=
  ⟨a.1, fun E w vs R r => by
    exact (a.2 E w vs R r).mono fun e w' q => by
      cases e with
      | returned v =>
        obtain ⟨r, h', E', k, ev, R2, r2⟩ := q
        obtain ⟨g, hg, k'⟩ := hk r h' k
        obtain ⟨R3, hi⟩ := hg E' w' R2
        exact ⟨r, g, E', k', ev.trans (hg.ev R2), R3, Rep.imm hi r2⟩
      | _ => exact q.elim⟩
/-! ### a row of numbers that is filled from the left -/
end Go.Hl

/-
  Contracts of Go's library that the kit has proved, as contracts of this layer.
-/
namespace Go.Hl
set_option linter.unusedVariables false
set_option linter.unusedSimpArgs false
/-- A memory with more blocks behind. -/
theorem ev_grow {E : Env} {h : Heap} {w : World} (k : Nat) (os : Array Obj) : Ev E h w E h (Go.Sort.grow (w.drewN k) os) := by
  have hb : ∀ b, b < w.heap.size → (Go.Sort.grow (w.drewN k) os).heap[b]? = w.heap[b]? := fun b hb => by
    show (w.heap ++ os)[b]? = _
    rw [Array.getElem?_append_left hb]
  refine ⟨?_, fun b i => ⟨hb b i.1, ?_, i.2⟩, fun b i => ?_, fun _ hn => ⟨rfl, hn⟩, rfl, rfl⟩
  · show w.heap.size ≤ (w.heap ++ os).size
    simp
  · show b < (w.heap ++ os).size
    have := i.1
    simp; omega
  · simp only [World.shape?, hb b i]
theorem rel_grow {E : Env} {h : Heap} {w : World} (R : Rel E h w) (k : Nat) (os : Array Obj) : Rel E h (Go.Sort.grow (w.drewN k) os) :=
  have ev := ev_grow (E := E) (h := h) (w := w) k os
  ⟨R.fin, R.dom, fun n x b hn hx hb => Nat.lt_of_lt_of_le (R.lt n x b hn hx hb) ev.size, R.apart,
    fun n x hn => (R.obj n x hn).ev ev rfl rfl fun c hx hc => by
      have := R.lt n x c hn hx hc
      show (w.heap ++ os)[c]? = _
      rw [Array.getElem?_append_left this], R.laid.ev ev⟩
theorem fn0_grown {P : Program} {f : FuncId} {args : List HVal} {r : HVal} (hc : callable P f = true)
    (H : ∀ E h w vs, Rel E h w → RepL E h w args vs → Calls P f vs.toArray w fun e w' => ∃ v, e = .returned v ∧ (∀ E' h' w', Rep E' h' w' r v) ∧ ∃ k os, w' = Go.Sort.grow (w.drewN k) os) : Fn0 P f args r := fun h =>
  ⟨hc, fun E w vs R rl => (H E h w vs R rl).mono fun e w' q => by
    obtain ⟨v, rfl, hv, k, os, rfl⟩ := q
    exact ⟨r, h, E, ⟨rfl, rfl⟩, ev_grow k os, rel_grow R k os, hv _ _ _⟩⟩
/-- A laid variable's cells, read through its name. -/
theorem LaidIn.var {E : Env} {h : Heap} {w : World} (x : LaidIn E h w) {P : Program} {name : String} {g : Nat} {Q : Array Value → Prop} (hg : P.globalNamed name = some g) (hm : (g, Q) ∈ laidBlocks) : ∃ cs, w.var? P name = some cs ∧ Q cs := by
  obtain ⟨_, cs, t, f, ht, q⟩ := x _ hm
  exact ⟨cs, by simp only [World.var?, hg, Option.bind_some, ht], q⟩
end Go.Hl

/-
  Contracts of the shelf that end in 'Below' at the heap's end.
-/
namespace Go.Hl
set_option linter.unusedVariables false
set_option linter.unusedVariables false
set_option linter.unusedSimpArgs false
/-- A general contract by the walk, where what is handed back may be seen in another way. -/
theorem fnKF {P : Program} {f : FuncId} {fn : Func} {c : Code} (N : Nat) (keep ib : List Nat) (mk : Marks) {args : List HVal} {h : Heap} {K : HVal → Heap → Prop} (hmix : P.follows .mixedOrders = true) (hf : P.funcs[f]? = some fn) (hb : fn.body = some c)
    (hck : (callable P f && decide (fn.ntmps = N) && codeOK N mk c) = true) (hl : args.length ≤ N)
    (hw : hwpF P N keep ib mk c (fun τ h' => postF P fn.results (fun r h' => ∃ r1 g, Shift r h' r1 g ∧ K r1 g) () .normal τ h') (postF P fn.results (fun r h' => ∃ r1 g, Shift r h' r1 g ∧ K r1 g) ()) (argsT 0 args) h ()) : HFn P f args h K :=
  fn_of_wp_shift (fn := fn) (c := c) (N := N) (fn_hwp N keep ib mk hmix hf hb hck hl (K' := fun r h' => ∃ r1 g, Shift r h' r1 g ∧ K r1 g) (K := fun r h' => ∃ r1 g, Shift r h' r1 g ∧ K r1 g) hw fun _ h' hx => ⟨h', Heap.le_refl _, hx⟩) fun r h' hx => hx
end Go.Hl

/-
  A part of an own row, as a row of its own.
-/
namespace Go.Hl
set_option linter.unusedVariables false
set_option linter.unusedSimpArgs false
end Go.Hl

/-
  Own objects of which it is known what holds of them: changed under their own names.
-/
namespace Go.Hl
set_option linter.unusedVariables false
set_option linter.unusedSimpArgs false
/-- Another footprint of a name. -/
def Env.fpset (E : Env) (n : Nat) (S : Nat → Prop) : Env where
  loc := E.loc
  fp := fun m c => if m = n then S c else E.fp m c
  used := E.used
/-- What is kept beside a footprint. -/
structure AbsFr (w w' : World) (S S' : Nat → Prop) : Prop where
  new : ∀ c, S' c → S c ∨ w.heap.size ≤ c
  lt : ∀ c, S' c → c < w'.heap.size
  size : w.heap.size ≤ w'.heap.size
  heap : ∀ c, c < w.heap.size → ¬ S c → w'.heap[c]? = w.heap[c]?
  shape : ∀ c, c < w.heap.size → w'.shape? c = w.shape? c
  os : w'.os = w.os
  out : w'.output = w.output
theorem Ev.fpset {E : Env} {h : Heap} {w w' : World} (R : Rel E h w) {n : Nat} {x : HObj} (hn : h n = some x) (hx : x.live) {S : Nat → Prop} (x' : HObj) (F : AbsFr w w' (E.fp n) S) : Ev E h w (E.fpset n S) (upd h n x') w' := by
  refine ⟨F.size, fun c hc => ⟨F.heap c hc.1 (hc.2 n x hn hx), ⟨by have := hc.1; have := F.size; omega, ?_⟩⟩, F.shape, fun m hm => ⟨rfl, hm⟩, F.os, F.out⟩
  intro m y hm hy hf
  by_cases e : m = n
  · subst e
    have hf : S c := by simpa [Env.fpset] using hf
    rcases F.new c hf with q | q
    · exact hc.2 m x hn hx q
    · have := hc.1; omega
  · rw [upd_ne _ _ _ _ e] at hm
    exact hc.2 m y hm hy (by simpa [Env.fpset, e] using hf)
theorem Rel.fpset {E : Env} {h : Heap} {w w' : World} (R : Rel E h w) {n : Nat} {x : HObj} (hn : h n = some x) (hx : x.live) {S : Nat → Prop} (x' : HObj) (F : AbsFr w w' (E.fp n) S) (hO : ORel (E.fpset n S) (upd h n x') w' n x') : Rel (E.fpset n S) (upd h n x') w' := by
  have ev := Ev.fpset R hn hx x' F
  have hfp : ∀ m, m ≠ n → (E.fpset n S).fp m = E.fp m := fun m e => funext fun c => by simp [Env.fpset, e]
  have hold : ∀ m y, m ≠ n → upd h n x' m = some y → h m = some y := fun m y e hm => by rwa [upd_ne _ _ _ _ e] at hm
  have hS : ∀ c, (E.fpset n S).fp n c → S c := fun c hc => by simpa [Env.fpset] using hc
  refine ⟨R.fin, fun m hm => ?_, fun m y c hm hy hf => ?_, fun m y m' y' c hm hy hm' hy' hf hf' => ?_, fun m y hm => ?_, R.laid.ev ev⟩
  · by_cases e : m = n
    · subst e; exact R.dom m (by simp [hn])
    · rw [upd_ne _ _ _ _ e] at hm; exact R.dom m hm
  · by_cases e : m = n
    · subst e; exact F.lt c (hS c hf)
    · rw [hfp m e] at hf
      have := R.lt m y c (hold m y e hm) hy hf
      have := F.size; omega
  · have key : ∀ m y, m ≠ n → upd h n x' m = some y → y.live → (E.fpset n S).fp m c → (E.fpset n S).fp n c → False := fun m y e hm hy hf hf' => by
      rw [hfp m e] at hf
      rcases F.new c (hS c hf') with q | q
      · exact e (R.apart m y n x c (hold m y e hm) hy hn hx hf q)
      · have := R.lt m y c (hold m y e hm) hy hf; omega
    by_cases e : m = n
    · by_cases e' : m' = n
      · rw [e, e']
      · subst e; exact (key m' y' e' hm' hy' hf' hf).elim
    · by_cases e' : m' = n
      · subst e'; exact (key m y e hm hy hf hf').elim
      · rw [hfp m e] at hf; rw [hfp m' e'] at hf'
        exact R.apart m y m' y' c (hold m y e hm) hy (hold m' y' e' hm') hy' hf hf'
  · by_cases e : m = n
    · subst e; rw [upd_same] at hm; cases hm; exact hO
    · have hm' := hold m y e hm
      exact (R.obj m y hm').ev ev rfl (hfp m e) fun c hl hc => F.heap c (R.lt m y c hm' hl hc) fun q => e (R.apart m y n x c hm' hl hn hx hc q)
/-- A predicate of a block and its footprint that looks at these blocks only. -/
def AbsOK (Q : Nat → (Nat → Prop) → World → Prop) : Prop := ∀ b S w0 w, Q b S w0 → S b → (∀ c, S c → w.heap[c]? = w0.heap[c]?) → Q b S w
/-- A call that changes such an object, and nothing else. -/
theorem fn_abs {P : Program} {f : FuncId} {n sz : Nat} {h : Heap} {Q Q' : Nat → (Nat → Prop) → World → Prop} {xs : List HVal} {r : HVal} (hc : callable P f = true) (hQ : AbsOK Q) (hn : h n = some (.abs Q))
    (H : ∀ (E : Env) (g : Heap) (b : Nat) (S : Nat → Prop) (w : World) (vs : List Value), RepL E g w xs vs → Q b S w → S b → (∀ c, S c → c < w.heap.size) →
      Calls P f (Value.pointer (some ⟨b, 0, none⟩) :: vs).toArray w fun e w' => ∃ (u : Value) (S' : Nat → Prop), e = .returned u ∧ (∀ E' h' w', Rep E' h' w' r u) ∧ S' b ∧ Q' b S' w' ∧ AbsFr w w' S S') :
    HFn P f (.op n sz 0 0 :: xs) h fun r' h' => r' = r ∧ h' = upd h n (.abs Q') :=
  ⟨hc, fun E w vs R rl => by
    match vs, rl with
    | v :: vs, rl =>
      obtain ⟨b, hl, hf, w0, hq, ha⟩ := R.obj n _ hn
      have hq := hQ b _ w0 w hq hf ha
      have hv : v = .pointer (some ⟨b, 0, none⟩) := by
        have h1 := rl.1
        cases v <;> (try cases h1; done)
        cases h1 with
        | op _ _ _ _ b' o hd hl' =>
          rw [hl] at hl'
          cases hl'
          simp
      subst hv
      refine (H E h b (E.fp n) w vs rl.2 hq hf fun c hc => R.lt n _ c hn trivial hc).mono ?_
      rintro e w' ⟨u, S', rfl, hu, hSb, hq', F⟩
      exact ⟨r, _, E.fpset n S', ⟨rfl, rfl⟩, Ev.fpset R hn trivial _ F, R.fpset hn trivial _ F ⟨b, hl, by simpa [Env.fpset] using hSb, w', by
        have : (E.fpset n S').fp n = S' := funext fun c => by simp [Env.fpset]
        rw [this]; exact hq', fun _ _ => rfl⟩, hu _ _ _⟩⟩
/-- A row kept as it was laid, as an object of which it is known what holds. -/
theorem Heap.wk_abs {h : Heap} {n : Nat} {t : TypeId} {cs : Array Value} {Q : Nat → (Nat → Prop) → World → Prop} (hn : h n = some (.raw t cs)) (hq : ∀ b S w, S b → w.heap[b]? = some (.cells cs t (0, 0)) → Q b S w) : (upd h n (.abs Q)).wk h := fun E w R => by
  have hc : ∀ m y, upd h n (.abs Q) m = some y → y.live → ∃ y', h m = some y' ∧ y'.live := fun m y hm hy => by
    by_cases e : m = n
    · subst e; exact ⟨_, hn, trivial⟩
    · rw [upd_ne _ _ _ _ e] at hm; exact ⟨y, hm, hy⟩
  have hi : ∀ b, Imm E h w b → Imm E (upd h n (.abs Q)) w b := fun b i => ⟨i.1, fun m y hm hy => by
    obtain ⟨y', h1, h2⟩ := hc m y hm hy
    exact i.2 m y' h1 h2⟩
  refine ⟨⟨R.fin, fun m hm => ?_, fun m y b hm hy hf => ?_, fun m y m' y' b hm hy hm' hy' hf hf' => ?_, fun m y hm => ?_, R.laid.imm hi⟩, hi⟩
  · by_cases e : m = n
    · subst e; exact R.dom m (by simp [hn])
    · rw [upd_ne _ _ _ _ e] at hm; exact R.dom m hm
  · obtain ⟨z, h1, h2⟩ := hc m y hm hy; exact R.lt m z b h1 h2 hf
  · obtain ⟨z, h1, h2⟩ := hc m y hm hy
    obtain ⟨z', h1', h2'⟩ := hc m' y' hm' hy'
    exact R.apart m z m' z' b h1 h2 h1' h2' hf hf'
  · by_cases e : m = n
    · subst e
      rw [upd_same] at hm; cases hm
      obtain ⟨b, hl, hf, hb⟩ := R.obj m _ hn
      exact ⟨b, hl, hf, w, hq b _ w hf hb, fun _ _ => rfl⟩
    · rw [upd_ne _ _ _ _ e] at hm
      exact (R.obj m y hm).imm hi
end Go.Hl

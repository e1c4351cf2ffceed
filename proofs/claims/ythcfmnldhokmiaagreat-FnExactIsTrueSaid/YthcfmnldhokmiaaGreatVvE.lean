/-
  Contracts of functions and laws of the layer over the walk.
-/
import Derived.Test.YthcfmnldhokmiaaGreatVvD
import Derived.Test.YthcfmnldhokmiaaGreatHlD
import Derived.Test.YthcfmnldhokmiaaGreatVvB
import Derived.Test.YthcfmnldhokmiaaGreatGn
namespace Go.Hl
open Go.Proofs
set_option linter.unusedVariables false
set_option linter.unusedSimpArgs false
def keep297 : List Nat := [0, 1, 2, 6, 7, 8, 9, 10, 18, 49, 67]
def ib297 : List Nat := [11, 31]
def mk297 : Marks := fun id => match id with | 6 => ([3], (.op 0 (.op 1 (.op 2 (.op 7 (.op 8 (.op 9 (.op 10 (.op 3 (.op 4 (.op 5 (.op 6 (.op 11 (.op 12 .nil))))))))))))), []) | 8 => ([11], (.op 0 (.op 1 (.op 2 (.op 3 (.op 4 (.op 5 (.op 6 (.op 7 (.op 8 (.op 9 (.op 10 (.op 11 (.op 12 .nil))))))))))))), []) | _ => ([], .nil, [])
set_option maxRecDepth 100000 in
theorem call_10 {p : DProgram} (hp : p.ok) {sz n : Nat} (hv : RunAt p sz n) (h : Heap) (nb st : Nat) (e : DExpr) (env : List (List Int)) (funcs : Int) (hb : h nb = some (rBox p sz st 0)) (hst : st ≤ 3000) (hn : 3001 ≤ n + st) (hok : e.ok p funcs env.length) (hf0 : 0 ≤ funcs) (hf : funcs ≤ p.fFuncs.length) (henv : ∀ s ∈ env, serOK sz s) (hel : env.length ≤ 412 + st) (hk : e.fKind = 10) :
    HFn Tryz.prog 297 [.op nb 4 0 0, .ip 5 [e.c] 0 0, intss env] h (RnQ h nb p sz st 0 ((seqE (fun t e => evE p sz n t e env) e.fKids st).andThen fun vs t => evE p sz n t (p.out e.fNum e.fPick) vs)) := by
  obtain ⟨f, F⟩ := callsOf hp hok hf (.inl hk)
  have f1 := F.lo
  have f2 := F.hi
  have f3 := F.pk
  have f4 := F.pk2
  have f5 := F.kids
  have f6 := F.params
  have f8 := F.outs
  have f9 := F.loop
  have hkok := kids_ok hok (by omega)
  rw [DExpr.c_eq]
  refine fnKF 81 keep297 ib297 mk297 mix Tryz.func297 rfl (by kernel_rfl) (by simp) ?_
  simp (maxSteps := 1000000) -dsimp -implicitDefEqProofs only [go_sem, ↓reduceIte, keep297, ib297, mk297, Tryz.f297]
  refine ⟨Nat.zero_lt_one, ?_⟩
  refine loopF (keep := keep297) (ib := ib297) (mk := mk297) mix (by kernel_rfl) (fun x : Nat × List (List Int) × Nat × Int × Option Nat => [(0, .op nb 4 0 0), (1, .ip 5 [[I e.fKind, I e.fNum, I e.fPick, I e.fCount, sls 5 DExpr.c e.fKids]] 0 0), (2, intss env), (7, oval 1 x.2.1.length x.2.2.2.2), (8, I x.1)]) (fun x => oheap (upd h nb (rBox p sz x.2.2.1 x.2.2.2.1)) (.row 1 ((x.2.1.map fun s => [ints s]).map (List.map .v))) x.2.2.2.2) (fun x => x.1 ≤ e.fKids.length ∧ x.2.1.length = x.1 ∧ (∀ s ∈ x.2.1, serOK sz s) ∧ st ≤ x.2.2.1 ∧ x.2.2.1 ≤ 3000 ∧ outR (runE 0 (seqE (fun t e => evE p sz n t e env) (e.fKids.take x.1) st)) x.2.1 x.2.2.1 x.2.2.2.1 ∧ oside h x.2.1 x.2.2.2.2) (fun x => e.fKids.length - x.1) (0, [], st, 0, none) ⟨by simp [SatL, tget, oval], by simp only [oheap_none]; rw [upd_self hb]; exact Heap.le_refl _, Nat.zero_le _, rfl, by simp, Nat.le_refl _, hst, outR_init _ _ _, rfl⟩ ?_
  rintro ⟨k, vs, t, c', o⟩ ⟨hk2, hvl, hvs, ht0, ht, ho, hos⟩
  simp only at hk2 hvl hvs ht0 ht ho hos ⊢
  rcases Nat.lt_or_ge k e.fKids.length with hlt | hge
  · have ek : e.fKids[k]? = some e.fKids[k] := List.getElem?_eq_getElem hlt
    have hnext : ∀ (s : List Int) (t2 : Nat) (c2 : Int), outR (runE c' (evE p sz n t e.fKids[k] env)) s t2 c2 → outR (runE 0 (seqE (fun t e => evE p sz n t e env) (e.fKids.take (k + 1)) st)) (vs ++ [s]) t2 c2 := fun s t2 c2 h3 => by
      rw [List.take_succ_eq_append_getElem hlt, seqE_snoc]
      exact ho.thenC (h3.thenC (outR_init _ _ _))
    have hall : ∀ s, serOK sz s → ∀ x ∈ vs ++ [s], serOK sz x := fun s hs => serOK_snoc hvs hs
    cases o with
    | none =>
      rw [oside_none] at hos
      subst hos
      simp (maxSteps := 1000000) -dsimp -implicitDefEqProofs only [go_sem, ↓reduceIte, keep297, ib297, mk297, Tryz.f297, oval_none, oheap_none, hlt, ek]
      intro _
      refine HFnF.mkH (hv.at ek (upd h nb (rBox p sz t c')) nb t c' env funcs (upd_same _ _ _) ht (by omega) (hkok _ (List.getElem_mem _)) hf0 hf henv (by omega)) ?_
      rintro r h' ⟨s, t2, c2, rfl, rfl, hs, h1, h2, h3⟩
      simp (maxSteps := 1000000) -dsimp -implicitDefEqProofs only [go_sem, ↓reduceIte, keep297, ib297, mk297, Tryz.f297]
      refine ⟨Nat.zero_lt_one, Nat.zero_lt_one, Nat.zero_lt_one, ?_⟩
      intro b q_b
      have d_b_nb : ¬ b = nb := by first | exact q_b.1 | exact q_b | exact q_b.2.1 | exact q_b.2 | exact q_b.2.2.1 | exact q_b.2.2 | exact q_b.2.2.2.1 | exact q_b.2.2.2 | exact q_b.2.2.2.2.1 | exact q_b.2.2.2.2 | exact q_b.2.2.2.2.2.1 | exact q_b.2.2.2.2.2 | exact q_b.2.2.2.2.2.2.1 | exact q_b.2.2.2.2.2.2 | exact q_b.2.2.2.2.2.2.2.1 | exact q_b.2.2.2.2.2.2.2 | exact q_b.2.2.2.2.2.2.2.2.1 | exact q_b.2.2.2.2.2.2.2.2 | exact q_b.2.2.2.2.2.2.2.2.2.1 | exact q_b.2.2.2.2.2.2.2.2.2 | exact q_b.2.2.2.2.2.2.2.2.2.2.1 | exact q_b.2.2.2.2.2.2.2.2.2.2 | exact q_b.2.2.2.2.2.2.2.2.2.2.2.1 | exact q_b.2.2.2.2.2.2.2.2.2.2.2 | exact q_b.2.2.2.2.2.2.2.2.2.2.2.2.1 | exact q_b.2.2.2.2.2.2.2.2.2.2.2.2 | exact q_b.2.2.2.2.2.2.2.2.2.2.2.2.2.1 | exact q_b.2.2.2.2.2.2.2.2.2.2.2.2.2
      have e_b_nb : (b = nb) = False := eq_false d_b_nb
      have e_nb_b : (nb = b) = False := eq_false (Ne.symm d_b_nb)
      have d_nb_b : ¬ nb = b := Ne.symm d_b_nb
      have z_b : h b = none := by first | exact q_b.1 | exact q_b | exact q_b.2.1 | exact q_b.2 | exact q_b.2.2.1 | exact q_b.2.2 | exact q_b.2.2.2.1 | exact q_b.2.2.2 | exact q_b.2.2.2.2.1 | exact q_b.2.2.2.2 | exact q_b.2.2.2.2.2.1 | exact q_b.2.2.2.2.2 | exact q_b.2.2.2.2.2.2.1 | exact q_b.2.2.2.2.2.2 | exact q_b.2.2.2.2.2.2.2.1 | exact q_b.2.2.2.2.2.2.2 | exact q_b.2.2.2.2.2.2.2.2.1 | exact q_b.2.2.2.2.2.2.2.2 | exact q_b.2.2.2.2.2.2.2.2.2.1 | exact q_b.2.2.2.2.2.2.2.2.2 | exact q_b.2.2.2.2.2.2.2.2.2.2.1 | exact q_b.2.2.2.2.2.2.2.2.2.2 | exact q_b.2.2.2.2.2.2.2.2.2.2.2.1 | exact q_b.2.2.2.2.2.2.2.2.2.2.2 | exact q_b.2.2.2.2.2.2.2.2.2.2.2.2.1 | exact q_b.2.2.2.2.2.2.2.2.2.2.2.2 | exact q_b.2.2.2.2.2.2.2.2.2.2.2.2.2.1 | exact q_b.2.2.2.2.2.2.2.2.2.2.2.2.2
      refine ⟨(k + 1, [s], t2, c2, some b), ⟨rfl, by rw [IntWalk.i64_in _ (by omega)]; rfl⟩, (leX_nil (by repeat' (first | exact leX_refl _ _ | refine leX_put (by simp only [upd_apply, ↓reduceIte, eq_self, if_true, e_nb_b, e_b_nb, List.map_cons, List.map_nil]) ?_ | refine leX_strip (by first | exact .inr (by assumption) | exact .inl (by simp)) ?_))), ⟨by omega, by simp only [List.length_nil] at hvl; subst hvl; rfl, fun x hx => hall s hs x hx, Nat.le_trans ht0 h1, h2, hnext s t2 c2 h3, z_b⟩, by simp only; omega⟩
    | some m =>
      rw [oside_some] at hos
      have d_m_nb : ¬ m = nb := fun e => by rw [e, hb] at hos; cases hos
      have d_nb_m : ¬ nb = m := Ne.symm d_m_nb
      have e_m_nb : (m = nb) = False := eq_false d_m_nb
      have e_nb_m : (nb = m) = False := eq_false d_nb_m
      simp (maxSteps := 1000000) -dsimp -implicitDefEqProofs only [go_sem, ↓reduceIte, keep297, ib297, mk297, Tryz.f297, oval_some, oheap_some, hlt, ek]
      intro _
      refine HFnF.mkH (hv.at ek (upd (upd h nb (rBox p sz t c')) m (.row 1 ((vs.map fun s => [ints s]).map (List.map .v)))) nb t c' env funcs (by rw [upd_ne _ _ _ _ d_nb_m, upd_same]) ht (by omega) (hkok _ (List.getElem_mem _)) hf0 hf henv (by omega)) ?_
      rintro r h' ⟨s, t2, c2, rfl, rfl, hs, h1, h2, h3⟩
      simp (maxSteps := 1000000) -dsimp -implicitDefEqProofs only [go_sem, ↓reduceIte, keep297, ib297, mk297, Tryz.f297, upd_ne, e_m_nb, e_nb_m]
      refine ⟨Nat.zero_lt_one, Nat.zero_lt_one, Nat.zero_lt_one, Nat.le_refl _, by omega, by omega, ?_⟩
      intro b q_b
      have d_b_nb : ¬ b = nb := by first | exact q_b.1 | exact q_b | exact q_b.2.1 | exact q_b.2 | exact q_b.2.2.1 | exact q_b.2.2 | exact q_b.2.2.2.1 | exact q_b.2.2.2 | exact q_b.2.2.2.2.1 | exact q_b.2.2.2.2 | exact q_b.2.2.2.2.2.1 | exact q_b.2.2.2.2.2 | exact q_b.2.2.2.2.2.2.1 | exact q_b.2.2.2.2.2.2 | exact q_b.2.2.2.2.2.2.2.1 | exact q_b.2.2.2.2.2.2.2 | exact q_b.2.2.2.2.2.2.2.2.1 | exact q_b.2.2.2.2.2.2.2.2 | exact q_b.2.2.2.2.2.2.2.2.2.1 | exact q_b.2.2.2.2.2.2.2.2.2 | exact q_b.2.2.2.2.2.2.2.2.2.2.1 | exact q_b.2.2.2.2.2.2.2.2.2.2 | exact q_b.2.2.2.2.2.2.2.2.2.2.2.1 | exact q_b.2.2.2.2.2.2.2.2.2.2.2 | exact q_b.2.2.2.2.2.2.2.2.2.2.2.2.1 | exact q_b.2.2.2.2.2.2.2.2.2.2.2.2 | exact q_b.2.2.2.2.2.2.2.2.2.2.2.2.2.1 | exact q_b.2.2.2.2.2.2.2.2.2.2.2.2.2
      have e_b_nb : (b = nb) = False := eq_false d_b_nb
      have e_nb_b : (nb = b) = False := eq_false (Ne.symm d_b_nb)
      have d_nb_b : ¬ nb = b := Ne.symm d_b_nb
      have d_b_m : ¬ b = m := by first | exact q_b.1 | exact q_b | exact q_b.2.1 | exact q_b.2 | exact q_b.2.2.1 | exact q_b.2.2 | exact q_b.2.2.2.1 | exact q_b.2.2.2 | exact q_b.2.2.2.2.1 | exact q_b.2.2.2.2 | exact q_b.2.2.2.2.2.1 | exact q_b.2.2.2.2.2 | exact q_b.2.2.2.2.2.2.1 | exact q_b.2.2.2.2.2.2 | exact q_b.2.2.2.2.2.2.2.1 | exact q_b.2.2.2.2.2.2.2 | exact q_b.2.2.2.2.2.2.2.2.1 | exact q_b.2.2.2.2.2.2.2.2 | exact q_b.2.2.2.2.2.2.2.2.2.1 | exact q_b.2.2.2.2.2.2.2.2.2 | exact q_b.2.2.2.2.2.2.2.2.2.2.1 | exact q_b.2.2.2.2.2.2.2.2.2.2 | exact q_b.2.2.2.2.2.2.2.2.2.2.2.1 | exact q_b.2.2.2.2.2.2.2.2.2.2.2 | exact q_b.2.2.2.2.2.2.2.2.2.2.2.2.1 | exact q_b.2.2.2.2.2.2.2.2.2.2.2.2 | exact q_b.2.2.2.2.2.2.2.2.2.2.2.2.2.1 | exact q_b.2.2.2.2.2.2.2.2.2.2.2.2.2
      have e_b_m : (b = m) = False := eq_false d_b_m
      have e_m_b : (m = b) = False := eq_false (Ne.symm d_b_m)
      have d_m_b : ¬ m = b := Ne.symm d_b_m
      have z_b : h b = none := by first | exact q_b.1 | exact q_b | exact q_b.2.1 | exact q_b.2 | exact q_b.2.2.1 | exact q_b.2.2 | exact q_b.2.2.2.1 | exact q_b.2.2.2 | exact q_b.2.2.2.2.1 | exact q_b.2.2.2.2 | exact q_b.2.2.2.2.2.1 | exact q_b.2.2.2.2.2 | exact q_b.2.2.2.2.2.2.1 | exact q_b.2.2.2.2.2.2 | exact q_b.2.2.2.2.2.2.2.1 | exact q_b.2.2.2.2.2.2.2 | exact q_b.2.2.2.2.2.2.2.2.1 | exact q_b.2.2.2.2.2.2.2.2 | exact q_b.2.2.2.2.2.2.2.2.2.1 | exact q_b.2.2.2.2.2.2.2.2.2 | exact q_b.2.2.2.2.2.2.2.2.2.2.1 | exact q_b.2.2.2.2.2.2.2.2.2.2 | exact q_b.2.2.2.2.2.2.2.2.2.2.2.1 | exact q_b.2.2.2.2.2.2.2.2.2.2.2 | exact q_b.2.2.2.2.2.2.2.2.2.2.2.2.1 | exact q_b.2.2.2.2.2.2.2.2.2.2.2.2 | exact q_b.2.2.2.2.2.2.2.2.2.2.2.2.2.1 | exact q_b.2.2.2.2.2.2.2.2.2.2.2.2.2
      refine ⟨(k + 1, vs ++ [s], t2, c2, some b), ⟨by rw [oval_some, List.length_append]; rfl, by rw [IntWalk.i64_in _ (by omega)]; rfl⟩, ?_, ⟨by omega, by rw [List.length_append, hvl]; rfl, hall s hs, Nat.le_trans ht0 h1, h2, hnext s t2 c2 h3, z_b⟩, by simp only; omega⟩
      simp only [oheap_some]
      rw [← grow_row ints]
      exact (leX_nil (by repeat' (first | exact leX_refl _ _ | refine leX_put (by simp only [upd_apply, ↓reduceIte, eq_self, if_true, e_nb_b, e_nb_m, e_b_nb, e_b_m, e_m_nb, e_m_b]) ?_ | refine leX_strip (by first | exact .inr (by assumption) | exact .inl (by simp)) ?_)))
  have hk' : k = e.fKids.length := by omega
  subst hk'
  rw [List.take_length] at ho
  have gp : vs[e.fPick.toNat]? = some (vs.getD e.fPick.toNat []) ∨ e.fKind = 10 := by
    by_cases h10 : e.fKind = 10
    · exact .inr h10
    · exact .inl (env_get (by have := f9 (by omega); omega))
  cases o with
  | none =>
    rw [oside_none] at hos
    subst hos
    simp (maxSteps := 1000000) -dsimp -implicitDefEqProofs only [go_sem, ↓reduceIte, keep297, ib297, mk297, Tryz.f297, oval_none, oheap_none, Nat.lt_irrefl, Int.lt_irrefl, rBox, hk, F.get, F.out, DFunc.c_eq, DProgram.c_eq]
    intro _
    refine ⟨f1, f2, f3, by omega, ?_⟩
    refine HFnF.mkH (HFn.sub (.cons (.refl _) (.cons (.refl _) (.cons (Sub.loose _ _ _) .nil))) (hv.at F.out (upd h nb (rBox p sz t c')) nb t c' [] e.fNum (upd_same _ _ _) ht (by omega) (by rw [hvl, f5]; exact F.oks _ (List.mem_of_getElem? F.out)) f1 (by omega) (by simp) (by simp))) ?_
    rintro r h' ⟨s, t2, c2, rfl, rfl, hs, b1, b2, b3⟩
    simp (maxSteps := 1000000) -dsimp -implicitDefEqProofs only [go_sem, ↓reduceIte, keep297, ib297, mk297, Tryz.f297]
    refine ⟨_, upd h nb (rBox p sz t2 c2), shift_le (by rw [upd_upd]; exact Heap.le_refl _), s, t2, c2, rfl, rfl, hs, by omega, b2, ?_⟩
    exact ho.thenC b3
  | some m =>
    rw [oside_some] at hos
    have d_m_nb : ¬ m = nb := fun e => by rw [e, hb] at hos; cases hos
    have d_nb_m : ¬ nb = m := Ne.symm d_m_nb
    have e_m_nb : (m = nb) = False := eq_false d_m_nb
    have e_nb_m : (nb = m) = False := eq_false d_nb_m
    simp (maxSteps := 1000000) -dsimp -implicitDefEqProofs only [go_sem, ↓reduceIte, keep297, ib297, mk297, Tryz.f297, oval_some, oheap_some, Nat.lt_irrefl, Int.lt_irrefl, rBox, upd_ne, e_m_nb, e_nb_m, hk, F.get, F.out, DFunc.c_eq, DProgram.c_eq]
    intro _
    refine ⟨f1, f2, f3, by omega, ?_⟩
    refine HFnF.giveX rfl rfl d_nb_m (by rw [List.length_map]) (by rw [upd_ne _ _ _ _ d_m_nb]; exact hos) ?_
    refine HFn.mono (hv.at F.out (upd (upd h nb (rBox p sz t c')) m .gone) nb t c' vs e.fNum (by rw [upd_ne _ _ _ _ d_nb_m, upd_same]) ht (by omega) (by rw [hvl, f5]; exact F.oks _ (List.mem_of_getElem? F.out)) f1 (by omega) hvs (by omega)) ?_
    rintro r h' ⟨s, t2, c2, rfl, rfl, hs, b1, b2, b3⟩
    simp (maxSteps := 1000000) -dsimp -implicitDefEqProofs only [go_sem, ↓reduceIte, keep297, ib297, mk297, Tryz.f297]
    refine ⟨_, upd h nb (rBox p sz t2 c2), shift_le (leX_nil (by repeat' (first | exact leX_refl _ _ | refine leX_put (by simp only [upd_apply, ↓reduceIte, eq_self, if_true, e_nb_m, e_m_nb]) ?_ | refine leX_strip (by first | exact .inr (by assumption) | exact .inl (by simp)) ?_))), s, t2, c2, rfl, rfl, hs, by omega, b2, ?_⟩
    exact ho.thenC b3
set_option maxRecDepth 100000 in
theorem call_11 {p : DProgram} (hp : p.ok) {sz n : Nat} (hv : RunAt p sz n) (h : Heap) (nb st : Nat) (e : DExpr) (env : List (List Int)) (funcs : Int) (hb : h nb = some (rBox p sz st 0)) (hst : st ≤ 3000) (hn : 3001 ≤ n + st) (hok : e.ok p funcs env.length) (hf0 : 0 ≤ funcs) (hf : funcs ≤ p.fFuncs.length) (henv : ∀ s ∈ env, serOK sz s) (hel : env.length ≤ 412 + st) (hk : e.fKind = 11) :
    HFn Tryz.prog 297 [.op nb 4 0 0, .ip 5 [e.c] 0 0, intss env] h (RnQ h nb p sz st 0 ((seqE (fun t e => evE p sz n t e env) e.fKids st).andThen fun vs t => (iterE (fun vs t => seqE (fun t e => evE p sz n t e vs) (p.outs e.fNum) t) e.fCount.toNat vs t).andThen fun vs t => .ok (vs.getD e.fPick.toNat [], t))) := by
  obtain ⟨f, F⟩ := callsOf hp hok hf (.inr hk)
  have f1 := F.lo
  have f2 := F.hi
  have f3 := F.pk
  have f4 := F.pk2
  have f5 := F.kids
  have f6 := F.params
  have f8 := F.outs
  have f9 := F.loop
  have hkok := kids_ok hok (by omega)
  rw [DExpr.c_eq]
  refine fnKF 81 keep297 ib297 mk297 mix Tryz.func297 rfl (by kernel_rfl) (by simp) ?_
  simp (maxSteps := 1000000) -dsimp -implicitDefEqProofs only [go_sem, ↓reduceIte, keep297, ib297, mk297, Tryz.f297]
  refine ⟨Nat.zero_lt_one, ?_⟩
  refine loopF (keep := keep297) (ib := ib297) (mk := mk297) mix (by kernel_rfl) (fun x : Nat × List (List Int) × Nat × Int × Option Nat => [(0, .op nb 4 0 0), (1, .ip 5 [[I e.fKind, I e.fNum, I e.fPick, I e.fCount, sls 5 DExpr.c e.fKids]] 0 0), (2, intss env), (7, oval 1 x.2.1.length x.2.2.2.2), (8, I x.1)]) (fun x => oheap (upd h nb (rBox p sz x.2.2.1 x.2.2.2.1)) (.row 1 ((x.2.1.map fun s => [ints s]).map (List.map .v))) x.2.2.2.2) (fun x => x.1 ≤ e.fKids.length ∧ x.2.1.length = x.1 ∧ (∀ s ∈ x.2.1, serOK sz s) ∧ st ≤ x.2.2.1 ∧ x.2.2.1 ≤ 3000 ∧ outR (runE 0 (seqE (fun t e => evE p sz n t e env) (e.fKids.take x.1) st)) x.2.1 x.2.2.1 x.2.2.2.1 ∧ oside h x.2.1 x.2.2.2.2) (fun x => e.fKids.length - x.1) (0, [], st, 0, none) ⟨by simp [SatL, tget, oval], by simp only [oheap_none]; rw [upd_self hb]; exact Heap.le_refl _, Nat.zero_le _, rfl, by simp, Nat.le_refl _, hst, outR_init _ _ _, rfl⟩ ?_
  rintro ⟨k, vs, t, c', o⟩ ⟨hk2, hvl, hvs, ht0, ht, ho, hos⟩
  simp only at hk2 hvl hvs ht0 ht ho hos ⊢
  rcases Nat.lt_or_ge k e.fKids.length with hlt | hge
  · have ek : e.fKids[k]? = some e.fKids[k] := List.getElem?_eq_getElem hlt
    have hnext : ∀ (s : List Int) (t2 : Nat) (c2 : Int), outR (runE c' (evE p sz n t e.fKids[k] env)) s t2 c2 → outR (runE 0 (seqE (fun t e => evE p sz n t e env) (e.fKids.take (k + 1)) st)) (vs ++ [s]) t2 c2 := fun s t2 c2 h3 => by
      rw [List.take_succ_eq_append_getElem hlt, seqE_snoc]
      exact ho.thenC (h3.thenC (outR_init _ _ _))
    have hall : ∀ s, serOK sz s → ∀ x ∈ vs ++ [s], serOK sz x := fun s hs => serOK_snoc hvs hs
    cases o with
    | none =>
      rw [oside_none] at hos
      subst hos
      simp (maxSteps := 1000000) -dsimp -implicitDefEqProofs only [go_sem, ↓reduceIte, keep297, ib297, mk297, Tryz.f297, oval_none, oheap_none, hlt, ek]
      intro _
      refine HFnF.mkH (hv.at ek (upd h nb (rBox p sz t c')) nb t c' env funcs (upd_same _ _ _) ht (by omega) (hkok _ (List.getElem_mem _)) hf0 hf henv (by omega)) ?_
      rintro r h' ⟨s, t2, c2, rfl, rfl, hs, h1, h2, h3⟩
      simp (maxSteps := 1000000) -dsimp -implicitDefEqProofs only [go_sem, ↓reduceIte, keep297, ib297, mk297, Tryz.f297]
      refine ⟨Nat.zero_lt_one, Nat.zero_lt_one, Nat.zero_lt_one, ?_⟩
      intro b q_b
      have d_b_nb : ¬ b = nb := by first | exact q_b.1 | exact q_b | exact q_b.2.1 | exact q_b.2 | exact q_b.2.2.1 | exact q_b.2.2 | exact q_b.2.2.2.1 | exact q_b.2.2.2 | exact q_b.2.2.2.2.1 | exact q_b.2.2.2.2 | exact q_b.2.2.2.2.2.1 | exact q_b.2.2.2.2.2 | exact q_b.2.2.2.2.2.2.1 | exact q_b.2.2.2.2.2.2 | exact q_b.2.2.2.2.2.2.2.1 | exact q_b.2.2.2.2.2.2.2 | exact q_b.2.2.2.2.2.2.2.2.1 | exact q_b.2.2.2.2.2.2.2.2 | exact q_b.2.2.2.2.2.2.2.2.2.1 | exact q_b.2.2.2.2.2.2.2.2.2 | exact q_b.2.2.2.2.2.2.2.2.2.2.1 | exact q_b.2.2.2.2.2.2.2.2.2.2 | exact q_b.2.2.2.2.2.2.2.2.2.2.2.1 | exact q_b.2.2.2.2.2.2.2.2.2.2.2 | exact q_b.2.2.2.2.2.2.2.2.2.2.2.2.1 | exact q_b.2.2.2.2.2.2.2.2.2.2.2.2 | exact q_b.2.2.2.2.2.2.2.2.2.2.2.2.2.1 | exact q_b.2.2.2.2.2.2.2.2.2.2.2.2.2
      have e_b_nb : (b = nb) = False := eq_false d_b_nb
      have e_nb_b : (nb = b) = False := eq_false (Ne.symm d_b_nb)
      have d_nb_b : ¬ nb = b := Ne.symm d_b_nb
      have z_b : h b = none := by first | exact q_b.1 | exact q_b | exact q_b.2.1 | exact q_b.2 | exact q_b.2.2.1 | exact q_b.2.2 | exact q_b.2.2.2.1 | exact q_b.2.2.2 | exact q_b.2.2.2.2.1 | exact q_b.2.2.2.2 | exact q_b.2.2.2.2.2.1 | exact q_b.2.2.2.2.2 | exact q_b.2.2.2.2.2.2.1 | exact q_b.2.2.2.2.2.2 | exact q_b.2.2.2.2.2.2.2.1 | exact q_b.2.2.2.2.2.2.2 | exact q_b.2.2.2.2.2.2.2.2.1 | exact q_b.2.2.2.2.2.2.2.2 | exact q_b.2.2.2.2.2.2.2.2.2.1 | exact q_b.2.2.2.2.2.2.2.2.2 | exact q_b.2.2.2.2.2.2.2.2.2.2.1 | exact q_b.2.2.2.2.2.2.2.2.2.2 | exact q_b.2.2.2.2.2.2.2.2.2.2.2.1 | exact q_b.2.2.2.2.2.2.2.2.2.2.2 | exact q_b.2.2.2.2.2.2.2.2.2.2.2.2.1 | exact q_b.2.2.2.2.2.2.2.2.2.2.2.2 | exact q_b.2.2.2.2.2.2.2.2.2.2.2.2.2.1 | exact q_b.2.2.2.2.2.2.2.2.2.2.2.2.2
      refine ⟨(k + 1, [s], t2, c2, some b), ⟨rfl, by rw [IntWalk.i64_in _ (by omega)]; rfl⟩, (leX_nil (by repeat' (first | exact leX_refl _ _ | refine leX_put (by simp only [upd_apply, ↓reduceIte, eq_self, if_true, e_nb_b, e_b_nb, List.map_cons, List.map_nil]) ?_ | refine leX_strip (by first | exact .inr (by assumption) | exact .inl (by simp)) ?_))), ⟨by omega, by simp only [List.length_nil] at hvl; subst hvl; rfl, fun x hx => hall s hs x hx, Nat.le_trans ht0 h1, h2, hnext s t2 c2 h3, z_b⟩, by simp only; omega⟩
    | some m =>
      rw [oside_some] at hos
      have d_m_nb : ¬ m = nb := fun e => by rw [e, hb] at hos; cases hos
      have d_nb_m : ¬ nb = m := Ne.symm d_m_nb
      have e_m_nb : (m = nb) = False := eq_false d_m_nb
      have e_nb_m : (nb = m) = False := eq_false d_nb_m
      simp (maxSteps := 1000000) -dsimp -implicitDefEqProofs only [go_sem, ↓reduceIte, keep297, ib297, mk297, Tryz.f297, oval_some, oheap_some, hlt, ek]
      intro _
      refine HFnF.mkH (hv.at ek (upd (upd h nb (rBox p sz t c')) m (.row 1 ((vs.map fun s => [ints s]).map (List.map .v)))) nb t c' env funcs (by rw [upd_ne _ _ _ _ d_nb_m, upd_same]) ht (by omega) (hkok _ (List.getElem_mem _)) hf0 hf henv (by omega)) ?_
      rintro r h' ⟨s, t2, c2, rfl, rfl, hs, h1, h2, h3⟩
      simp (maxSteps := 1000000) -dsimp -implicitDefEqProofs only [go_sem, ↓reduceIte, keep297, ib297, mk297, Tryz.f297, upd_ne, e_m_nb, e_nb_m]
      refine ⟨Nat.zero_lt_one, Nat.zero_lt_one, Nat.zero_lt_one, Nat.le_refl _, by omega, by omega, ?_⟩
      intro b q_b
      have d_b_nb : ¬ b = nb := by first | exact q_b.1 | exact q_b | exact q_b.2.1 | exact q_b.2 | exact q_b.2.2.1 | exact q_b.2.2 | exact q_b.2.2.2.1 | exact q_b.2.2.2 | exact q_b.2.2.2.2.1 | exact q_b.2.2.2.2 | exact q_b.2.2.2.2.2.1 | exact q_b.2.2.2.2.2 | exact q_b.2.2.2.2.2.2.1 | exact q_b.2.2.2.2.2.2 | exact q_b.2.2.2.2.2.2.2.1 | exact q_b.2.2.2.2.2.2.2 | exact q_b.2.2.2.2.2.2.2.2.1 | exact q_b.2.2.2.2.2.2.2.2 | exact q_b.2.2.2.2.2.2.2.2.2.1 | exact q_b.2.2.2.2.2.2.2.2.2 | exact q_b.2.2.2.2.2.2.2.2.2.2.1 | exact q_b.2.2.2.2.2.2.2.2.2.2 | exact q_b.2.2.2.2.2.2.2.2.2.2.2.1 | exact q_b.2.2.2.2.2.2.2.2.2.2.2 | exact q_b.2.2.2.2.2.2.2.2.2.2.2.2.1 | exact q_b.2.2.2.2.2.2.2.2.2.2.2.2 | exact q_b.2.2.2.2.2.2.2.2.2.2.2.2.2.1 | exact q_b.2.2.2.2.2.2.2.2.2.2.2.2.2
      have e_b_nb : (b = nb) = False := eq_false d_b_nb
      have e_nb_b : (nb = b) = False := eq_false (Ne.symm d_b_nb)
      have d_nb_b : ¬ nb = b := Ne.symm d_b_nb
      have d_b_m : ¬ b = m := by first | exact q_b.1 | exact q_b | exact q_b.2.1 | exact q_b.2 | exact q_b.2.2.1 | exact q_b.2.2 | exact q_b.2.2.2.1 | exact q_b.2.2.2 | exact q_b.2.2.2.2.1 | exact q_b.2.2.2.2 | exact q_b.2.2.2.2.2.1 | exact q_b.2.2.2.2.2 | exact q_b.2.2.2.2.2.2.1 | exact q_b.2.2.2.2.2.2 | exact q_b.2.2.2.2.2.2.2.1 | exact q_b.2.2.2.2.2.2.2 | exact q_b.2.2.2.2.2.2.2.2.1 | exact q_b.2.2.2.2.2.2.2.2 | exact q_b.2.2.2.2.2.2.2.2.2.1 | exact q_b.2.2.2.2.2.2.2.2.2 | exact q_b.2.2.2.2.2.2.2.2.2.2.1 | exact q_b.2.2.2.2.2.2.2.2.2.2 | exact q_b.2.2.2.2.2.2.2.2.2.2.2.1 | exact q_b.2.2.2.2.2.2.2.2.2.2.2 | exact q_b.2.2.2.2.2.2.2.2.2.2.2.2.1 | exact q_b.2.2.2.2.2.2.2.2.2.2.2.2 | exact q_b.2.2.2.2.2.2.2.2.2.2.2.2.2.1 | exact q_b.2.2.2.2.2.2.2.2.2.2.2.2.2
      have e_b_m : (b = m) = False := eq_false d_b_m
      have e_m_b : (m = b) = False := eq_false (Ne.symm d_b_m)
      have d_m_b : ¬ m = b := Ne.symm d_b_m
      have z_b : h b = none := by first | exact q_b.1 | exact q_b | exact q_b.2.1 | exact q_b.2 | exact q_b.2.2.1 | exact q_b.2.2 | exact q_b.2.2.2.1 | exact q_b.2.2.2 | exact q_b.2.2.2.2.1 | exact q_b.2.2.2.2 | exact q_b.2.2.2.2.2.1 | exact q_b.2.2.2.2.2 | exact q_b.2.2.2.2.2.2.1 | exact q_b.2.2.2.2.2.2 | exact q_b.2.2.2.2.2.2.2.1 | exact q_b.2.2.2.2.2.2.2 | exact q_b.2.2.2.2.2.2.2.2.1 | exact q_b.2.2.2.2.2.2.2.2 | exact q_b.2.2.2.2.2.2.2.2.2.1 | exact q_b.2.2.2.2.2.2.2.2.2 | exact q_b.2.2.2.2.2.2.2.2.2.2.1 | exact q_b.2.2.2.2.2.2.2.2.2.2 | exact q_b.2.2.2.2.2.2.2.2.2.2.2.1 | exact q_b.2.2.2.2.2.2.2.2.2.2.2 | exact q_b.2.2.2.2.2.2.2.2.2.2.2.2.1 | exact q_b.2.2.2.2.2.2.2.2.2.2.2.2 | exact q_b.2.2.2.2.2.2.2.2.2.2.2.2.2.1 | exact q_b.2.2.2.2.2.2.2.2.2.2.2.2.2
      refine ⟨(k + 1, vs ++ [s], t2, c2, some b), ⟨by rw [oval_some, List.length_append]; rfl, by rw [IntWalk.i64_in _ (by omega)]; rfl⟩, ?_, ⟨by omega, by rw [List.length_append, hvl]; rfl, hall s hs, Nat.le_trans ht0 h1, h2, hnext s t2 c2 h3, z_b⟩, by simp only; omega⟩
      simp only [oheap_some]
      rw [← grow_row ints]
      exact (leX_nil (by repeat' (first | exact leX_refl _ _ | refine leX_put (by simp only [upd_apply, ↓reduceIte, eq_self, if_true, e_nb_b, e_nb_m, e_b_nb, e_b_m, e_m_nb, e_m_b]) ?_ | refine leX_strip (by first | exact .inr (by assumption) | exact .inl (by simp)) ?_)))
  have hk' : k = e.fKids.length := by omega
  subst hk'
  rw [List.take_length] at ho
  have gp : vs[e.fPick.toNat]? = some (vs.getD e.fPick.toNat []) ∨ e.fKind = 10 := by
    by_cases h10 : e.fKind = 10
    · exact .inr h10
    · exact .inl (env_get (by have := f9 (by omega); omega))
  have gp' : vs[e.fPick.toNat]? = some (vs.getD e.fPick.toNat []) := gp.resolve_right (by omega)
  have g9 := f9 hk
  cases o with
  | none =>
    exfalso
    rw [oside_none] at hos
    rw [hos] at hvl
    simp at hvl
    omega
  | some m =>
    rw [oside_some] at hos
    have d_m_nb : ¬ m = nb := fun e => by rw [e, hb] at hos; cases hos
    have d_nb_m : ¬ nb = m := Ne.symm d_m_nb
    have e_m_nb : (m = nb) = False := eq_false d_m_nb
    have e_nb_m : (nb = m) = False := eq_false d_nb_m
    simp (maxSteps := 1000000) -dsimp -implicitDefEqProofs only [go_sem, ↓reduceIte, keep297, ib297, mk297, Tryz.f297, oval_some, oheap_some, Nat.lt_irrefl, Int.lt_irrefl, rBox, upd_ne, e_m_nb, e_nb_m, hk, F.get, F.out, DFunc.c_eq, DProgram.c_eq]
    intro _
    refine ⟨f1, f2, ?_⟩
    refine HWpF.give m (by rw [upd_ne _ _ _ _ d_m_nb]; exact hos) (by simp [sealOK, e_m_nb, e_nb_m]) ?_
    refine loopF (keep := keep297) (ib := ib297) (mk := mk297) mix (by kernel_rfl) (fun x : Nat × List (List Int) × Nat × Int => [(0, .op nb 4 0 0), (1, .ip 5 [[I 11, I e.fNum, I e.fPick, I e.fCount, sls 5 DExpr.c e.fKids]] 0 0), (7, intss x.2.1), (9, .ip 3 (p.fFuncs.map DFunc.c) e.fNum.toNat 0), (10, I x.1)]) (fun x => upd h nb (rBox p sz x.2.2.1 x.2.2.2)) (fun x => x.1 ≤ e.fCount.toNat ∧ x.2.1.length = f.fOuts.length ∧ (∀ s ∈ x.2.1, serOK sz s) ∧ t ≤ x.2.2.1 ∧ x.2.2.1 ≤ 3000 ∧ outR (runE c' (iterE (fun vs t => seqE (fun t e => evE p sz n t e vs) (p.outs e.fNum) t) x.1 vs t)) x.2.1 x.2.2.1 x.2.2.2) (fun x => e.fCount.toNat - x.1) (0, vs, t, c') ⟨by simp [SatL, tget, HVal.sealUp, e_m_nb, e_nb_m, List.take_of_length_le], (leX_nil (by repeat' (first | exact leX_refl _ _ | refine leX_put (by simp only [upd_apply, ↓reduceIte, eq_self, if_true, e_m_nb, e_nb_m, rBox, DProgram.c_eq]) ?_ | refine leX_strip (by first | exact .inr (by assumption) | exact .inl (by simp)) ?_))), Nat.zero_le _, by simp only; omega, hvs, Nat.le_refl _, ht, outR_init _ _ _⟩ ?_
    rintro ⟨k, us, u, d⟩ ⟨hk1, hul, hus, ht1, ht2, hd⟩
    simp only at hk1 hul hus ht1 ht2 hd ⊢
    have gu : us[e.fPick.toNat]? = some (us.getD e.fPick.toNat []) := env_get (by omega)
    simp (maxSteps := 1000000) -dsimp -implicitDefEqProofs only [go_sem, ↓reduceIte, keep297, ib297, mk297, Tryz.f297, rBox, gu]
    refine ⟨fun hlt => ?_, fun hge => ?_⟩
    · refine HFnF.mkH (HFn.sub (.cons (.refl _) (.cons (Sub.ip (by rw [List.getElem?_map, F.get]; rfl) (by simp [DFunc.c_eq])) (.cons (.refl _) .nil))) (outs_of hv (upd h nb (rBox p sz u d)) nb u d f us e.fNum (upd_same _ _ _) ht2 (by omega) (by omega) (by rw [hul, g9.2.2]; exact F.oks) f1 (by omega) hus (by omega))) ?_
      rintro r h' ⟨l2, t2, c2, rfl, rfl, hl2, hs2, b1, b2, b3⟩
      simp (maxSteps := 1000000) -dsimp -implicitDefEqProofs only [go_sem, ↓reduceIte, keep297, ib297, mk297, Tryz.f297]
      refine ⟨(k + 1, l2, t2, c2), ⟨rfl, by rw [IntWalk.i64_in _ (by omega)]; rfl⟩, by simp only [upd_upd]; exact Heap.le_refl _, ⟨by omega, hl2, hs2, by simp only; omega, b2, ?_⟩, by simp only; omega⟩
      simp only
      rw [iterE_snoc]
      refine hd.thenC ?_
      rw [F.eq]
      exact b3
    · have hke : k = e.fCount.toNat := by omega
      refine ⟨f3, by omega, _, _, shift_self _ _, us.getD e.fPick.toNat [], u, d, rfl, rfl, serOK_get hus (by omega), by omega, ht2, ?_⟩
      refine ho.thenC ?_
      rw [← hke]
      exact hd.thenC (outR_init _ _ _)
open Go.Proofs
set_option linter.unusedVariables false
set_option linter.unusedSimpArgs false
set_option maxRecDepth 100000 in
theorem expr_stop {p : DProgram} {sz n : Nat} (hsz : 1 ≤ sz ∧ sz ≤ 1048576) (h : Heap) (nb st : Nat) (c : Int) (e : DExpr) (env : List (List Int)) (hb : h nb = some (rBox p sz st c)) (hst : st ≤ 3000) (hs : ¬ c = 0 ∨ st = 3000) :
    HFn Tryz.prog 265 [.op nb 4 0 0, .ip 5 [e.c] 0 0, intss env] h (RnQ h nb p sz st c (evE p sz (n + 1) st e env)) := by
  rw [DExpr.c_eq]
  have hb' := hb
  unfold rBox at hb'
  refine fnKF 186 keep265 ib265 mk265 mix Tryz.func265 rfl (by kernel_rfl) (by simp) ?_
  simp (maxSteps := 1000000) -dsimp -implicitDefEqProofs only [go_sem, ↓reduceIte, keep265, ib265, mk265, Tryz.f265, hb']
  refine ⟨fun hc => ?_, fun hc => ?_⟩
  · have hc' : ¬ c = 0 := by simpa using hc
    refine HFnF.mkH (failS h nb p sz st c c hb hsz.2) ?_
    rintro r h' ⟨rfl, rfl⟩
    simp (maxSteps := 1000000) -dsimp -implicitDefEqProofs only [go_sem, ↓reduceIte, keep265, ib265, mk265, Tryz.f265]
    refine ⟨_, _, shift_self _ _, _, st, c, rfl, by rw [if_neg hc'], serOK_const num_zero, Nat.le_refl _, hst, by rw [runE_ne _ hc']; exact outR_err _ _ hc'⟩
  · have hc0 : c = 0 := by simpa using hc
    subst hc0
    have h3 : st = 3000 := by rcases hs with hs | hs; exact absurd rfl hs; exact hs
    subst h3
    try simp (maxSteps := 1000000) -dsimp -implicitDefEqProofs only [go_sem, ↓reduceIte, keep265, ib265, mk265, Tryz.f265, hb']
    refine ⟨fun _ => ?_, fun q => absurd q (by simp)⟩
    refine HFnF.mkH (failS h nb p sz 3000 0 7 hb hsz.2) ?_
    rintro r h' ⟨rfl, rfl⟩
    simp (maxSteps := 1000000) -dsimp -implicitDefEqProofs only [go_sem, ↓reduceIte, keep265, ib265, mk265, Tryz.f265]
    refine ⟨_, _, shift_self _ _, _, 3000, 7, rfl, rfl, serOK_const num_zero, Nat.le_refl _, hst, ?_⟩
    rw [runE_zero, evE, if_pos rfl]
    exact outR_err _ _ (by decide)
set_option maxRecDepth 100000 in
theorem expr_1 {p : DProgram} (hp : p.ok) {sz n : Nat} (hsz : 1 ≤ sz ∧ sz ≤ 1048576) (hv : RunAt p sz n) (h : Heap) (nb st : Nat) (e : DExpr) (env : List (List Int)) (funcs : Int) (hb : h nb = some (rBox p sz st 0)) (hst : st < 3000) (hn : 3001 ≤ n + 1 + st)
    (hok : e.ok p funcs env.length) (hf0 : 0 ≤ funcs) (hf : funcs ≤ p.fFuncs.length) (henv : ∀ s ∈ env, serOK sz s) (hel : env.length ≤ 412 + st) (hk : e.fKind = 1) :
    HFn Tryz.prog 265 [.op nb 4 0 0, .ip 5 [e.c] 0 0, intss env] h (RnQ h nb p sz st 0 (evE p sz (n + 1) st e env)) := by
  have hb' := hb
  unfold rBox at hb'
  have e3 : ((st : Int) = 3000) = False := eq_false (by omega)
  have ew : IntKind.i64.wrap ((st : Int) + 1) = ((st + 1 : Nat) : Int) := by rw [IntWalk.i64_in _ (by omega)]; rfl
  have hnode := (DExpr.ok_iff _ _ _ _).1 hok
  have h3 : ¬ st = 3000 := by omega
  have hnum : Num e.fNum := ((nodeOK_plain (by omega)).1 hnode.1).2.2.2.1 hk
  rw [DExpr.c_eq]
  refine fnKF 186 keep265 ib265 mk265 mix Tryz.func265 rfl (by kernel_rfl) (by simp) ?_
  simp (maxSteps := 1000000) -dsimp -implicitDefEqProofs only [go_sem, ↓reduceIte, keep265, ib265, mk265, Tryz.f265, hb', e3, ew, hk]
  first | refine HFnF.mk (l01Const e.fNum sz hsz.2) ?_ | refine CallSF.mk (l01Const e.fNum sz hsz.2) ?_ | refine HFnF.mkAt (l01Const e.fNum sz hsz.2) ?_ | refine CallSF.mk (FnAt.fn0 (l01Const e.fNum sz hsz.2)) ?_
  simp (maxSteps := 1000000) -dsimp -implicitDefEqProofs only [go_sem, ↓reduceIte, keep265, ib265, mk265, Tryz.f265]
  refine ⟨_, _, shift_self _ _, _, st + 1, 0, rfl, rfl, serOK_const hnum, Nat.le_succ _, hst, ?_⟩
  rw [runE_zero, evE_1 h3 hk]
  exact outR_ok _ _
set_option maxRecDepth 100000 in
theorem expr_2 {p : DProgram} (hp : p.ok) {sz n : Nat} (hsz : 1 ≤ sz ∧ sz ≤ 1048576) (hv : RunAt p sz n) (h : Heap) (nb st : Nat) (e : DExpr) (env : List (List Int)) (funcs : Int) (hb : h nb = some (rBox p sz st 0)) (hst : st < 3000) (hn : 3001 ≤ n + 1 + st)
    (hok : e.ok p funcs env.length) (hf0 : 0 ≤ funcs) (hf : funcs ≤ p.fFuncs.length) (henv : ∀ s ∈ env, serOK sz s) (hel : env.length ≤ 412 + st) (hk : e.fKind = 2) :
    HFn Tryz.prog 265 [.op nb 4 0 0, .ip 5 [e.c] 0 0, intss env] h (RnQ h nb p sz st 0 (evE p sz (n + 1) st e env)) := by
  have hb' := hb
  unfold rBox at hb'
  have e3 : ((st : Int) = 3000) = False := eq_false (by omega)
  have ew : IntKind.i64.wrap ((st : Int) + 1) = ((st + 1 : Nat) : Int) := by rw [IntWalk.i64_in _ (by omega)]; rfl
  have hnode := (DExpr.ok_iff _ _ _ _).1 hok
  have h3 : ¬ st = 3000 := by omega
  have hnum := ((nodeOK_plain (by omega)).1 hnode.1).2.2.2.2.1 hk
  have hlt : e.fNum.toNat < env.length := by omega
  rw [DExpr.c_eq]
  refine fnKF 186 keep265 ib265 mk265 mix Tryz.func265 rfl (by kernel_rfl) (by simp) ?_
  simp (maxSteps := 1000000) -dsimp -implicitDefEqProofs only [go_sem, ↓reduceIte, keep265, ib265, mk265, Tryz.f265, hb', e3, ew, hk, env_get hlt]
  refine ⟨hnum.1, by omega, _, _, shift_self _ _, _, st + 1, 0, rfl, rfl, serOK_get henv hlt, Nat.le_succ _, hst, ?_⟩
  rw [runE_zero, evE_2 h3 hk]
  exact outR_ok _ _
set_option maxRecDepth 100000 in
theorem expr_8 {p : DProgram} (hp : p.ok) {sz n : Nat} (hsz : 1 ≤ sz ∧ sz ≤ 1048576) (hv : RunAt p sz n) (h : Heap) (nb st : Nat) (e : DExpr) (env : List (List Int)) (funcs : Int) (hb : h nb = some (rBox p sz st 0)) (hst : st < 3000) (hn : 3001 ≤ n + 1 + st)
    (hok : e.ok p funcs env.length) (hf0 : 0 ≤ funcs) (hf : funcs ≤ p.fFuncs.length) (henv : ∀ s ∈ env, serOK sz s) (hel : env.length ≤ 412 + st) (hk : e.fKind = 8) :
    HFn Tryz.prog 265 [.op nb 4 0 0, .ip 5 [e.c] 0 0, intss env] h (RnQ h nb p sz st 0 (evE p sz (n + 1) st e env)) := by
  have hb' := hb
  unfold rBox at hb'
  have e3 : ((st : Int) = 3000) = False := eq_false (by omega)
  have ew : IntKind.i64.wrap ((st : Int) + 1) = ((st + 1 : Nat) : Int) := by rw [IntWalk.i64_in _ (by omega)]; rfl
  have hnode := (DExpr.ok_iff _ _ _ _).1 hok
  have h3 : ¬ st = 3000 := by omega
  have hlen := kids_len hok (by omega)
  rw [hk, show kidsN 8 = 3 from rfl] at hlen
  have g0 : e.fKids[Int.toNat 0]? = some (e.kid 0) := DExpr.kid_get (by omega)
  have g1 : e.fKids[Int.toNat 1]? = some (e.kid 1) := DExpr.kid_get (by omega)
  have g2 : e.fKids[Int.toNat 2]? = some (e.kid 2) := DExpr.kid_get (by omega)
  have o0 := DExpr.kid_ok hok (i := 0) (by omega)
  have o1 := DExpr.kid_ok hok (i := 1) (by omega)
  have o2 := DExpr.kid_ok hok (i := 2) (by omega)
  rw [moreV_ne (by omega)] at o0 o1 o2
  rw [DExpr.c_eq]
  refine fnKF 186 keep265 ib265 mk265 mix Tryz.func265 rfl (by kernel_rfl) (by simp) ?_
  simp (maxSteps := 1000000) -dsimp -implicitDefEqProofs only [go_sem, ↓reduceIte, keep265, ib265, mk265, Tryz.f265, hb', e3, ew, hk, g0]
  refine ⟨by omega, ?_⟩
  refine HFnF.mkH (hv.at g0 (upd h nb (rBox p sz (st + 1) 0)) nb (st + 1) 0 env funcs (upd_same _ _ _) (by omega) (by omega) o0 hf0 hf henv (by omega)) ?_
  rintro r h' ⟨s1, t1, c1, rfl, rfl, hs1, a1, a2, a3⟩
  have gs : s1[Int.toNat 0]? = some (s1.getD 0 0) := getD_get (by rw [hs1.1]; omega)
  simp (maxSteps := 1000000) -dsimp -implicitDefEqProofs only [go_sem, ↓reduceIte, keep265, ib265, mk265, Tryz.f265, gs, g1, g2]
  refine ⟨by rw [hs1.1]; omega, fun hz => ⟨by omega, ?_⟩, fun hz => ⟨by omega, ?_⟩⟩
  · rw [upd_upd]
    refine HFnF.mkH (hv.at g1 (upd h nb (rBox p sz t1 c1)) nb t1 c1 env funcs (upd_same _ _ _) (by omega) (by omega) o1 hf0 hf henv (by omega)) ?_
    rintro r h' ⟨s2, t2, c2, rfl, rfl, hs2, b1, b2, b3⟩
    simp (maxSteps := 1000000) -dsimp -implicitDefEqProofs only [go_sem, ↓reduceIte, keep265, ib265, mk265, Tryz.f265]
    refine ⟨_, _, shift_self _ _, s2, t2, c2, rfl, by rw [upd_upd], hs2, by omega, b2, ?_⟩
    rw [evE_8 h3 hk]
    refine a3.thenC ?_
    rw [if_pos hz]
    exact b3
  · rw [upd_upd]
    refine HFnF.mkH (hv.at g2 (upd h nb (rBox p sz t1 c1)) nb t1 c1 env funcs (upd_same _ _ _) (by omega) (by omega) o2 hf0 hf henv (by omega)) ?_
    rintro r h' ⟨s2, t2, c2, rfl, rfl, hs2, b1, b2, b3⟩
    simp (maxSteps := 1000000) -dsimp -implicitDefEqProofs only [go_sem, ↓reduceIte, keep265, ib265, mk265, Tryz.f265]
    refine ⟨_, _, shift_self _ _, s2, t2, c2, rfl, by rw [upd_upd], hs2, by omega, b2, ?_⟩
    rw [evE_8 h3 hk]
    refine a3.thenC ?_
    rw [if_neg hz]
    exact b3
set_option maxRecDepth 100000 in
theorem expr_9 {p : DProgram} (hp : p.ok) {sz n : Nat} (hsz : 1 ≤ sz ∧ sz ≤ 1048576) (hv : RunAt p sz n) (h : Heap) (nb st : Nat) (e : DExpr) (env : List (List Int)) (funcs : Int) (hb : h nb = some (rBox p sz st 0)) (hst : st < 3000) (hn : 3001 ≤ n + 1 + st)
    (hok : e.ok p funcs env.length) (hf0 : 0 ≤ funcs) (hf : funcs ≤ p.fFuncs.length) (henv : ∀ s ∈ env, serOK sz s) (hel : env.length ≤ 412 + st) (hk : e.fKind = 9) :
    HFn Tryz.prog 265 [.op nb 4 0 0, .ip 5 [e.c] 0 0, intss env] h (RnQ h nb p sz st 0 (evE p sz (n + 1) st e env)) := by
  have hb' := hb
  unfold rBox at hb'
  have e3 : ((st : Int) = 3000) = False := eq_false (by omega)
  have ew : IntKind.i64.wrap ((st : Int) + 1) = ((st + 1 : Nat) : Int) := by rw [IntWalk.i64_in _ (by omega)]; rfl
  have hnode := (DExpr.ok_iff _ _ _ _).1 hok
  have h3 : ¬ st = 3000 := by omega
  have hlen := kids_len hok (by omega)
  rw [hk, show kidsN 9 = 2 from rfl] at hlen
  have g0 : e.fKids[Int.toNat 0]? = some (e.kid 0) := DExpr.kid_get (by omega)
  have g1 : e.fKids[Int.toNat 1]? = some (e.kid 1) := DExpr.kid_get (by omega)
  have o0 := DExpr.kid_ok hok (i := 0) (by omega)
  have o1 := DExpr.kid_ok hok (i := 1) (by omega)
  rw [moreV_ne (by omega)] at o0
  rw [hk, show moreV 9 1 (env.length : Int) = env.length + 1 from rfl] at o1
  rw [DExpr.c_eq]
  refine fnKF 186 keep265 ib265 mk265 mix Tryz.func265 rfl (by kernel_rfl) (by simp) ?_
  simp (maxSteps := 1000000) -dsimp -implicitDefEqProofs only [go_sem, ↓reduceIte, keep265, ib265, mk265, Tryz.f265, hb', e3, ew, hk, g0, g1]
  refine ⟨by omega, ?_⟩
  refine HFnF.mkH (hv.at g0 (upd h nb (rBox p sz (st + 1) 0)) nb (st + 1) 0 env funcs (upd_same _ _ _) (by omega) (by omega) o0 hf0 hf henv (by omega)) ?_
  rintro r h' ⟨s1, t1, c1, rfl, rfl, hs1, a1, a2, a3⟩
  simp (maxSteps := 1000000) -dsimp -implicitDefEqProofs only [go_sem, ↓reduceIte, keep265, ib265, mk265, Tryz.f265, g0, g1]
  refine ⟨by omega, ?_⟩
  first | refine HFnF.mk (l02Env env s1 (by omega)) ?_ | refine CallSF.mk (l02Env env s1 (by omega)) ?_ | refine HFnF.mkAt (l02Env env s1 (by omega)) ?_ | refine CallSF.mk (FnAt.fn0 (l02Env env s1 (by omega))) ?_
  simp (maxSteps := 1000000) -dsimp -implicitDefEqProofs only [go_sem, ↓reduceIte, keep265, ib265, mk265, Tryz.f265]
  rw [upd_upd]
  refine HFnF.mkH (hv.at g1 (upd h nb (rBox p sz t1 c1)) nb t1 c1 (env ++ [s1]) funcs (upd_same _ _ _) (by omega) (by omega) (by rw [List.length_append]; exact o1) hf0 hf (serOK_snoc henv hs1) (by rw [List.length_append]; show env.length + 1 ≤ _; omega)) ?_
  rintro r h' ⟨s2, t2, c2, rfl, rfl, hs2, b1, b2, b3⟩
  simp (maxSteps := 1000000) -dsimp -implicitDefEqProofs only [go_sem, ↓reduceIte, keep265, ib265, mk265, Tryz.f265]
  refine ⟨_, upd h nb (rBox p sz t2 c2), shift_le (by rw [upd_upd]; exact Heap.le_refl _), s2, t2, c2, rfl, rfl, hs2, by omega, b2, ?_⟩
  rw [evE_9 h3 hk]
  exact a3.thenC b3
set_option maxRecDepth 100000 in
theorem expr_10 {p : DProgram} (hp : p.ok) {sz n : Nat} (hsz : 1 ≤ sz ∧ sz ≤ 1048576) (hv : RunAt p sz n) (h : Heap) (nb st : Nat) (e : DExpr) (env : List (List Int)) (funcs : Int) (hb : h nb = some (rBox p sz st 0)) (hst : st < 3000) (hn : 3001 ≤ n + 1 + st)
    (hok : e.ok p funcs env.length) (hf0 : 0 ≤ funcs) (hf : funcs ≤ p.fFuncs.length) (henv : ∀ s ∈ env, serOK sz s) (hel : env.length ≤ 412 + st) (hk : e.fKind = 10) :
    HFn Tryz.prog 265 [.op nb 4 0 0, .ip 5 [e.c] 0 0, intss env] h (RnQ h nb p sz st 0 (evE p sz (n + 1) st e env)) := by
  have hb' := hb
  unfold rBox at hb'
  have e3 : ((st : Int) = 3000) = False := eq_false (by omega)
  have ew : IntKind.i64.wrap ((st : Int) + 1) = ((st + 1 : Nat) : Int) := by rw [IntWalk.i64_in _ (by omega)]; rfl
  have hnode := (DExpr.ok_iff _ _ _ _).1 hok
  have h3 : ¬ st = 3000 := by omega
  have hcl := call_10 hp hv (upd h nb (rBox p sz (st + 1) 0)) nb (st + 1) e env funcs (upd_same _ _ _) (by omega) (by omega) hok hf0 hf henv (by omega) hk
  rw [DExpr.c_eq, hk] at hcl
  rw [DExpr.c_eq]
  refine fnKF 186 keep265 ib265 mk265 mix Tryz.func265 rfl (by kernel_rfl) (by simp) ?_
  simp (maxSteps := 1000000) -dsimp -implicitDefEqProofs only [go_sem, ↓reduceIte, keep265, ib265, mk265, Tryz.f265, hb', e3, ew, hk]
  refine HFnF.mkH hcl ?_
  rintro r h' ⟨s2, t2, c2, rfl, rfl, hs2, b1, b2, b3⟩
  simp (maxSteps := 1000000) -dsimp -implicitDefEqProofs only [go_sem, ↓reduceIte, keep265, ib265, mk265, Tryz.f265]
  refine ⟨_, upd h nb (rBox p sz t2 c2), shift_le (by rw [upd_upd]; exact Heap.le_refl _), s2, t2, c2, rfl, rfl, hs2, by omega, b2, ?_⟩
  rw [evE_10 h3 hk]
  exact b3
set_option maxRecDepth 100000 in
theorem expr_11 {p : DProgram} (hp : p.ok) {sz n : Nat} (hsz : 1 ≤ sz ∧ sz ≤ 1048576) (hv : RunAt p sz n) (h : Heap) (nb st : Nat) (e : DExpr) (env : List (List Int)) (funcs : Int) (hb : h nb = some (rBox p sz st 0)) (hst : st < 3000) (hn : 3001 ≤ n + 1 + st)
    (hok : e.ok p funcs env.length) (hf0 : 0 ≤ funcs) (hf : funcs ≤ p.fFuncs.length) (henv : ∀ s ∈ env, serOK sz s) (hel : env.length ≤ 412 + st) (hk : e.fKind = 11) :
    HFn Tryz.prog 265 [.op nb 4 0 0, .ip 5 [e.c] 0 0, intss env] h (RnQ h nb p sz st 0 (evE p sz (n + 1) st e env)) := by
  have hb' := hb
  unfold rBox at hb'
  have e3 : ((st : Int) = 3000) = False := eq_false (by omega)
  have ew : IntKind.i64.wrap ((st : Int) + 1) = ((st + 1 : Nat) : Int) := by rw [IntWalk.i64_in _ (by omega)]; rfl
  have hnode := (DExpr.ok_iff _ _ _ _).1 hok
  have h3 : ¬ st = 3000 := by omega
  have hcl := call_11 hp hv (upd h nb (rBox p sz (st + 1) 0)) nb (st + 1) e env funcs (upd_same _ _ _) (by omega) (by omega) hok hf0 hf henv (by omega) hk
  rw [DExpr.c_eq, hk] at hcl
  rw [DExpr.c_eq]
  refine fnKF 186 keep265 ib265 mk265 mix Tryz.func265 rfl (by kernel_rfl) (by simp) ?_
  simp (maxSteps := 1000000) -dsimp -implicitDefEqProofs only [go_sem, ↓reduceIte, keep265, ib265, mk265, Tryz.f265, hb', e3, ew, hk]
  refine HFnF.mkH hcl ?_
  rintro r h' ⟨s2, t2, c2, rfl, rfl, hs2, b1, b2, b3⟩
  simp (maxSteps := 1000000) -dsimp -implicitDefEqProofs only [go_sem, ↓reduceIte, keep265, ib265, mk265, Tryz.f265]
  refine ⟨_, upd h nb (rBox p sz t2 c2), shift_le (by rw [upd_upd]; exact Heap.le_refl _), s2, t2, c2, rfl, rfl, hs2, by omega, b2, ?_⟩
  rw [evE_11 h3 hk]
  exact b3
open Go.Proofs
set_option linter.unusedVariables false
set_option linter.unusedSimpArgs false
theorem kids_one {e : DExpr} (h : e.fKids.length = 1) : e.fKids = [e.kid 0] := by
  have h0 := DExpr.kid_eq (e := e) (i := 0) (by omega)
  rw [h0]
  apply List.ext_getElem (by simp [h])
  intro i hi hi2
  match i, hi2 with
  | 0, _ => rfl
theorem kids_two {e : DExpr} (h : e.fKids.length = 2) : e.fKids = [e.kid 0, e.kid 1] := by
  have h0 := DExpr.kid_eq (e := e) (i := 0) (by omega)
  have h1 := DExpr.kid_eq (e := e) (i := 1) (by omega)
  rw [h0, h1]
  apply List.ext_getElem (by simp [h])
  intro i hi hi2
  match i, hi2 with
  | 0, _ => rfl
  | 1, _ => rfl
theorem evE_un {p : DProgram} {sz n st : Nat} {e : DExpr} {env : List (List Int)} (h3 : ¬ st = 3000) (hk : e.fKind = 7) (hl : e.fKids.length = 1) : evE p sz (n + 1) st e env = (evE p sz n (st + 1) (e.kid 0) env).andThen fun v t => .ok (sclL v 1000002, t) := by
  rw [evE_op h3 (by omega), kids_one hl, hk]
  simp only [seqE, Out.andThen_assoc, Out.andThen_ok, opE]
  rfl
theorem evE_bin {p : DProgram} {sz n st : Nat} {e : DExpr} {env : List (List Int)} (h3 : ¬ st = 3000) (hk : e.fKind = 3 ∨ e.fKind = 4 ∨ e.fKind = 5 ∨ e.fKind = 6) (hl : e.fKids.length = 2) : evE p sz (n + 1) st e env = (evE p sz n (st + 1) (e.kid 0) env).andThen fun a t => (evE p sz n t (e.kid 1) env).andThen fun b t => opE e.fKind [a, b] t := by
  rw [evE_op h3 (by omega), kids_two hl]
  simp only [seqE, Out.andThen_assoc, Out.andThen_ok]
set_option maxRecDepth 100000 in
theorem expr_7 {p : DProgram} (hp : p.ok) {sz n : Nat} (hsz : 1 ≤ sz ∧ sz ≤ 1048576) (hv : RunAt p sz n) (h : Heap) (nb st : Nat) (e : DExpr) (env : List (List Int)) (funcs : Int) (hb : h nb = some (rBox p sz st 0)) (hst : st < 3000) (hn : 3001 ≤ n + 1 + st)
    (hok : e.ok p funcs env.length) (hf0 : 0 ≤ funcs) (hf : funcs ≤ p.fFuncs.length) (henv : ∀ s ∈ env, serOK sz s) (hel : env.length ≤ 412 + st) (hk : e.fKind = 7) :
    HFn Tryz.prog 265 [.op nb 4 0 0, .ip 5 [e.c] 0 0, intss env] h (RnQ h nb p sz st 0 (evE p sz (n + 1) st e env)) := by
  have hb' := hb
  unfold rBox at hb'
  have e3 : ((st : Int) = 3000) = False := eq_false (by omega)
  have ew : IntKind.i64.wrap ((st : Int) + 1) = ((st + 1 : Nat) : Int) := by rw [IntWalk.i64_in _ (by omega)]; rfl
  have hnode := (DExpr.ok_iff _ _ _ _).1 hok
  have h3 : ¬ st = 3000 := by omega
  have hlen := kids_len hok (by omega)
  rw [hk, show kidsN 7 = 1 from rfl] at hlen
  have g0 : e.fKids[Int.toNat 0]? = some (e.kid 0) := DExpr.kid_get (by omega)
  have o0 := DExpr.kid_ok hok (i := 0) (by omega)
  rw [moreV_ne (by omega)] at o0
  rw [DExpr.c_eq]
  refine fnKF 186 keep265 ib265 mk265 mix Tryz.func265 rfl (by kernel_rfl) (by simp) ?_
  simp (maxSteps := 1000000) -dsimp -implicitDefEqProofs only [go_sem, ↓reduceIte, keep265, ib265, mk265, Tryz.f265, hb', e3, ew, hk, g0]
  refine ⟨by omega, ?_⟩
  refine HFnF.mkH (hv.at g0 (upd h nb (rBox p sz (st + 1) 0)) nb (st + 1) 0 env funcs (upd_same _ _ _) (by omega) (by omega) o0 hf0 hf henv (by omega)) ?_
  rintro r h' ⟨s1, t1, c1, rfl, rfl, hs1, a1, a2, a3⟩
  simp (maxSteps := 1000000) -dsimp -implicitDefEqProofs only [go_sem, ↓reduceIte, keep265, ib265, mk265, Tryz.f265]
  first | refine HFnF.mk (l01Scale s1 1000002 (by unfold Num; omega) (by rw [hs1.1]; omega) hs1.2) ?_ | refine CallSF.mk (l01Scale s1 1000002 (by unfold Num; omega) (by rw [hs1.1]; omega) hs1.2) ?_ | refine HFnF.mkAt (l01Scale s1 1000002 (by unfold Num; omega) (by rw [hs1.1]; omega) hs1.2) ?_ | refine CallSF.mk (FnAt.fn0 (l01Scale s1 1000002 (by unfold Num; omega) (by rw [hs1.1]; omega) hs1.2)) ?_
  simp (maxSteps := 1000000) -dsimp -implicitDefEqProofs only [go_sem, ↓reduceIte, keep265, ib265, mk265, Tryz.f265]
  refine ⟨_, upd h nb (rBox p sz t1 c1), shift_le (by rw [upd_upd]; exact Heap.le_refl _), _, t1, c1, rfl, rfl, serOK_scl _ hs1, by omega, a2, ?_⟩
  rw [evE_un h3 hk (by omega)]
  exact a3.thenC (outR_init _ _ _)
set_option maxRecDepth 100000 in
theorem expr_3 {p : DProgram} (hp : p.ok) {sz n : Nat} (hsz : 1 ≤ sz ∧ sz ≤ 1048576) (hv : RunAt p sz n) (h : Heap) (nb st : Nat) (e : DExpr) (env : List (List Int)) (funcs : Int) (hb : h nb = some (rBox p sz st 0)) (hst : st < 3000) (hn : 3001 ≤ n + 1 + st)
    (hok : e.ok p funcs env.length) (hf0 : 0 ≤ funcs) (hf : funcs ≤ p.fFuncs.length) (henv : ∀ s ∈ env, serOK sz s) (hel : env.length ≤ 412 + st) (hk : e.fKind = 3) :
    HFn Tryz.prog 265 [.op nb 4 0 0, .ip 5 [e.c] 0 0, intss env] h (RnQ h nb p sz st 0 (evE p sz (n + 1) st e env)) := by
  have hb' := hb
  unfold rBox at hb'
  have e3 : ((st : Int) = 3000) = False := eq_false (by omega)
  have ew : IntKind.i64.wrap ((st : Int) + 1) = ((st + 1 : Nat) : Int) := by rw [IntWalk.i64_in _ (by omega)]; rfl
  have hnode := (DExpr.ok_iff _ _ _ _).1 hok
  have h3 : ¬ st = 3000 := by omega
  have hlen := kids_len hok (by omega)
  rw [hk, show kidsN 3 = 2 from rfl] at hlen
  have g0 : e.fKids[Int.toNat 0]? = some (e.kid 0) := DExpr.kid_get (by omega)
  have g1 : e.fKids[Int.toNat 1]? = some (e.kid 1) := DExpr.kid_get (by omega)
  have o0 := DExpr.kid_ok hok (i := 0) (by omega)
  have o1 := DExpr.kid_ok hok (i := 1) (by omega)
  rw [moreV_ne (by omega)] at o0 o1
  rw [DExpr.c_eq]
  refine fnKF 186 keep265 ib265 mk265 mix Tryz.func265 rfl (by kernel_rfl) (by simp) ?_
  simp (maxSteps := 1000000) -dsimp -implicitDefEqProofs only [go_sem, ↓reduceIte, keep265, ib265, mk265, Tryz.f265, hb', e3, ew, hk, g0]
  refine ⟨by omega, ?_⟩
  refine HFnF.mkH (hv.at g0 (upd h nb (rBox p sz (st + 1) 0)) nb (st + 1) 0 env funcs (upd_same _ _ _) (by omega) (by omega) o0 hf0 hf henv (by omega)) ?_
  rintro r h' ⟨s1, t1, c1, rfl, rfl, hs1, a1, a2, a3⟩
  simp (maxSteps := 1000000) -dsimp -implicitDefEqProofs only [go_sem, ↓reduceIte, keep265, ib265, mk265, Tryz.f265, g1]
  refine ⟨by omega, ?_⟩
  rw [upd_upd]
  refine HFnF.mkH (hv.at g1 (upd h nb (rBox p sz t1 c1)) nb t1 c1 env funcs (upd_same _ _ _) (by omega) (by omega) o1 hf0 hf henv (by omega)) ?_
  rintro r h' ⟨s2, t2, c2, rfl, rfl, hs2, b1, b2, b3⟩
  rw [upd_upd]
  simp (maxSteps := 1000000) -dsimp -implicitDefEqProofs only [go_sem, ↓reduceIte, keep265, ib265, mk265, Tryz.f265, hk]
  first | refine HFnF.mk (l01Add s1 s2 (by rw [hs1.1, hs2.1]) (by rw [hs1.1]; omega) hs1.2 hs2.2) ?_ | refine CallSF.mk (l01Add s1 s2 (by rw [hs1.1, hs2.1]) (by rw [hs1.1]; omega) hs1.2 hs2.2) ?_ | refine HFnF.mkAt (l01Add s1 s2 (by rw [hs1.1, hs2.1]) (by rw [hs1.1]; omega) hs1.2 hs2.2) ?_ | refine CallSF.mk (FnAt.fn0 (l01Add s1 s2 (by rw [hs1.1, hs2.1]) (by rw [hs1.1]; omega) hs1.2 hs2.2)) ?_
  simp (maxSteps := 1000000) -dsimp -implicitDefEqProofs only [go_sem, ↓reduceIte, keep265, ib265, mk265, Tryz.f265]
  refine ⟨_, upd h nb (rBox p sz t2 c2), shift_le (Heap.le_refl _), _, t2, c2, rfl, rfl, serOK_add hs1 hs2, by omega, b2, ?_⟩
  rw [evE_bin h3 (by omega) (by omega), hk]
  exact a3.thenC (b3.thenC (outR_init _ _ _))
set_option maxRecDepth 100000 in
theorem expr_4 {p : DProgram} (hp : p.ok) {sz n : Nat} (hsz : 1 ≤ sz ∧ sz ≤ 1048576) (hv : RunAt p sz n) (h : Heap) (nb st : Nat) (e : DExpr) (env : List (List Int)) (funcs : Int) (hb : h nb = some (rBox p sz st 0)) (hst : st < 3000) (hn : 3001 ≤ n + 1 + st)
    (hok : e.ok p funcs env.length) (hf0 : 0 ≤ funcs) (hf : funcs ≤ p.fFuncs.length) (henv : ∀ s ∈ env, serOK sz s) (hel : env.length ≤ 412 + st) (hk : e.fKind = 4) :
    HFn Tryz.prog 265 [.op nb 4 0 0, .ip 5 [e.c] 0 0, intss env] h (RnQ h nb p sz st 0 (evE p sz (n + 1) st e env)) := by
  have hb' := hb
  unfold rBox at hb'
  have e3 : ((st : Int) = 3000) = False := eq_false (by omega)
  have ew : IntKind.i64.wrap ((st : Int) + 1) = ((st + 1 : Nat) : Int) := by rw [IntWalk.i64_in _ (by omega)]; rfl
  have hnode := (DExpr.ok_iff _ _ _ _).1 hok
  have h3 : ¬ st = 3000 := by omega
  have hlen := kids_len hok (by omega)
  rw [hk, show kidsN 4 = 2 from rfl] at hlen
  have g0 : e.fKids[Int.toNat 0]? = some (e.kid 0) := DExpr.kid_get (by omega)
  have g1 : e.fKids[Int.toNat 1]? = some (e.kid 1) := DExpr.kid_get (by omega)
  have o0 := DExpr.kid_ok hok (i := 0) (by omega)
  have o1 := DExpr.kid_ok hok (i := 1) (by omega)
  rw [moreV_ne (by omega)] at o0 o1
  rw [DExpr.c_eq]
  refine fnKF 186 keep265 ib265 mk265 mix Tryz.func265 rfl (by kernel_rfl) (by simp) ?_
  simp (maxSteps := 1000000) -dsimp -implicitDefEqProofs only [go_sem, ↓reduceIte, keep265, ib265, mk265, Tryz.f265, hb', e3, ew, hk, g0]
  refine ⟨by omega, ?_⟩
  refine HFnF.mkH (hv.at g0 (upd h nb (rBox p sz (st + 1) 0)) nb (st + 1) 0 env funcs (upd_same _ _ _) (by omega) (by omega) o0 hf0 hf henv (by omega)) ?_
  rintro r h' ⟨s1, t1, c1, rfl, rfl, hs1, a1, a2, a3⟩
  simp (maxSteps := 1000000) -dsimp -implicitDefEqProofs only [go_sem, ↓reduceIte, keep265, ib265, mk265, Tryz.f265, g1]
  refine ⟨by omega, ?_⟩
  rw [upd_upd]
  refine HFnF.mkH (hv.at g1 (upd h nb (rBox p sz t1 c1)) nb t1 c1 env funcs (upd_same _ _ _) (by omega) (by omega) o1 hf0 hf henv (by omega)) ?_
  rintro r h' ⟨s2, t2, c2, rfl, rfl, hs2, b1, b2, b3⟩
  rw [upd_upd]
  simp (maxSteps := 1000000) -dsimp -implicitDefEqProofs only [go_sem, ↓reduceIte, keep265, ib265, mk265, Tryz.f265, hk]
  first | refine HFnF.mk (l01Sub s1 s2 (by rw [hs1.1, hs2.1]) (by rw [hs1.1]; omega) hs1.2 hs2.2) ?_ | refine CallSF.mk (l01Sub s1 s2 (by rw [hs1.1, hs2.1]) (by rw [hs1.1]; omega) hs1.2 hs2.2) ?_ | refine HFnF.mkAt (l01Sub s1 s2 (by rw [hs1.1, hs2.1]) (by rw [hs1.1]; omega) hs1.2 hs2.2) ?_ | refine CallSF.mk (FnAt.fn0 (l01Sub s1 s2 (by rw [hs1.1, hs2.1]) (by rw [hs1.1]; omega) hs1.2 hs2.2)) ?_
  simp (maxSteps := 1000000) -dsimp -implicitDefEqProofs only [go_sem, ↓reduceIte, keep265, ib265, mk265, Tryz.f265]
  refine ⟨_, upd h nb (rBox p sz t2 c2), shift_le (Heap.le_refl _), _, t2, c2, rfl, rfl, serOK_sub hs1 hs2, by omega, b2, ?_⟩
  rw [evE_bin h3 (by omega) (by omega), hk]
  exact a3.thenC (b3.thenC (outR_init _ _ _))
set_option maxRecDepth 100000 in
theorem expr_5 {p : DProgram} (hp : p.ok) {sz n : Nat} (hsz : 1 ≤ sz ∧ sz ≤ 1048576) (hv : RunAt p sz n) (h : Heap) (nb st : Nat) (e : DExpr) (env : List (List Int)) (funcs : Int) (hb : h nb = some (rBox p sz st 0)) (hst : st < 3000) (hn : 3001 ≤ n + 1 + st)
    (hok : e.ok p funcs env.length) (hf0 : 0 ≤ funcs) (hf : funcs ≤ p.fFuncs.length) (henv : ∀ s ∈ env, serOK sz s) (hel : env.length ≤ 412 + st) (hk : e.fKind = 5) :
    HFn Tryz.prog 265 [.op nb 4 0 0, .ip 5 [e.c] 0 0, intss env] h (RnQ h nb p sz st 0 (evE p sz (n + 1) st e env)) := by
  have hb' := hb
  unfold rBox at hb'
  have e3 : ((st : Int) = 3000) = False := eq_false (by omega)
  have ew : IntKind.i64.wrap ((st : Int) + 1) = ((st + 1 : Nat) : Int) := by rw [IntWalk.i64_in _ (by omega)]; rfl
  have hnode := (DExpr.ok_iff _ _ _ _).1 hok
  have h3 : ¬ st = 3000 := by omega
  have hlen := kids_len hok (by omega)
  rw [hk, show kidsN 5 = 2 from rfl] at hlen
  have g0 : e.fKids[Int.toNat 0]? = some (e.kid 0) := DExpr.kid_get (by omega)
  have g1 : e.fKids[Int.toNat 1]? = some (e.kid 1) := DExpr.kid_get (by omega)
  have o0 := DExpr.kid_ok hok (i := 0) (by omega)
  have o1 := DExpr.kid_ok hok (i := 1) (by omega)
  rw [moreV_ne (by omega)] at o0 o1
  rw [DExpr.c_eq]
  refine fnKF 186 keep265 ib265 mk265 mix Tryz.func265 rfl (by kernel_rfl) (by simp) ?_
  simp (maxSteps := 1000000) -dsimp -implicitDefEqProofs only [go_sem, ↓reduceIte, keep265, ib265, mk265, Tryz.f265, hb', e3, ew, hk, g0]
  refine ⟨by omega, ?_⟩
  refine HFnF.mkH (hv.at g0 (upd h nb (rBox p sz (st + 1) 0)) nb (st + 1) 0 env funcs (upd_same _ _ _) (by omega) (by omega) o0 hf0 hf henv (by omega)) ?_
  rintro r h' ⟨s1, t1, c1, rfl, rfl, hs1, a1, a2, a3⟩
  simp (maxSteps := 1000000) -dsimp -implicitDefEqProofs only [go_sem, ↓reduceIte, keep265, ib265, mk265, Tryz.f265, g1]
  refine ⟨by omega, ?_⟩
  rw [upd_upd]
  refine HFnF.mkH (hv.at g1 (upd h nb (rBox p sz t1 c1)) nb t1 c1 env funcs (upd_same _ _ _) (by omega) (by omega) o1 hf0 hf henv (by omega)) ?_
  rintro r h' ⟨s2, t2, c2, rfl, rfl, hs2, b1, b2, b3⟩
  rw [upd_upd]
  simp (maxSteps := 1000000) -dsimp -implicitDefEqProofs only [go_sem, ↓reduceIte, keep265, ib265, mk265, Tryz.f265, hk]
  first | refine HFnF.mk (l01Mul s1 s2 (by rw [hs1.1, hs2.1]) (by rw [hs1.1]; omega) hs1.2 hs2.2) ?_ | refine CallSF.mk (l01Mul s1 s2 (by rw [hs1.1, hs2.1]) (by rw [hs1.1]; omega) hs1.2 hs2.2) ?_ | refine HFnF.mkAt (l01Mul s1 s2 (by rw [hs1.1, hs2.1]) (by rw [hs1.1]; omega) hs1.2 hs2.2) ?_ | refine CallSF.mk (FnAt.fn0 (l01Mul s1 s2 (by rw [hs1.1, hs2.1]) (by rw [hs1.1]; omega) hs1.2 hs2.2)) ?_
  simp (maxSteps := 1000000) -dsimp -implicitDefEqProofs only [go_sem, ↓reduceIte, keep265, ib265, mk265, Tryz.f265]
  refine ⟨_, upd h nb (rBox p sz t2 c2), shift_le (Heap.le_refl _), _, t2, c2, rfl, rfl, serOK_mul _ hs1, by omega, b2, ?_⟩
  rw [evE_bin h3 (by omega) (by omega), hk]
  exact a3.thenC (b3.thenC (outR_init _ _ _))
set_option maxRecDepth 100000 in
theorem expr_6 {p : DProgram} (hp : p.ok) {sz n : Nat} (hsz : 1 ≤ sz ∧ sz ≤ 1048576) (hv : RunAt p sz n) (h : Heap) (nb st : Nat) (e : DExpr) (env : List (List Int)) (funcs : Int) (hb : h nb = some (rBox p sz st 0)) (hst : st < 3000) (hn : 3001 ≤ n + 1 + st)
    (hok : e.ok p funcs env.length) (hf0 : 0 ≤ funcs) (hf : funcs ≤ p.fFuncs.length) (henv : ∀ s ∈ env, serOK sz s) (hel : env.length ≤ 412 + st) (hk : e.fKind = 6) :
    HFn Tryz.prog 265 [.op nb 4 0 0, .ip 5 [e.c] 0 0, intss env] h (RnQ h nb p sz st 0 (evE p sz (n + 1) st e env)) := by
  have hb' := hb
  unfold rBox at hb'
  have e3 : ((st : Int) = 3000) = False := eq_false (by omega)
  have ew : IntKind.i64.wrap ((st : Int) + 1) = ((st + 1 : Nat) : Int) := by rw [IntWalk.i64_in _ (by omega)]; rfl
  have hnode := (DExpr.ok_iff _ _ _ _).1 hok
  have h3 : ¬ st = 3000 := by omega
  have hlen := kids_len hok (by omega)
  rw [hk, show kidsN 6 = 2 from rfl] at hlen
  have g0 : e.fKids[Int.toNat 0]? = some (e.kid 0) := DExpr.kid_get (by omega)
  have g1 : e.fKids[Int.toNat 1]? = some (e.kid 1) := DExpr.kid_get (by omega)
  have o0 := DExpr.kid_ok hok (i := 0) (by omega)
  have o1 := DExpr.kid_ok hok (i := 1) (by omega)
  rw [moreV_ne (by omega)] at o0 o1
  rw [DExpr.c_eq]
  refine fnKF 186 keep265 ib265 mk265 mix Tryz.func265 rfl (by kernel_rfl) (by simp) ?_
  simp (maxSteps := 1000000) -dsimp -implicitDefEqProofs only [go_sem, ↓reduceIte, keep265, ib265, mk265, Tryz.f265, hb', e3, ew, hk, g0]
  refine ⟨by omega, ?_⟩
  refine HFnF.mkH (hv.at g0 (upd h nb (rBox p sz (st + 1) 0)) nb (st + 1) 0 env funcs (upd_same _ _ _) (by omega) (by omega) o0 hf0 hf henv (by omega)) ?_
  rintro r h' ⟨s1, t1, c1, rfl, rfl, hs1, a1, a2, a3⟩
  simp (maxSteps := 1000000) -dsimp -implicitDefEqProofs only [go_sem, ↓reduceIte, keep265, ib265, mk265, Tryz.f265, g1]
  refine ⟨by omega, ?_⟩
  rw [upd_upd]
  refine HFnF.mkH (hv.at g1 (upd h nb (rBox p sz t1 c1)) nb t1 c1 env funcs (upd_same _ _ _) (by omega) (by omega) o1 hf0 hf henv (by omega)) ?_
  rintro r h' ⟨s2, t2, c2, rfl, rfl, hs2, b1, b2, b3⟩
  rw [upd_upd]
  have gs : s2[Int.toNat 0]? = some (s2.getD 0 0) := getD_get (by rw [hs2.1]; omega)
  simp (maxSteps := 1000000) -dsimp -implicitDefEqProofs only [go_sem, ↓reduceIte, keep265, ib265, mk265, Tryz.f265, hk, rBox, gs]
  refine ⟨fun hc => ?_, fun hc => ?_⟩
  · subst hc
    refine ⟨by rw [hs2.1]; omega, fun hz => ?_, fun hz => ?_⟩
    · refine HFnF.mkH (failS (upd h nb (rBox p sz t2 0)) nb p sz t2 0 6 (upd_same _ _ _) hsz.2) ?_
      rintro r h' ⟨rfl, rfl⟩
      simp (maxSteps := 1000000) -dsimp -implicitDefEqProofs only [go_sem, ↓reduceIte, keep265, ib265, mk265, Tryz.f265]
      refine ⟨_, upd h nb (rBox p sz t2 6), shift_le (by rw [upd_upd]; exact Heap.le_refl _), _, t2, 6, rfl, rfl, serOK_const num_zero, by omega, b2, ?_⟩
      rw [evE_bin h3 (by omega) (by omega), hk]
      refine a3.thenC (b3.thenC ?_)
      have : opE 6 [s1, s2] t2 = .error 6 := by rw [opE, if_neg (by decide), if_neg (by decide), if_neg (by decide), if_neg (by decide)]; exact if_pos hz
      rw [runE_zero, this]
      exact outR_err _ _ (by decide)
    · refine HFnF.mk (l01Div s1 s2 (by rw [hs1.1, hs2.1]) (by rw [hs1.1]; omega) (by rw [hs1.1]; omega) hs1.2 hs2.2) ?_
      simp (maxSteps := 1000000) -dsimp -implicitDefEqProofs only [go_sem, ↓reduceIte, keep265, ib265, mk265, Tryz.f265]
      refine ⟨_, upd h nb (rBox p sz t2 0), shift_le (Heap.le_refl _), _, t2, 0, rfl, rfl, serOK_div _ hs1, by omega, b2, ?_⟩
      rw [evE_bin h3 (by omega) (by omega), hk]
      refine a3.thenC (b3.thenC ?_)
      have : opE 6 [s1, s2] t2 = .ok (divL s1 s2, t2) := by rw [opE, if_neg (by decide), if_neg (by decide), if_neg (by decide), if_neg (by decide)]; exact if_neg hz
      rw [runE_zero, this]
      exact outR_ok _ _
  · refine HFnF.mkH (failS (upd h nb (rBox p sz t2 c2)) nb p sz t2 c2 6 (upd_same _ _ _) hsz.2) ?_
    rintro r h' ⟨rfl, rfl⟩
    simp (maxSteps := 1000000) -dsimp -implicitDefEqProofs only [go_sem, ↓reduceIte, keep265, ib265, mk265, Tryz.f265]
    refine ⟨_, upd h nb (rBox p sz t2 c2), shift_le (by rw [upd_upd, if_neg hc]; exact Heap.le_refl _), _, t2, c2, rfl, rfl, serOK_const num_zero, by omega, b2, ?_⟩
    rw [evE_bin h3 (by omega) (by omega), hk]
    exact a3.thenC (b3.thenC (by rw [runE_ne _ hc]; exact outR_err _ _ hc))
theorem run {p : DProgram} (hp : p.ok) {sz : Nat} (hsz : 1 ≤ sz ∧ sz ≤ 1048576) : ∀ n, RunAt p sz n
  | 0 => fun h nb st c e env funcs hb hst hn => by omega
  | n + 1 => fun h nb st c e env funcs hb hst hn hok hf0 hf henv hel => by
    have hv := run hp hsz n
    by_cases hs : ¬ c = 0 ∨ st = 3000
    · exact expr_stop hsz h nb st c e env hb hst hs
    have hc : c = 0 := Classical.byContradiction fun q => hs (.inl q)
    have h3 : st < 3000 := by
      rcases Nat.lt_or_ge st 3000 with h | h
      · exact h
      · exact absurd (.inr (by omega)) hs
    subst hc
    rcases node_kind ((DExpr.ok_iff _ _ _ _).1 hok).1 with hk | hk | hk | hk | hk | hk | hk | hk | hk | hk | hk
    · exact expr_1 hp hsz hv h nb st e env funcs hb h3 hn hok hf0 hf henv hel hk
    · exact expr_2 hp hsz hv h nb st e env funcs hb h3 hn hok hf0 hf henv hel hk
    · exact expr_3 hp hsz hv h nb st e env funcs hb h3 hn hok hf0 hf henv hel hk
    · exact expr_4 hp hsz hv h nb st e env funcs hb h3 hn hok hf0 hf henv hel hk
    · exact expr_5 hp hsz hv h nb st e env funcs hb h3 hn hok hf0 hf henv hel hk
    · exact expr_6 hp hsz hv h nb st e env funcs hb h3 hn hok hf0 hf henv hel hk
    · exact expr_7 hp hsz hv h nb st e env funcs hb h3 hn hok hf0 hf henv hel hk
    · exact expr_8 hp hsz hv h nb st e env funcs hb h3 hn hok hf0 hf henv hel hk
    · exact expr_9 hp hsz hv h nb st e env funcs hb h3 hn hok hf0 hf henv hel hk
    · exact expr_10 hp hsz hv h nb st e env funcs hb h3 hn hok hf0 hf henv hel hk
    · exact expr_11 hp hsz hv h nb st e env funcs hb h3 hn hok hf0 hf henv hel hk
open Go.Proofs
set_option linter.unusedVariables false
set_option linter.unusedSimpArgs false
theorem row_ints (l : List Int) : valRows ((l.map fun n => [I n]).map (List.map Cell.v)) = l.map fun n => [I n] := valRows_map _
/-- A row of this function's own is given up with what is handed back. -/
theorem shift_seal {h h' : Heap} {n sz : Nat} {x r : HVal} (es : List (List HVal)) (h0 : h n = none) (hl : (upd h n (.row sz (es.map (List.map .v)))).le h') (hb : sealOK n sz es.length x = true) (hr : x.sealUp n es = r) : Shift x h' r h := by
  subst hr
  refine (Shift.of (Sub.refl _) hl).trans ((Shift.sealUp (upd_same _ _ _) (by rw [List.length_map]; exact hb)).trans ?_)
  rw [valRows_map]
  exact shift_le ((le_upd h0).2 ((le_upd h0).2 (Heap.le_refl h)))
/-- A row of this function's own is given away with a call of a function that hands back one value. -/
theorem HFnF.give0 {P : Program} {f : FuncId} {args args' : List HVal} {h : Heap} {K : HVal → Heap → Prop} {t : Tag K} {r : HVal} {n sz : Nat} {es : List (List HVal)} (a : Fn0 P f args' r) (hb : sealOKL n sz es.length args = true) (he : sealL n es args = args') (k : K r (upd h n .gone)) :
    HFnF P f args (upd h n (.row sz (es.map (List.map .v)))) K t := by
  refine HFnF.give n (upd_same _ _ _) (by rw [List.length_map]; exact hb) ?_
  rw [upd_upd, valRows_map, he]
  exact Fn0.call a k
/-- A row of lists of numbers, whose last list is an own row still. -/
theorem wk_ints {h g : Heap} {m b : Nat} (rows : List (List Int)) (s : List Int) (hm : h m = some (.row 1 ((s.map fun n => [I n]).map (List.map .v)))) (hb : h b = some (.row 1 ((rows.map fun s => [ints s]).map (List.map .v) ++ [[.v (.os m 1 0 s.length)]]))) (hne : ¬ b = m)
    (hg : g.le (upd (upd h m .gone) b (.row 1 (((rows ++ [s]).map fun s => [ints s]).map (List.map .v))))) : g.wk h := by
  have hat : ∀ (es : List (List Cell)) i j x, at2 es i j = some x → ∃ e ∈ es, x ∈ e := fun es i j x hx => by
    obtain ⟨e, h1, h2⟩ := at2_some hx
    exact ⟨e, List.mem_of_getElem? h1, List.mem_of_getElem? h2⟩
  have hw := Heap.wk_seal hm hb hne (fun i j x hx => by
    obtain ⟨e, he, hxe⟩ := hat _ i j _ hx
    rcases List.mem_append.1 he with he | he
    · obtain ⟨e1, h1, rfl⟩ := List.mem_map.1 he
      obtain ⟨r, _, rfl⟩ := List.mem_map.1 h1
      simp only [List.map_cons, List.map_nil, List.mem_singleton, Cell.v.injEq] at hxe
      subst hxe; rfl
    · rw [List.mem_singleton.1 he] at hxe
      simp only [List.mem_singleton, Cell.v.injEq] at hxe
      subst hxe
      simp [sealOK])
  refine Heap.wk.trans (Heap.wk_of_le ?_) hw
  have : ((rows.map fun s => [ints s]).map (List.map Cell.v) ++ [[Cell.v (.os m 1 0 s.length)]]).map (List.map (Cell.sealC m (valRows ((s.map fun n => [I n]).map (List.map Cell.v))))) = ((rows ++ [s]).map fun s => [ints s]).map (List.map .v) := by
    rw [row_ints, List.map_append, List.map_append, List.map_append]
    congr 1
    · simp only [List.map_map]
      exact List.map_congr_left fun r _ => rfl
    · simp only [List.map_cons, List.map_nil, Cell.sealC, HVal.sealUp, if_true, List.drop_zero]
      rw [List.take_of_length_le (by rw [List.length_map]; exact Nat.le_refl _)]
  rw [this]
  exact hg
/-- The last value of a row says less. -/
theorem wk_last {h g : Heap} {b : Nat} {A : List (List Cell)} {x y : HVal} (hb : h b = some (.row 1 (A ++ [[.v x]]))) (s : Sub x y) (hg : g.le (upd h b (.row 1 (A ++ [[.v y]])))) : g.wk h :=
  Heap.wk.trans (Heap.wk_of_le hg) (Heap.wk_row (m := b) (fun q hq => upd_ne _ _ _ _ hq) hb (upd_same _ _ _) (RowsWk.sub (.cons s .nil) A))
def keep139 : List Nat := [0, 2, 3, 5, 7, 8, 9, 10]
def ib139 : List Nat := [6, 15, 16]
def mk139 : Marks := fun _ => ([], .nil, [])
set_option maxRecDepth 100000 in
theorem singles (l : List Int) (hl : l.length ≤ 1048576) : Fn0 Tryz.prog 139 [ints l] (intss (l.map fun n => [n])) := by
  refine fn0S 20 keep139 ib139 mk139 mix Tryz.func139 rfl (by kernel_rfl) (by simp) fun h => ?_
  simp (maxSteps := 1000000) -dsimp -implicitDefEqProofs only [go_sem, ↓reduceIte, keep139, ib139, mk139, Tryz.f139]
  refine ⟨Nat.zero_lt_one, fun _ => ?_⟩
  refine loopW (keep := keep139) (ib := ib139) (mk := mk139) mix (by kernel_rfl) (fun x : Nat × Option Nat => [(3, oval 1 (l.take x.1).length x.2), (7, ints l), (8, I l.length), (9, I x.1)]) (fun x => oheap h (.row 1 ((((l.take x.1).map fun n => [n]).map fun s => [ints s]).map (List.map .v))) x.2) (fun x => x.1 ≤ l.length ∧ oside h (l.take x.1) x.2) (fun x => l.length - x.1) (0, none) ⟨by simp [SatL, tget, oval], by simp only [oheap_none]; exact Heap.wk_of_le (Heap.le_refl _), Nat.zero_le _, by simp [oside]⟩ ?_
  rintro ⟨k, o⟩ ⟨hk, hos⟩
  simp only at hk hos ⊢
  rcases Nat.lt_or_ge k l.length with hlt | hge
  · have ea : l[k]? = some l[k] := List.getElem?_eq_getElem hlt
    have hy : l.take (k + 1) = l.take k ++ [l[k]] := List.take_succ_eq_append_getElem hlt
    have hlk : (l.take k).length = k := by rw [List.length_take]; omega
    cases o with
    | none =>
      rw [oside_none] at hos
      rw [hos] at hy ⊢
      simp (maxSteps := 1000000) -dsimp -implicitDefEqProofs only [go_sem, ↓reduceIte, keep139, ib139, mk139, Tryz.f139, oval_none, oheap_none, hlt, ea]
      refine ⟨Nat.zero_lt_one, Nat.zero_lt_one, Nat.zero_lt_one, Nat.zero_lt_one, Nat.zero_lt_one, fun b hb => ⟨(k + 1, some b), ?_⟩⟩
      simp only [hy]
      refine ⟨⟨rfl, by rw [IntWalk.i64_in _ (by omega)]; rfl⟩, wk_last (A := []) (x := .sl 1 [[I l[k]]] true) (y := ints [l[k]]) (upd_same _ _ _) (Sub.loose _ _ _) (by rw [upd_upd]; exact Heap.le_refl _), ⟨by omega, hb⟩, by omega⟩
    | some n =>
      rw [oside_some] at hos
      simp (maxSteps := 1000000) -dsimp -implicitDefEqProofs only [go_sem, ↓reduceIte, keep139, ib139, mk139, Tryz.f139, oval_some, oheap_some, hlt, ea]
      refine ⟨Nat.zero_lt_one, Nat.zero_lt_one, Nat.zero_lt_one, Nat.zero_lt_one, Nat.zero_lt_one, Nat.le_refl _, by omega, by omega, fun b hb => ⟨(k + 1, some b), ?_⟩⟩
      simp only [hy, oheap_some, oval_some, oside_some]
      refine ⟨⟨by rw [List.length_append]; rfl, by rw [IntWalk.i64_in _ (by omega)]; rfl⟩, wk_last (x := .sl 1 [[I l[k]]] true) (y := ints [l[k]]) (upd_same _ _ _) (Sub.loose _ _ _) ?_, ⟨by omega, hb.2⟩, by omega⟩
      have hl2 : (l.take k).length = ((l.take k).map fun n => [n]).length := by rw [List.length_map]
      rw [upd_upd, List.map_append, show ((l.take k).map fun n => [n]) ++ [l[k]].map (fun n => [n]) = ((l.take k).map fun n => [n]) ++ [[l[k]]] from rfl, ← grow_row ints, hl2]
      exact le_app hos
  · have hk' : k = l.length := by omega
    subst hk'
    rw [List.take_length] at hos ⊢
    cases o with
    | none =>
      rw [oside_none] at hos
      simp (maxSteps := 1000000) -dsimp -implicitDefEqProofs only [go_sem, ↓reduceIte, keep139, ib139, mk139, Tryz.f139, oval_none, oheap_none, Nat.lt_irrefl, Int.lt_irrefl]
      subst hos
      exact Shift.of (Sub.loose _ _ _) (Heap.le_refl _)
    | some n =>
      rw [oside_some] at hos
      simp (maxSteps := 1000000) -dsimp -implicitDefEqProofs only [go_sem, ↓reduceIte, keep139, ib139, mk139, Tryz.f139, oval_some, oheap_some, Nat.lt_irrefl, Int.lt_irrefl]
      exact shift_intss _ hos (Heap.le_refl _) (by rw [List.length_map])
def keep170 : List Nat := [0, 2, 3, 5, 7, 8, 9, 10]
def ib170 : List Nat := [6, 17]
def mk170 : Marks := fun _ => ([], .nil, [])
set_option maxRecDepth 100000 in
theorem firsts (l : List (List Int)) (hl : l.length ≤ 1048576) (hne : ∀ s ∈ l, 0 < s.length) : Fn0 Tryz.prog 170 [intss l] (ints (l.map fun s => s.getD 0 0)) := by
  have hc : (l.map fun s => s.getD 0 0).length = l.length := List.length_map _
  refine fn0S 21 keep170 ib170 mk170 mix Tryz.func170 rfl (by kernel_rfl) (by simp) fun h => ?_
  simp (maxSteps := 1000000) -dsimp -implicitDefEqProofs only [go_sem, ↓reduceIte, keep170, ib170, mk170, Tryz.f170]
  refine ⟨Nat.zero_lt_one, fun _ => ?_⟩
  refine loopF (keep := keep170) (ib := ib170) (mk := mk170) mix (by kernel_rfl) (fun x : Nat × Option Nat => [(7, intss l), (8, I l.length), (3, oval 1 ((l.map fun s => s.getD 0 0).take x.1).length x.2), (9, I x.1)]) (fun x => oheap h (.row 1 ((((l.map fun s => s.getD 0 0).take x.1).map fun n => [I n]).map (List.map .v))) x.2) (fun x => x.1 ≤ l.length ∧ oside h ((l.map fun s => s.getD 0 0).take x.1) x.2) (fun x => l.length - x.1) (0, none) ⟨by simp [SatL, tget, oval], by simp only [oheap_none]; exact Heap.le_refl _, Nat.zero_le _, by simp [oside]⟩ ?_
  rintro ⟨k, o⟩ ⟨hk, hos⟩
  simp only at hk hos ⊢
  rcases Nat.lt_or_ge k l.length with hlt | hge
  · have ea : l[k]? = some l[k] := List.getElem?_eq_getElem hlt
    have h0 := hne _ (List.getElem_mem hlt)
    have e0 : (l[k])[Int.toNat 0]? = some (l[k].getD 0 0) := getD_get h0
    have hy : (l.map fun s => s.getD 0 0).take (k + 1) = (l.map fun s => s.getD 0 0).take k ++ [(l.map fun s => s.getD 0 0)[k]'(by omega)] := List.take_succ_eq_append_getElem (by omega)
    have hlk : ((l.map fun s => s.getD 0 0).take k).length = k := by rw [List.length_take]; omega
    rw [List.getElem_map] at hy
    cases o with
    | none =>
      rw [oside_none] at hos
      rw [hos] at hy ⊢
      simp (maxSteps := 1000000) -dsimp -implicitDefEqProofs only [go_sem, ↓reduceIte, keep170, ib170, mk170, Tryz.f170, oval_none, oheap_none, hlt, ea, e0]
      repeat' (with_reducible first | intro _ | refine And.intro ?_ ?_)
      all_goals try (first | omega | decide)
      rename_i b hb
      refine ⟨(k + 1, some b), ?_⟩
      simp only [hy]
      refine ⟨⟨rfl, ?_⟩, Heap.le_refl _, ⟨by omega, hb⟩, by omega⟩
      rw [IntWalk.i64_in _ (by omega)]; rfl
    | some n =>
      rw [oside_some] at hos
      simp (maxSteps := 1000000) -dsimp -implicitDefEqProofs only [go_sem, ↓reduceIte, keep170, ib170, mk170, Tryz.f170, oval_some, oheap_some, hlt, ea, e0]
      repeat' (with_reducible first | intro _ | refine And.intro ?_ ?_)
      all_goals try (first | omega | decide | exact Nat.le_refl _)
      rename_i b hb
      refine ⟨(k + 1, some b), ?_⟩
      simp only [hy, oheap_some, oval_some, oside_some]
      refine ⟨⟨by rw [List.length_append]; rfl, ?_⟩, ?_, ⟨by omega, hb.2⟩, by omega⟩
      · rw [IntWalk.i64_in _ (by omega)]; rfl
      · rw [← grow_row]; exact le_app hos
  · have hk' : k = l.length := by omega
    subst hk'
    rw [List.take_of_length_le (by omega)] at hos ⊢
    cases o with
    | none =>
      rw [oside_none] at hos
      simp (maxSteps := 1000000) -dsimp -implicitDefEqProofs only [go_sem, ↓reduceIte, keep170, ib170, mk170, Tryz.f170, oval_none, oheap_none, Nat.lt_irrefl, Int.lt_irrefl]
      rw [hos]
      exact Shift.of (Sub.loose _ _ _) (Heap.le_refl _)
    | some n =>
      rw [oside_some] at hos
      simp (maxSteps := 1000000) -dsimp -implicitDefEqProofs only [go_sem, ↓reduceIte, keep170, ib170, mk170, Tryz.f170, oval_some, oheap_some, Nat.lt_irrefl, Int.lt_irrefl]
      exact shift_ints _ hos (Heap.le_refl _) hc.symm
open Go.Proofs
set_option linter.unusedVariables false
set_option linter.unusedSimpArgs false
def evRes (X : Out (List (List Int))) : List (List Int) × Int × Int := match X with
  | .ok (vs, t) => (vs, t, 0)
  | .error c => ([], 0, c)
theorem evRes_of {X : Out (List (List Int))} {l : List (List Int)} {t : Nat} {c : Int} (h : outR X l t c) : evRes X = if c = 0 then (l, (t : Int), 0) else ([], 0, c) := by
  cases X with
  | ok p =>
    obtain ⟨w, u⟩ := p
    obtain ⟨rfl, rfl, rfl⟩ := h
    rfl
  | error d =>
    obtain ⟨rfl, h⟩ := h
    rw [if_neg h]; rfl
theorem cloneS (l : List Int) (hl : l.length ≤ 1048576) : Fn0 Tryz.prog 142 [ints l] (ints l) := seal1 (cloneI l hl)
def keep138 : List Nat := [0, 1, 2, 3, 4, 8, 9, 10, 11, 12, 13, 15, 33, 39, 40, 41, 42]
def ib138 : List Nat := [4, 38, 48]
def mk138 : Marks := fun id => match id with | 4 => ([3], (.op 0 (.op 1 (.op 2 (.op 3 (.op 4 (.op 5 (.op 6 .nil))))))), []) | 11 => ([4], (.op 0 (.op 1 (.op 2 (.op 3 (.op 4 (.op 5 (.op 6 (.op 7 .nil)))))))), []) | _ => ([], .nil, [])
set_option maxRecDepth 100000 in
theorem evaluated {p : DProgram} (hp : p.ok) {sz : Nat} (hsz : 1 ≤ sz ∧ sz ≤ 1048576) (f : Int) (hf : 0 ≤ f ∧ f < p.fFuncs.length) (args : List (List Int)) (ha : ∀ s ∈ args, serOK sz s) (hl : ∀ F, p.fFuncs[f.toNat]? = some F → (args.length : Int) = F.fParams) :
    Fn0 Tryz.prog 138 [.agg p.c, I f, intss args, I ((sz : Int) - 1)] (.tup [intss (evRes (evF p sz f args)).1, I (evRes (evF p sz f args)).2.1, I (evRes (evF p sz f args)).2.2]) := by
  obtain ⟨F, ef, hF1, hF2, hF3, hF4⟩ := func_ok hp hf
  have hlF := hl F ef
  rw [DProgram.c_eq]
  refine fn0S 56 keep138 ib138 mk138 mix Tryz.func138 rfl (by kernel_rfl) (by simp) fun h => ?_
  simp (maxSteps := 1000000) -dsimp -implicitDefEqProofs only [go_sem, ↓reduceIte, keep138, ib138, mk138, Tryz.f138, ef, DFunc.c_eq]
  intro nb zb
  refine ⟨hf.1, by omega, ?_⟩
  refine HFnF.mkH (all_of (value hp hsz 3001) (upd h nb (evBox p sz 0 0)) nb 0 0 F.fOuts args f (upd_same _ _ _) (by omega) (by omega) (by omega) (by rw [hlF]; exact hF4) hf.1 (by omega) ha (by omega)) ?_
  rintro r h' ⟨vs, t, c, rfl, rfl, hvl, hvs, a1, a2, a3⟩
  rw [runE_zero, ← hF3] at a3
  rw [evRes_of (show outR (evF p sz f args) vs t c from a3)]
  rw [upd_upd]
  have hBn : (upd h nb (evBox p sz t c)) nb = some (.row 4 [[.v (sls 3 DFunc.c p.fFuncs), .v (I ((sz : Int) - 1)), .v (I t), .v (I c)]]) := upd_same _ _ _
  have hBl : h.le (upd h nb (evBox p sz t c)) := Heap.le_upd zb (Heap.le_refl _)
  generalize upd h nb (evBox p sz t c) = hB at hBn hBl ⊢
  simp (maxSteps := 1000000) -dsimp -implicitDefEqProofs only [go_sem, ↓reduceIte, keep138, ib138, mk138, Tryz.f138, hBn]
  refine ⟨fun hc => ?_, fun hc => ?_⟩
  · have hc' : ¬ c = 0 := by simpa using hc
    rw [if_neg hc']
    exact Shift.of (Sub.tup (.cons (Sub.nil 1 false) (.cons (.refl _) (.cons (.refl _) .nil)))) hBl
  · have hc' : c = 0 := by simpa using hc
    subst hc'
    rw [if_pos rfl]
    refine ⟨Nat.zero_lt_one, fun _ => ?_⟩
    refine loopF (keep := keep138) (ib := ib138) (mk := mk138) mix (by kernel_rfl) (fun x : Nat × Option Nat => [(11, .op nb 4 0 0), (13, oval 1 (vs.take x.1).length x.2), (39, intss vs), (40, I vs.length), (41, I x.1)]) (fun x => oheap hB (.row 1 (((vs.take x.1).map fun s => [ints s]).map (List.map .v))) x.2) (fun x => x.1 ≤ vs.length ∧ oside hB (vs.take x.1) x.2) (fun x => vs.length - x.1) (0, none) ⟨by simp [SatL, tget, oval], by simp only [oheap_none]; exact Heap.le_refl _, Nat.zero_le _, by simp [oside]⟩ ?_
    rintro ⟨k, o⟩ ⟨hk, hos⟩
    simp only at hk hos ⊢
    rcases Nat.lt_or_ge k vs.length with hlt | hge
    · have ea : vs[k]? = some vs[k] := List.getElem?_eq_getElem hlt
      have hy : vs.take (k + 1) = vs.take k ++ [vs[k]] := List.take_succ_eq_append_getElem hlt
      have hlk : (vs.take k).length = k := by rw [List.length_take]; omega
      have hsk := hvs _ (List.getElem_mem hlt)
      cases o with
      | none =>
        rw [oside_none] at hos
        rw [hos] at hy ⊢
        simp (maxSteps := 1000000) -dsimp -implicitDefEqProofs only [go_sem, ↓reduceIte, keep138, ib138, mk138, Tryz.f138, oval_none, oheap_none, hlt, ea]
        first | refine HFnF.mk (cloneS vs[k] (by rw [hsk.1]; omega)) ?_ | refine CallSF.mk (cloneS vs[k] (by rw [hsk.1]; omega)) ?_ | refine HFnF.mkAt (cloneS vs[k] (by rw [hsk.1]; omega)) ?_ | refine CallSF.mk (FnAt.fn0 (cloneS vs[k] (by rw [hsk.1]; omega))) ?_
        simp (maxSteps := 1000000) -dsimp -implicitDefEqProofs only [go_sem, ↓reduceIte, keep138, ib138, mk138, Tryz.f138]
        repeat' (with_reducible first | intro _ | refine And.intro ?_ ?_)
        all_goals try (first | omega | decide)
        rename_i b hb
        refine ⟨(k + 1, some b), ?_⟩
        simp only [hy]
        refine ⟨⟨rfl, ?_⟩, Heap.le_refl _, ⟨by omega, hb⟩, by omega⟩
        rw [IntWalk.i64_in _ (by omega)]; rfl
      | some n =>
        rw [oside_some] at hos
        simp (maxSteps := 1000000) -dsimp -implicitDefEqProofs only [go_sem, ↓reduceIte, keep138, ib138, mk138, Tryz.f138, oval_some, oheap_some, hlt, ea]
        first | refine HFnF.mk (cloneS vs[k] (by rw [hsk.1]; omega)) ?_ | refine CallSF.mk (cloneS vs[k] (by rw [hsk.1]; omega)) ?_ | refine HFnF.mkAt (cloneS vs[k] (by rw [hsk.1]; omega)) ?_ | refine CallSF.mk (FnAt.fn0 (cloneS vs[k] (by rw [hsk.1]; omega))) ?_
        simp (maxSteps := 1000000) -dsimp -implicitDefEqProofs only [go_sem, ↓reduceIte, keep138, ib138, mk138, Tryz.f138]
        repeat' (with_reducible first | intro _ | refine And.intro ?_ ?_)
        all_goals try (first | omega | decide | exact Nat.le_refl _)
        rename_i b hb
        refine ⟨(k + 1, some b), ?_⟩
        simp only [hy, oheap_some, oval_some, oside_some]
        refine ⟨⟨by rw [List.length_append]; rfl, ?_⟩, ?_, ⟨by omega, hb.2⟩, by omega⟩
        · rw [IntWalk.i64_in _ (by omega)]; rfl
        · rw [← grow_row]; exact le_app hos
    · have hk' : k = vs.length := by omega
      subst hk'
      rw [List.take_length] at hos ⊢
      cases o with
      | none =>
        rw [oside_none] at hos
        subst hos
        simp (maxSteps := 1000000) -dsimp -implicitDefEqProofs only [go_sem, ↓reduceIte, keep138, ib138, mk138, Tryz.f138, oval_none, oheap_none, Nat.lt_irrefl, hBn]
        exact Shift.of (Sub.tup (.cons (Sub.loose _ _ _) (.cons (.refl _) (.cons (.refl _) .nil)))) hBl
      | some n =>
        rw [oside_some] at hos
        have d_n_nb : ¬ n = nb := fun e => by rw [e, hBn] at hos; cases hos
        have d_nb_n : ¬ nb = n := Ne.symm d_n_nb
        have e_n_nb : (n = nb) = False := eq_false d_n_nb
        have e_nb_n : (nb = n) = False := eq_false d_nb_n
        simp (maxSteps := 1000000) -dsimp -implicitDefEqProofs only [go_sem, ↓reduceIte, keep138, ib138, mk138, Tryz.f138, oval_some, oheap_some, Nat.lt_irrefl, upd_ne, e_n_nb, e_nb_n, hBn]
        refine Shift.trans (shift_seal (vs.map fun s => [ints s]) hos (Heap.le_refl _) (by simp [sealOK, sealOKL]) ?_) (shift_le hBl)
        simp [HVal.sealUp, sealL, List.take_of_length_le]
def keep175 : List Nat := [0, 1, 4, 5, 7, 10, 11, 12, 13]
def ib175 : List Nat := []
def mk175 : Marks := fun _ => ([], .nil, [])
set_option maxRecDepth 100000 in
theorem unit0 (n : Nat) (hn : n ≤ 1048576) : Fn0 Tryz.prog 175 [I n, .nilsl] (ints (List.replicate n 0)) := by
  refine fn0S 27 keep175 ib175 mk175 mix Tryz.func175 rfl (by kernel_rfl) (by simp) fun h => ?_
  simp (maxSteps := 1000000) -dsimp -implicitDefEqProofs only [go_sem, ↓reduceIte, keep175, ib175, mk175, Tryz.f175]
  refine ⟨Nat.zero_lt_one, by omega, by omega, by omega, fun m hm => ?_⟩
  rw [rowZero]
  refine loopSame (keep := keep175) (ib := ib175) (mk := mk175) mix (by kernel_rfl) (fun _ : Unit => [(5, .os m 1 0 n), (10, .nilsl), (11, I 0), (12, I 0)]) (fun _ => True) (fun _ => 0) () ⟨by simp [SatL, tget], trivial⟩ ?_
  intro _ _
  simp (maxSteps := 1000000) -dsimp -implicitDefEqProofs only [go_sem, ↓reduceIte, keep175, ib175, mk175, Tryz.f175, Int.lt_irrefl]
  exact shift_ints _ hm (Heap.le_refl _) (by rw [List.length_replicate])
set_option maxRecDepth 100000 in
theorem unit1 (n i : Nat) (hn : n ≤ 1048576) (hi : i < n) : Fn0 Tryz.prog 175 [I n, .sl 1 [[I i]] true] (ints ((List.replicate n 0).set i 1)) := by
  refine fn0S 27 keep175 ib175 mk175 mix Tryz.func175 rfl (by kernel_rfl) (by simp) fun h => ?_
  simp (maxSteps := 1000000) -dsimp -implicitDefEqProofs only [go_sem, ↓reduceIte, keep175, ib175, mk175, Tryz.f175]
  refine ⟨Nat.zero_lt_one, by omega, by omega, by omega, fun m hm => ?_⟩
  rw [rowZero]
  refine loopRow (keep := keep175) (ib := ib175) (mk := mk175) mix (by kernel_rfl) (fun k : Nat => [(5, .os m 1 0 n), (10, .sl 1 [[I i]] true), (11, I 1), (12, I k)]) m (fun k => .row 1 (((if k = 0 then List.replicate n (0 : Int) else (List.replicate n 0).set i 1).map fun n => [I n]).map (List.map .v))) (fun k => k ≤ 1) (fun k => 1 - k) 0 ⟨by simp [SatL, tget], by rw [upd_same, if_pos rfl], Nat.zero_le _⟩ ?_
  intro k hk
  rcases Nat.lt_or_ge k 1 with hlt | hge
  · have : k = 0 := by omega
    subst this
    have e1 : (List.replicate n (0 : Int))[i]? = some 0 := by rw [List.getElem?_replicate, if_pos hi]
    rw [if_pos rfl]
    simp (maxSteps := 1000000) -dsimp -implicitDefEqProofs only [go_sem, ↓reduceIte, keep175, ib175, mk175, Tryz.f175, upd_upd, e1, List.length_replicate, Int.toNat_natCast]
    refine ⟨fun _ => ⟨Nat.zero_lt_one, hi, hi, 1, by decide, ?_, by omega, by omega⟩, fun q => absurd (by decide) q⟩
    rw [if_neg (by decide), show (IntKind.i64.wrap (0 + 1)).tmod 1000003 = 1 by decide, ← rowSet I]
    exact Heap.le_refl _
  · have : k = 1 := by omega
    subst this
    rw [if_neg (by decide)]
    simp (maxSteps := 1000000) -dsimp -implicitDefEqProofs only [go_sem, ↓reduceIte, keep175, ib175, mk175, Tryz.f175, Int.lt_irrefl]
    refine ⟨fun q => absurd q (by decide), fun _ => ?_⟩
    rw [upd_upd]
    exact shift_ints ((List.replicate n 0).set i 1) hm (Heap.le_refl _) (by rw [List.length_set, List.length_replicate])
def lineL (args dir : List Int) : List (List Int) := List.zipWith (fun a d => [a, d]) args dir
theorem w2 : IntKind.i64.wrap (1 + 1) = 2 := by decide
theorem n0 : Int.toNat 0 = 0 := rfl
theorem n1 : Int.toNat 1 = 1 := rfl
theorem n2 : Int.toNat 2 = 2 := rfl
theorem rep2 (x : List HVal) : List.replicate 2 x = [x, x] := rfl
def keep274 : List Nat := [0, 1, 2, 3, 4, 5, 10, 11, 12, 13, 14, 15, 16, 18, 20, 21, 22, 23, 34]
def ib274 : List Nat := [5, 19, 43]
def mk274 : Marks := fun _ => ([], .nil, [])
set_option maxRecDepth 100000 in
theorem along1 {p : DProgram} (hp : p.ok) (f : Int) (hf : 0 ≤ f ∧ f < p.fFuncs.length) (args dir : List Int) (hd : dir.length = args.length) (hal : args.length ≤ 1048576) (na : Nums args) (nd : Nums dir) (hl : ∀ F, p.fFuncs[f.toNat]? = some F → (args.length : Int) = F.fParams) :
    Fn0 Tryz.prog 274 [.agg p.c, I f, ints args, ints dir, I 1] (.tup [intss (evRes (evF p 2 f (lineL args dir))).1, I (evRes (evF p 2 f (lineL args dir))).2.2]) := by
  rw [DProgram.c_eq]
  refine fn0S 57 keep274 ib274 mk274 mix Tryz.func274 rfl (by kernel_rfl) (by simp) fun h => ?_
  simp (maxSteps := 1000000) -dsimp -implicitDefEqProofs only [go_sem, ↓reduceIte, keep274, ib274, mk274, Tryz.f274]
  refine ⟨Nat.zero_lt_one, fun _ => ?_⟩
  have hc : (lineL args dir).length = args.length := by simp [lineL, hd]
  refine loopW (keep := keep274) (ib := ib274) (mk := mk274) mix (by kernel_rfl) (fun x : Nat × Option Nat => [(1, I f), (3, ints dir), (4, I 1), (5, .ip 1 [[sls 3 DFunc.c p.fFuncs]] 0 0), (12, oval 1 ((lineL args dir).take x.1).length x.2), (20, ints args), (21, I args.length), (22, I x.1)]) (fun x => oheap h (.row 1 ((((lineL args dir).take x.1).map fun s => [ints s]).map (List.map .v))) x.2) (fun x => x.1 ≤ args.length ∧ oside h ((lineL args dir).take x.1) x.2) (fun x => args.length - x.1) (0, none) ⟨by simp [SatL, tget, oval], by simp only [oheap_none]; exact Heap.wk_of_le (Heap.le_refl _), Nat.zero_le _, by simp [oside]⟩ ?_
  rintro ⟨k, o⟩ ⟨hk, hos⟩
  simp only at hk hos ⊢
  rcases Nat.lt_or_ge k args.length with hlt | hge
  · have ea : args[k]? = some args[k] := List.getElem?_eq_getElem hlt
    have ed : dir[k]? = some (dir[k]'(by omega)) := List.getElem?_eq_getElem (by omega)
    have hy : (lineL args dir).take (k + 1) = (lineL args dir).take k ++ [(lineL args dir)[k]'(by omega)] := List.take_succ_eq_append_getElem (by omega)
    have hv : (lineL args dir)[k]'(by omega) = [args[k], dir[k]'(by omega)] := by simp [lineL]
    have hlk : ((lineL args dir).take k).length = k := by rw [List.length_take]; omega
    rw [hv] at hy
    cases o with
    | none =>
      rw [oside_none] at hos
      rw [hos] at hy ⊢
      simp (maxSteps := 1000000) -dsimp -implicitDefEqProofs only [go_sem, ↓reduceIte, keep274, ib274, mk274, Tryz.f274, oval_none, oheap_none, hlt, ea, ed, w2, n0, n1, n2, rep2, upd_upd]
      refine ⟨Nat.zero_lt_one, by decide, fun m z_m => ⟨by decide, fun _ => ⟨by omega, by decide, Nat.zero_lt_one, Nat.zero_lt_one, Nat.zero_lt_one, ?_⟩, fun q => absurd (by decide) q⟩⟩
      intro b q_b
      have d_b_m : ¬ b = m := by first | exact q_b.1 | exact q_b | exact q_b.2.1 | exact q_b.2 | exact q_b.2.2.1 | exact q_b.2.2 | exact q_b.2.2.2.1 | exact q_b.2.2.2 | exact q_b.2.2.2.2.1 | exact q_b.2.2.2.2 | exact q_b.2.2.2.2.2.1 | exact q_b.2.2.2.2.2 | exact q_b.2.2.2.2.2.2.1 | exact q_b.2.2.2.2.2.2 | exact q_b.2.2.2.2.2.2.2.1 | exact q_b.2.2.2.2.2.2.2 | exact q_b.2.2.2.2.2.2.2.2.1 | exact q_b.2.2.2.2.2.2.2.2 | exact q_b.2.2.2.2.2.2.2.2.2.1 | exact q_b.2.2.2.2.2.2.2.2.2 | exact q_b.2.2.2.2.2.2.2.2.2.2.1 | exact q_b.2.2.2.2.2.2.2.2.2.2 | exact q_b.2.2.2.2.2.2.2.2.2.2.2.1 | exact q_b.2.2.2.2.2.2.2.2.2.2.2 | exact q_b.2.2.2.2.2.2.2.2.2.2.2.2.1 | exact q_b.2.2.2.2.2.2.2.2.2.2.2.2 | exact q_b.2.2.2.2.2.2.2.2.2.2.2.2.2.1 | exact q_b.2.2.2.2.2.2.2.2.2.2.2.2.2
      have e_b_m : (b = m) = False := eq_false d_b_m
      have e_m_b : (m = b) = False := eq_false (Ne.symm d_b_m)
      have d_m_b : ¬ m = b := Ne.symm d_b_m
      have z_b : h b = none := by first | exact q_b.1 | exact q_b | exact q_b.2.1 | exact q_b.2 | exact q_b.2.2.1 | exact q_b.2.2 | exact q_b.2.2.2.1 | exact q_b.2.2.2 | exact q_b.2.2.2.2.1 | exact q_b.2.2.2.2 | exact q_b.2.2.2.2.2.1 | exact q_b.2.2.2.2.2 | exact q_b.2.2.2.2.2.2.1 | exact q_b.2.2.2.2.2.2 | exact q_b.2.2.2.2.2.2.2.1 | exact q_b.2.2.2.2.2.2.2 | exact q_b.2.2.2.2.2.2.2.2.1 | exact q_b.2.2.2.2.2.2.2.2 | exact q_b.2.2.2.2.2.2.2.2.2.1 | exact q_b.2.2.2.2.2.2.2.2.2 | exact q_b.2.2.2.2.2.2.2.2.2.2.1 | exact q_b.2.2.2.2.2.2.2.2.2.2 | exact q_b.2.2.2.2.2.2.2.2.2.2.2.1 | exact q_b.2.2.2.2.2.2.2.2.2.2.2 | exact q_b.2.2.2.2.2.2.2.2.2.2.2.2.1 | exact q_b.2.2.2.2.2.2.2.2.2.2.2.2 | exact q_b.2.2.2.2.2.2.2.2.2.2.2.2.2.1 | exact q_b.2.2.2.2.2.2.2.2.2.2.2.2.2
      refine ⟨(k + 1, some b), ?_⟩
      simp only [hy]
      refine ⟨⟨rfl, by rw [IntWalk.i64_in _ (by omega)]; rfl⟩, wk_ints (m := m) (b := b) [] [args[k], dir[k]'(by omega)] (by rw [upd_ne _ _ _ _ d_m_b, upd_same]; rfl) (by rw [upd_same]; rfl) d_b_m (by simp only [oheap_some]; exact (leX_nil (by repeat' (first | exact leX_refl _ _ | refine leX_put (by simp only [upd_apply, ↓reduceIte, eq_self, if_true, e_b_m, e_m_b]) ?_ | refine leX_strip (by first | exact .inr (by assumption) | exact .inl (by simp)) ?_)))), ⟨by omega, z_b⟩, by omega⟩
    | some n =>
      rw [oside_some] at hos
      simp (maxSteps := 1000000) -dsimp -implicitDefEqProofs only [go_sem, ↓reduceIte, keep274, ib274, mk274, Tryz.f274, oval_some, oheap_some, hlt, ea, ed, w2, n0, n1, n2, rep2, upd_upd]
      refine ⟨Nat.zero_lt_one, by decide, ?_⟩
      intro m q_m
      have d_m_n : ¬ m = n := by first | exact q_m.1 | exact q_m | exact q_m.2.1 | exact q_m.2 | exact q_m.2.2.1 | exact q_m.2.2 | exact q_m.2.2.2.1 | exact q_m.2.2.2 | exact q_m.2.2.2.2.1 | exact q_m.2.2.2.2 | exact q_m.2.2.2.2.2.1 | exact q_m.2.2.2.2.2 | exact q_m.2.2.2.2.2.2.1 | exact q_m.2.2.2.2.2.2 | exact q_m.2.2.2.2.2.2.2.1 | exact q_m.2.2.2.2.2.2.2 | exact q_m.2.2.2.2.2.2.2.2.1 | exact q_m.2.2.2.2.2.2.2.2 | exact q_m.2.2.2.2.2.2.2.2.2.1 | exact q_m.2.2.2.2.2.2.2.2.2 | exact q_m.2.2.2.2.2.2.2.2.2.2.1 | exact q_m.2.2.2.2.2.2.2.2.2.2 | exact q_m.2.2.2.2.2.2.2.2.2.2.2.1 | exact q_m.2.2.2.2.2.2.2.2.2.2.2 | exact q_m.2.2.2.2.2.2.2.2.2.2.2.2.1 | exact q_m.2.2.2.2.2.2.2.2.2.2.2.2 | exact q_m.2.2.2.2.2.2.2.2.2.2.2.2.2.1 | exact q_m.2.2.2.2.2.2.2.2.2.2.2.2.2
      have e_m_n : (m = n) = False := eq_false d_m_n
      have e_n_m : (n = m) = False := eq_false (Ne.symm d_m_n)
      have d_n_m : ¬ n = m := Ne.symm d_m_n
      have z_m : h m = none := by first | exact q_m.1 | exact q_m | exact q_m.2.1 | exact q_m.2 | exact q_m.2.2.1 | exact q_m.2.2 | exact q_m.2.2.2.1 | exact q_m.2.2.2 | exact q_m.2.2.2.2.1 | exact q_m.2.2.2.2 | exact q_m.2.2.2.2.2.1 | exact q_m.2.2.2.2.2 | exact q_m.2.2.2.2.2.2.1 | exact q_m.2.2.2.2.2.2 | exact q_m.2.2.2.2.2.2.2.1 | exact q_m.2.2.2.2.2.2.2 | exact q_m.2.2.2.2.2.2.2.2.1 | exact q_m.2.2.2.2.2.2.2.2 | exact q_m.2.2.2.2.2.2.2.2.2.1 | exact q_m.2.2.2.2.2.2.2.2.2 | exact q_m.2.2.2.2.2.2.2.2.2.2.1 | exact q_m.2.2.2.2.2.2.2.2.2.2 | exact q_m.2.2.2.2.2.2.2.2.2.2.2.1 | exact q_m.2.2.2.2.2.2.2.2.2.2.2 | exact q_m.2.2.2.2.2.2.2.2.2.2.2.2.1 | exact q_m.2.2.2.2.2.2.2.2.2.2.2.2 | exact q_m.2.2.2.2.2.2.2.2.2.2.2.2.2.1 | exact q_m.2.2.2.2.2.2.2.2.2.2.2.2.2
      refine ⟨by decide, fun _ => ⟨by omega, by decide, Nat.zero_lt_one, Nat.zero_lt_one, Nat.zero_lt_one, ?_⟩, fun q => absurd (by decide) q⟩
      simp (maxSteps := 1000000) -dsimp -implicitDefEqProofs only [go_sem, ↓reduceIte, keep274, ib274, mk274, Tryz.f274, upd_ne, e_n_m, e_m_n]
      refine ⟨Nat.le_refl _, by omega, by omega, ?_⟩
      intro b q_b
      have d_b_n : ¬ b = n := by first | exact q_b.1 | exact q_b | exact q_b.2.1 | exact q_b.2 | exact q_b.2.2.1 | exact q_b.2.2 | exact q_b.2.2.2.1 | exact q_b.2.2.2 | exact q_b.2.2.2.2.1 | exact q_b.2.2.2.2 | exact q_b.2.2.2.2.2.1 | exact q_b.2.2.2.2.2 | exact q_b.2.2.2.2.2.2.1 | exact q_b.2.2.2.2.2.2 | exact q_b.2.2.2.2.2.2.2.1 | exact q_b.2.2.2.2.2.2.2 | exact q_b.2.2.2.2.2.2.2.2.1 | exact q_b.2.2.2.2.2.2.2.2 | exact q_b.2.2.2.2.2.2.2.2.2.1 | exact q_b.2.2.2.2.2.2.2.2.2 | exact q_b.2.2.2.2.2.2.2.2.2.2.1 | exact q_b.2.2.2.2.2.2.2.2.2.2 | exact q_b.2.2.2.2.2.2.2.2.2.2.2.1 | exact q_b.2.2.2.2.2.2.2.2.2.2.2 | exact q_b.2.2.2.2.2.2.2.2.2.2.2.2.1 | exact q_b.2.2.2.2.2.2.2.2.2.2.2.2 | exact q_b.2.2.2.2.2.2.2.2.2.2.2.2.2.1 | exact q_b.2.2.2.2.2.2.2.2.2.2.2.2.2
      have e_b_n : (b = n) = False := eq_false d_b_n
      have e_n_b : (n = b) = False := eq_false (Ne.symm d_b_n)
      have d_n_b : ¬ n = b := Ne.symm d_b_n
      have d_b_m : ¬ b = m := by first | exact q_b.1 | exact q_b | exact q_b.2.1 | exact q_b.2 | exact q_b.2.2.1 | exact q_b.2.2 | exact q_b.2.2.2.1 | exact q_b.2.2.2 | exact q_b.2.2.2.2.1 | exact q_b.2.2.2.2 | exact q_b.2.2.2.2.2.1 | exact q_b.2.2.2.2.2 | exact q_b.2.2.2.2.2.2.1 | exact q_b.2.2.2.2.2.2 | exact q_b.2.2.2.2.2.2.2.1 | exact q_b.2.2.2.2.2.2.2 | exact q_b.2.2.2.2.2.2.2.2.1 | exact q_b.2.2.2.2.2.2.2.2 | exact q_b.2.2.2.2.2.2.2.2.2.1 | exact q_b.2.2.2.2.2.2.2.2.2 | exact q_b.2.2.2.2.2.2.2.2.2.2.1 | exact q_b.2.2.2.2.2.2.2.2.2.2 | exact q_b.2.2.2.2.2.2.2.2.2.2.2.1 | exact q_b.2.2.2.2.2.2.2.2.2.2.2 | exact q_b.2.2.2.2.2.2.2.2.2.2.2.2.1 | exact q_b.2.2.2.2.2.2.2.2.2.2.2.2 | exact q_b.2.2.2.2.2.2.2.2.2.2.2.2.2.1 | exact q_b.2.2.2.2.2.2.2.2.2.2.2.2.2
      have e_b_m : (b = m) = False := eq_false d_b_m
      have e_m_b : (m = b) = False := eq_false (Ne.symm d_b_m)
      have d_m_b : ¬ m = b := Ne.symm d_b_m
      have z_b : h b = none := by first | exact q_b.1 | exact q_b | exact q_b.2.1 | exact q_b.2 | exact q_b.2.2.1 | exact q_b.2.2 | exact q_b.2.2.2.1 | exact q_b.2.2.2 | exact q_b.2.2.2.2.1 | exact q_b.2.2.2.2 | exact q_b.2.2.2.2.2.1 | exact q_b.2.2.2.2.2 | exact q_b.2.2.2.2.2.2.1 | exact q_b.2.2.2.2.2.2 | exact q_b.2.2.2.2.2.2.2.1 | exact q_b.2.2.2.2.2.2.2 | exact q_b.2.2.2.2.2.2.2.2.1 | exact q_b.2.2.2.2.2.2.2.2 | exact q_b.2.2.2.2.2.2.2.2.2.1 | exact q_b.2.2.2.2.2.2.2.2.2 | exact q_b.2.2.2.2.2.2.2.2.2.2.1 | exact q_b.2.2.2.2.2.2.2.2.2.2 | exact q_b.2.2.2.2.2.2.2.2.2.2.2.1 | exact q_b.2.2.2.2.2.2.2.2.2.2.2 | exact q_b.2.2.2.2.2.2.2.2.2.2.2.2.1 | exact q_b.2.2.2.2.2.2.2.2.2.2.2.2 | exact q_b.2.2.2.2.2.2.2.2.2.2.2.2.2.1 | exact q_b.2.2.2.2.2.2.2.2.2.2.2.2.2
      refine ⟨(k + 1, some b), ?_⟩
      simp only [hy, oheap_some, oval_some, oside_some]
      refine ⟨⟨by rw [List.length_append]; rfl, by rw [IntWalk.i64_in _ (by omega)]; rfl⟩, wk_ints (m := m) (b := b) ((lineL args dir).take k) [args[k], dir[k]'(by omega)] (by simp only [upd_apply, e_b_m, e_b_n, e_m_b, e_m_n, e_n_b, e_n_m, ↓reduceIte]; rfl) ?_ d_b_m (leX_nil (by repeat' (first | exact leX_refl _ _ | refine leX_put (by simp only [upd_apply, ↓reduceIte, eq_self, if_true, e_b_m, e_b_n, e_m_b, e_m_n, e_n_b, e_n_m]) ?_ | refine leX_strip (by first | exact .inr (by assumption) | exact .inl (by simp)) ?_))), ⟨by omega, z_b⟩, by omega⟩
      rw [upd_same, List.take_of_length_le (by simp)]
      rfl
  · have hk' : k = args.length := by omega
    subst hk'
    rw [List.take_of_length_le (by omega)] at hos ⊢
    have hev := evaluated hp (sz := 2) (by decide) f hf (lineL args dir) (fun s hs => by
      obtain ⟨i, hi, rfl⟩ := List.mem_iff_getElem.1 hs
      simp only [lineL, List.getElem_zipWith]
      refine ⟨rfl, fun x hx => ?_⟩
      simp only [List.mem_cons, List.not_mem_nil, or_false] at hx
      rcases hx with rfl | rfl
      · exact na _ (List.getElem_mem _)
      · exact nd _ (List.getElem_mem _)) (fun F hF => by rw [hc]; exact hl F hF)
    rw [show (((2 : Nat) : Int) - 1) = 1 from rfl, DProgram.c_eq] at hev
    cases o with
    | none =>
      rw [oside_none] at hos
      simp (maxSteps := 1000000) -dsimp -implicitDefEqProofs only [go_sem, ↓reduceIte, keep274, ib274, mk274, Tryz.f274, oval_none, oheap_none, Nat.lt_irrefl, Int.lt_irrefl]
      refine HFnF.mk (Fn0.sub (.cons (.refl _) (.cons (.refl _) (.cons ?_ (.cons (.refl _) .nil)))) hev) ?_
      · rw [hos]; exact Sub.loose _ _ _
      simp (maxSteps := 1000000) -dsimp -implicitDefEqProofs only [go_sem, ↓reduceIte, keep274, ib274, mk274, Tryz.f274]
      exact shift_self _ _
    | some n =>
      rw [oside_some] at hos
      simp (maxSteps := 1000000) -dsimp -implicitDefEqProofs only [go_sem, ↓reduceIte, keep274, ib274, mk274, Tryz.f274, oval_some, oheap_some, Nat.lt_irrefl, Int.lt_irrefl]
      refine HFnF.give0 (es := (lineL args dir).map fun s => [ints s]) hev (by simp [sealOKL, sealOK]) ?_ ?_
      · simp [sealL, HVal.sealUp, List.take_of_length_le]
      simp (maxSteps := 1000000) -dsimp -implicitDefEqProofs only [go_sem, ↓reduceIte, keep274, ib274, mk274, Tryz.f274]
      exact shift_le (Heap.le_upd hos (Heap.le_refl _))
theorem lineL_len {args dir : List Int} (hd : dir.length = args.length) : (lineL args dir).length = args.length := by simp [lineL, hd]
theorem lineL_ser {args dir : List Int} (na : Nums args) (nd : Nums dir) : ∀ s ∈ lineL args dir, serOK 2 s := fun s hs => by
  obtain ⟨i, hi, rfl⟩ := List.mem_iff_getElem.1 hs
  simp only [lineL, List.getElem_zipWith]
  refine ⟨rfl, fun x hx => ?_⟩
  simp only [List.mem_cons, List.not_mem_nil, or_false] at hx
  rcases hx with rfl | rfl
  · exact na _ (List.getElem_mem _)
  · exact nd _ (List.getElem_mem _)
theorem evRes_ser {X : Out (List (List Int))} {sz n : Nat} (h : okP (fun l => serL sz n l) X) : (∀ s ∈ (evRes X).1, serOK sz s) ∧ (evRes X).1.length ≤ n := by
  cases X with
  | ok p =>
    obtain ⟨v, t⟩ := p
    have := h v t rfl
    exact ⟨this.2, Nat.le_of_eq this.1⟩
  | error c => exact ⟨(fun s hs => by cases hs), Nat.zero_le _⟩
theorem line_ser {p : DProgram} (hp : p.ok) (f : Int) (hf : 0 ≤ f ∧ f < p.fFuncs.length) (args dir : List Int) (hd : dir.length = args.length) (na : Nums args) (nd : Nums dir) (hl : ∀ F, p.fFuncs[f.toNat]? = some F → (args.length : Int) = F.fParams) :
    (∀ s ∈ (evRes (evF p 2 f (lineL args dir))).1, serOK 2 s) ∧ (evRes (evF p 2 f (lineL args dir))).1.length ≤ 1048576 := by
  have h := evRes_ser (evF_ser hp (sz := 2) (by omega) f hf (lineL args dir) (lineL_ser na nd) (fun F hF => by rw [lineL_len hd]; exact hl F hF))
  obtain ⟨F, ef, hF1, hF2, hF3, hF4⟩ := func_ok hp hf
  refine ⟨h.1, ?_⟩
  have := h.2
  rw [hF3] at this
  omega
/-- What the directional derivative hands back. -/
def dirRes (X : List (List Int) × Int × Int) : List Int × List Int × Int := if X.2.2 = 0 then (X.1.map (·.getD 0 0), X.1.map (·.getD 1 0), 0) else ([], [], X.2.2)
def keep232 : List Nat := [0, 1, 2, 3, 4, 8, 9, 10, 11, 12, 13, 15, 25, 28, 29, 30, 31]
def ib232 : List Nat := [4, 27, 38]
def mk232 : Marks := fun _ => ([], .nil, [])
set_option maxRecDepth 100000 in
theorem directional {p : DProgram} (hp : p.ok) (f : Int) (hf : 0 ≤ f ∧ f < p.fFuncs.length) (args dir : List Int) (hd : dir.length = args.length) (hal : args.length ≤ 1048576) (na : Nums args) (nd : Nums dir) (hl : ∀ F, p.fFuncs[f.toNat]? = some F → (args.length : Int) = F.fParams) :
    Fn0 Tryz.prog 232 [.agg p.c, I f, ints args, ints dir] (.tup [ints (dirRes (evRes (evF p 2 f (lineL args dir)))).1, ints (dirRes (evRes (evF p 2 f (lineL args dir)))).2.1, I (dirRes (evRes (evF p 2 f (lineL args dir)))).2.2]) := by
  have hal1 := along1 hp f hf args dir hd hal na nd hl
  obtain ⟨hser, hlen⟩ := line_ser hp f hf args dir hd na nd hl
  generalize evRes (evF p 2 f (lineL args dir)) = X at *
  obtain ⟨vs, st, c⟩ := X
  simp only at hal1 hser hlen ⊢
  rw [DProgram.c_eq] at hal1 ⊢
  refine fn0S 44 keep232 ib232 mk232 mix Tryz.func232 rfl (by kernel_rfl) (by simp) fun h => ?_
  simp (maxSteps := 1000000) -dsimp -implicitDefEqProofs only [go_sem, ↓reduceIte, keep232, ib232, mk232, Tryz.f232]
  refine HFnF.mk hal1 ?_
  simp (maxSteps := 1000000) -dsimp -implicitDefEqProofs only [go_sem, ↓reduceIte, keep232, ib232, mk232, Tryz.f232]
  refine ⟨fun hc => ?_, fun hc => ?_⟩
  · have hc' : ¬ c = 0 := by simpa using hc
    rw [dirRes, if_neg hc']
    try simp (maxSteps := 1000000) -dsimp -implicitDefEqProofs only [go_sem, ↓reduceIte, keep232, ib232, mk232, Tryz.f232]
    exact Shift.of (Sub.tup (.cons (Sub.nil 1 false) (.cons (Sub.nil 1 false) (.cons (.refl _) .nil)))) (Heap.le_refl _)
  have hc' : c = 0 := by simpa using hc
  subst hc'
  rw [dirRes, if_pos rfl]
  try simp (maxSteps := 1000000) -dsimp -implicitDefEqProofs only [go_sem, ↓reduceIte, keep232, ib232, mk232, Tryz.f232]
  refine ⟨Nat.zero_lt_one, fun _ => ?_⟩
  have hcl : (vs.map fun s => s.getD 1 0).length = vs.length := List.length_map _
  refine loopF (keep := keep232) (ib := ib232) (mk := mk232) mix (by kernel_rfl) (fun x : Nat × Option Nat => [(11, intss vs), (28, intss vs), (29, I vs.length), (13, oval 1 ((vs.map fun s => s.getD 1 0).take x.1).length x.2), (30, I x.1)]) (fun x => oheap h (.row 1 ((((vs.map fun s => s.getD 1 0).take x.1).map fun n => [I n]).map (List.map .v))) x.2) (fun x => x.1 ≤ vs.length ∧ oside h ((vs.map fun s => s.getD 1 0).take x.1) x.2) (fun x => vs.length - x.1) (0, none) ⟨by simp [SatL, tget, oval], by simp only [oheap_none]; exact Heap.le_refl _, Nat.zero_le _, by simp [oside]⟩ ?_
  rintro ⟨k, o⟩ ⟨hk, hos⟩
  simp only at hk hos ⊢
  rcases Nat.lt_or_ge k vs.length with hlt | hge
  · have ea : vs[k]? = some vs[k] := List.getElem?_eq_getElem hlt
    have h0 := hser _ (List.getElem_mem hlt)
    have e0 : (vs[k])[Int.toNat 1]? = some (vs[k].getD 1 0) := getD_get (by rw [h0.1]; omega)
    have h0l := h0.1
    have hy : (vs.map fun s => s.getD 1 0).take (k + 1) = (vs.map fun s => s.getD 1 0).take k ++ [(vs.map fun s => s.getD 1 0)[k]'(by omega)] := List.take_succ_eq_append_getElem (by omega)
    have hlk : ((vs.map fun s => s.getD 1 0).take k).length = k := by rw [List.length_take]; omega
    rw [List.getElem_map] at hy
    cases o with
    | none =>
      rw [oside_none] at hos
      rw [hos] at hy ⊢
      simp (maxSteps := 1000000) -dsimp -implicitDefEqProofs only [go_sem, ↓reduceIte, keep232, ib232, mk232, Tryz.f232, oval_none, oheap_none, hlt, ea, e0]
      repeat' (with_reducible first | intro _ | refine And.intro ?_ ?_)
      all_goals try (first | omega | decide)
      rename_i b hb
      refine ⟨(k + 1, some b), ?_⟩
      simp only [hy]
      refine ⟨⟨rfl, ?_⟩, Heap.le_refl _, ⟨by omega, hb⟩, by omega⟩
      rw [IntWalk.i64_in _ (by omega)]; rfl
    | some n =>
      rw [oside_some] at hos
      simp (maxSteps := 1000000) -dsimp -implicitDefEqProofs only [go_sem, ↓reduceIte, keep232, ib232, mk232, Tryz.f232, oval_some, oheap_some, hlt, ea, e0]
      repeat' (with_reducible first | intro _ | refine And.intro ?_ ?_)
      all_goals try (first | omega | decide | exact Nat.le_refl _)
      rename_i b hb
      refine ⟨(k + 1, some b), ?_⟩
      simp only [hy, oheap_some, oval_some, oside_some]
      refine ⟨⟨by rw [List.length_append]; rfl, ?_⟩, ?_, ⟨by omega, hb.2⟩, by omega⟩
      · rw [IntWalk.i64_in _ (by omega)]; rfl
      · rw [← grow_row]; exact le_app hos
  · have hk' : k = vs.length := by omega
    subst hk'
    rw [List.take_of_length_le (by omega)] at hos ⊢
    cases o with
    | none =>
      rw [oside_none] at hos
      simp (maxSteps := 1000000) -dsimp -implicitDefEqProofs only [go_sem, ↓reduceIte, keep232, ib232, mk232, Tryz.f232, oval_none, oheap_none, Nat.lt_irrefl, Int.lt_irrefl]
      first | refine HFnF.mk (firsts vs (by omega) (fun s hs => by rw [(hser s hs).1]; omega)) ?_ | refine CallSF.mk (firsts vs (by omega) (fun s hs => by rw [(hser s hs).1]; omega)) ?_ | refine HFnF.mkAt (firsts vs (by omega) (fun s hs => by rw [(hser s hs).1]; omega)) ?_ | refine CallSF.mk (FnAt.fn0 (firsts vs (by omega) (fun s hs => by rw [(hser s hs).1]; omega))) ?_
      simp (maxSteps := 1000000) -dsimp -implicitDefEqProofs only [go_sem, ↓reduceIte, keep232, ib232, mk232, Tryz.f232]
      rw [hos]
      exact Shift.of (Sub.tup (.cons (.refl _) (.cons (Sub.loose _ _ _) (.cons (.refl _) .nil)))) (Heap.le_refl _)
    | some n =>
      rw [oside_some] at hos
      simp (maxSteps := 1000000) -dsimp -implicitDefEqProofs only [go_sem, ↓reduceIte, keep232, ib232, mk232, Tryz.f232, oval_some, oheap_some, Nat.lt_irrefl, Int.lt_irrefl]
      first | refine HFnF.mk (firsts vs (by omega) (fun s hs => by rw [(hser s hs).1]; omega)) ?_ | refine CallSF.mk (firsts vs (by omega) (fun s hs => by rw [(hser s hs).1]; omega)) ?_ | refine HFnF.mkAt (firsts vs (by omega) (fun s hs => by rw [(hser s hs).1]; omega)) ?_ | refine CallSF.mk (FnAt.fn0 (firsts vs (by omega) (fun s hs => by rw [(hser s hs).1]; omega))) ?_
      simp (maxSteps := 1000000) -dsimp -implicitDefEqProofs only [go_sem, ↓reduceIte, keep232, ib232, mk232, Tryz.f232]
      refine shift_seal ((vs.map fun s => s.getD 1 0).map fun n => [I n]) hos (Heap.le_refl _) (by simp [sealOK, sealOKL]) ?_
      simp [HVal.sealUp, sealL, List.take_of_length_le]
open Go.Proofs
set_option linter.unusedVariables false
set_option linter.unusedSimpArgs false
def unitL (n i : Nat) : List Int := (List.replicate n 0).set i 1
def slopeL (p : DProgram) (f : Int) (args : List Int) (i : Nat) : List Int := (dirRes (evRes (evF p 2 f (lineL args (unitL args.length i))))).2.1
/-- The rows of a matrix that is filled column by column: i columns, and k numbers of the next one. -/
def matP (S : Nat → List Int) (m i k : Nat) : List (List Int) := (List.range m).map fun r => (List.range (if r < k then i + 1 else i)).map fun j => (S j).getD r 0
theorem matP_len (S : Nat → List Int) (m i k : Nat) : (matP S m i k).length = m := by simp [matP]
theorem matP_zero (S : Nat → List Int) (m : Nat) : matP S m 0 0 = List.replicate m [] := by
  rw [matP]
  simp [List.map_const']
theorem matP_next (S : Nat → List Int) (m i : Nat) : matP S m i m = matP S m (i + 1) 0 := by
  refine List.map_congr_left fun r hr => ?_
  rw [if_pos (List.mem_range.1 hr), if_neg (Nat.not_lt_zero _)]
theorem matP_get (S : Nat → List Int) {m i k : Nat} (hk : k < m) : (matP S m i k)[k]? = some ((List.range i).map fun j => (S j).getD k 0) := by
  rw [matP, List.getElem?_map, List.getElem?_range hk]
  simp
theorem matP_set (S : Nat → List Int) {m i k : Nat} (hk : k < m) : matP S m i (k + 1) = (matP S m i k).set k (((List.range i).map fun j => (S j).getD k 0) ++ [(S i).getD k 0]) := by
  apply List.ext_getElem?
  intro r
  rw [List.getElem?_set, matP_len]
  rcases Nat.lt_trichotomy r k with h | h | h
  · rw [if_neg (by omega)]
    simp only [matP, List.getElem?_map]
    rcases Nat.lt_or_ge r m with hr | hr
    · rw [List.getElem?_range hr]
      simp [h, Nat.lt_succ_of_lt h]
    · rw [List.getElem?_eq_none (by simpa using hr)]; rfl
  · subst h
    rw [if_pos rfl, if_pos hk]
    simp only [matP, List.getElem?_map]
    rw [List.getElem?_range hk]
    simp [List.range_succ]
  · rw [if_neg (by omega)]
    simp only [matP, List.getElem?_map]
    rcases Nat.lt_or_ge r m with hr | hr
    · rw [List.getElem?_range hr]
      have h1 : ¬ r < k := by omega
      have h2 : ¬ r < k + 1 := by omega
      simp [h1, h2]
    · rw [List.getElem?_eq_none (by simpa using hr)]; rfl
theorem line_eR {args : List Int} : ∀ {l : List Int} {dir : List Int}, dir.length = l.length → eR (l.map fun n => [n]) (lineL l dir)
  | [], [], _ => trivial
  | a :: l, d :: dir, h => ⟨.inr ⟨a, [], [d], rfl, rfl⟩, line_eR (args := args) (by simpa using h)⟩
  | [], _ :: _, h => by simp at h
  | _ :: _, [], h => by simp at h
/-- Where a function has values, it has them along every direction. -/
theorem line_ok {p : DProgram} (hp : p.ok) {f : Int} (hf : 0 ≤ f ∧ f < p.fFuncs.length) {args dir : List Int} (hd : dir.length = args.length) (na : Nums args) (nd : Nums dir) (hl : ∀ F, p.fFuncs[f.toNat]? = some F → (args.length : Int) = F.fParams) {vs : List (List Int)} {t : Nat} (hok : evF p 1 f (args.map fun n => [n]) = .ok (vs, t)) :
    ∃ ws, evRes (evF p 2 f (lineL args dir)) = (ws, (t : Int), 0) ∧ ws.length = (p.outs f).length ∧ ∀ s ∈ ws, serOK 2 s := by
  have h := evF_head p 0 1 f _ _ (line_eR (args := args) hd)
  have hs := evF_ser hp (sz := 2) (by omega) f hf (lineL args dir) (lineL_ser na nd) (fun F hF => by rw [lineL_len hd]; exact hl F hF)
  rw [hok] at h
  cases hX : evF p 2 f (lineL args dir) with
  | ok q =>
    obtain ⟨ws, u⟩ := q
    rw [hX] at h
    have := h.2
    subst this
    have h2 := hs ws t hX
    exact ⟨ws, rfl, h2.1, h2.2⟩
  | error c => rw [hX] at h; exact h.elim
theorem rowsRows_nils : ∀ k, OV.rowsRows (List.replicate k [OV.nil 1]) = []
  | 0 => by simp [OV.rowsRows]
  | k + 1 => by rw [List.replicate_succ, rowsRows_cons, rowsRows_nils k, OV.row_cons, OV.row_nil, OV.nil_rows]; rfl
def keep141 : List Nat := [0, 1, 2, 3, 6, 7, 8, 10, 11, 12, 14, 16, 17, 30, 34, 35, 36, 43, 44, 45, 60, 61, 62, 63]
def ib141 : List Nat := [3, 38, 39, 54, 74]
def mk141 : Marks := fun id => match id with | 1 => ([], (.op 0 (.op 1 (.op 2 (.op 3 (.op 4 (.op 5 (.op 6 (.op 7 (.op 8 (.op 9 (.op 10 (.op 11 (.op 12 (.op 13 .nil)))))))))))))), []) | 12 => ([], (.op 0 (.op 1 (.op 2 (.op 3 (.op 4 (.op 5 (.op 6 (.op 7 (.op 8 (.op 9 (.op 10 (.op 11 (.op 12 (.op 13 (.op 14 (.op 15 .nil)))))))))))))))), []) | _ => ([], .nil, [])
set_option maxRecDepth 100000 in
theorem jacobianN {p : DProgram} (hp : p.ok) (f : Int) (hf : 0 ≤ f ∧ f < p.fFuncs.length) (args : List Int) (hal : args.length ≤ 1048576) (na : Nums args) (hl : ∀ F, p.fFuncs[f.toNat]? = some F → (args.length : Int) = F.fParams) {vs : List (List Int)} {t : Nat} (hok : evF p 1 f (args.map fun n => [n]) = .ok (vs, t)) :
    FnN Tryz.prog 141 [.agg p.c, I f, ints args] (QS (OS (oL I) 1 (matP (slopeL p f args) (p.outs f).length args.length 0)) (fun y => .tup [y, I 0])) := by
  obtain ⟨F, ef, hF1, hF2, hF3, hF4⟩ := func_ok hp hf
  have hm : 1 ≤ (p.outs f).length ∧ (p.outs f).length ≤ 12 := by rw [hF3]; exact hF1
  generalize hM : (p.outs f).length = M at *
  have nz : Nums (List.replicate args.length 0) := fun x hx => by rw [(List.mem_replicate.1 hx).2]; exact num_zero
  obtain ⟨ws, hw1, hw2, hw3⟩ := line_ok hp hf (dir := List.replicate args.length 0) (by simp) na nz hl hok
  have hdir := directional hp f hf args (List.replicate args.length 0) (by simp) hal na nz hl
  rw [hw1, dirRes, if_pos rfl, DProgram.c_eq] at hdir
  rw [DProgram.c_eq]
  refine fnNF 80 keep141 ib141 mk141 mix Tryz.func141 rfl (by kernel_rfl) (by simp) fun h => ?_
  simp (maxSteps := 1000000) -dsimp -implicitDefEqProofs only [go_sem, ↓reduceIte, keep141, ib141, mk141, Tryz.f141]
  first | refine HFnF.mk (unit0 args.length hal) ?_ | refine CallSF.mk (unit0 args.length hal) ?_ | refine HFnF.mkAt (unit0 args.length hal) ?_ | refine CallSF.mk (FnAt.fn0 (unit0 args.length hal)) ?_
  simp (maxSteps := 1000000) -dsimp -implicitDefEqProofs only [go_sem, ↓reduceIte, keep141, ib141, mk141, Tryz.f141]
  refine CallSF.mk hdir ?_
  simp (maxSteps := 1000000) -dsimp -implicitDefEqProofs only [go_sem, ↓reduceIte, keep141, ib141, mk141, Tryz.f141]
  refine ⟨Nat.zero_lt_one, fun n0_ hn0 _ => ?_⟩
  refine loopF (keep := keep141) (ib := ib141) (mk := mk141) mix (by kernel_rfl) (fun x : Nat × Nat => [(1, I f), (2, ints args), (3, .ip 1 [[sls 3 DFunc.c p.fFuncs]] 0 0), (11, .os x.2 1 0 x.1), (34, I M), (35, I x.1)]) (fun x => upd h x.2 (.row 1 (List.replicate x.1 [Cell.v (.sl 1 [] true)]))) (fun x => x.1 ≤ M ∧ h x.2 = none) (fun x => M - x.1) (0, n0_) ⟨by simp [SatL, tget, hw2, hM], Heap.le_refl _, Nat.zero_le _, hn0⟩ ?_
  rintro ⟨k, b⟩ ⟨hk, hb⟩
  simp only at hk hb ⊢
  rcases Nat.lt_or_ge k M with hlt | hge
  · simp (maxSteps := 1000000) -dsimp -implicitDefEqProofs only [go_sem, ↓reduceIte, keep141, ib141, mk141, Tryz.f141, hlt, List.length_replicate]
    refine ⟨Nat.zero_lt_one, Nat.zero_lt_one, Nat.zero_lt_one, Nat.zero_lt_one, Nat.le_refl _, by omega, by omega, fun b2 hb2 => ⟨(k + 1, b2), ⟨rfl, by rw [IntWalk.i64_in _ (by omega)]; rfl⟩, ?_, ⟨by omega, hb2.2⟩, by simp only; omega⟩⟩
    rw [List.take_of_length_le (by rw [List.length_replicate]; exact Nat.le_refl _), ← List.replicate_succ']
    exact le_app hb
  have hk' : k = M := by omega
  subst hk'
  simp (maxSteps := 1000000) -dsimp -implicitDefEqProofs only [go_sem, ↓reduceIte, keep141, ib141, mk141, Tryz.f141, Nat.lt_irrefl, Int.lt_irrefl]
  intro _
  have hcell : List.replicate k [Cell.v (.sl 1 [] true)] = OV.cells (List.replicate k [OV.nil 1]) := by simp [OV.cells, OV.val]
  rw [hcell]
  generalize hS : slopeL p f args = S at *
  refine loopF (keep := keep141) (ib := ib141) (mk := mk141) mix (by kernel_rfl) (fun x : Nat × List (List OV) × Heap => [(1, I f), (2, ints args), (3, .ip 1 [[sls 3 DFunc.c p.fFuncs]] 0 0), (11, .os b 1 0 k), (43, I args.length), (44, I x.1)]) (fun x => x.2.2) (fun x => x.1 ≤ args.length ∧ OR (oL I) (matP S k x.1 0) x.2.1 ∧ New h (OV.rowsRow [OV.sl b 1 x.2.1]) x.2.2) (fun x => args.length - x.1) (0, List.replicate k [OV.nil 1], upd h b (.row 1 (OV.cells (List.replicate k [OV.nil 1])))) ⟨by simp [SatL, tget], Heap.le_refl _, Nat.zero_le _, by simp only; rw [matP_zero]; exact OR.reps ⟨_, rfl, OS.nil⟩ _, ?_⟩ ?_
  · simp only
    rw [OV.row_cons, OV.row_nil, List.append_nil, OV.sl_rows]
    rw [rowsRows_nils]
    exact New.one hb
  rintro ⟨i, es, g⟩ ⟨hi, hes, hnw⟩
  simp only at hi hes hnw ⊢
  have hgb : g b = some (.row 1 (OV.cells es)) := hnw.getSl []
  have hel : es.length = k := by rw [← hes.length, matP_len]
  rcases Nat.lt_or_ge i args.length with hlt | hge
  · have hun : Nums (unitL args.length i) := fun x hx => by
      rcases List.mem_or_eq_of_mem_set hx with hx | rfl
      · rw [(List.mem_replicate.1 hx).2]; exact num_zero
      · unfold Num; omega
    obtain ⟨us, hu1, hu2, hu3⟩ := line_ok hp hf (dir := unitL args.length i) (by simp [unitL]) na hun hl hok
    have hdi := directional hp f hf args (unitL args.length i) (by simp [unitL]) hal na hun hl
    have hSi : S i = us.map fun s => s.getD 1 0 := by rw [← hS, slopeL, hu1]; rfl
    rw [hu1, dirRes, if_pos rfl, ← hSi, DProgram.c_eq] at hdi
    simp (maxSteps := 1000000) -dsimp -implicitDefEqProofs only [go_sem, ↓reduceIte, keep141, ib141, mk141, Tryz.f141, hlt]
    refine ⟨Nat.zero_lt_one, Nat.zero_lt_one, ?_⟩
    first | refine HFnF.mk (unit1 args.length i hal hlt) ?_ | refine CallSF.mk (unit1 args.length i hal hlt) ?_ | refine HFnF.mkAt (unit1 args.length i hal hlt) ?_ | refine CallSF.mk (FnAt.fn0 (unit1 args.length i hal hlt)) ?_
    simp (maxSteps := 1000000) -dsimp -implicitDefEqProofs only [go_sem, ↓reduceIte, keep141, ib141, mk141, Tryz.f141]
    refine CallSF.mk hdi ?_
    simp (maxSteps := 1000000) -dsimp -implicitDefEqProofs only [go_sem, ↓reduceIte, keep141, ib141, mk141, Tryz.f141]
    have hSl : (S i).length = k := by rw [hSi, List.length_map, hu2]; exact hM
    intro _
    refine loopF (keep := keep141) (ib := ib141) (mk := mk141) mix (by kernel_rfl) (fun x : Nat × List (List OV) × Heap => [(1, I f), (2, ints args), (3, .ip 1 [[sls 3 DFunc.c p.fFuncs]] 0 0), (11, .os b 1 0 k), (43, I args.length), (44, I i), (60, ints (S i)), (61, I k), (62, I x.1)]) (fun x => x.2.2) (fun x => x.1 ≤ k ∧ OR (oL I) (matP S k i x.1) x.2.1 ∧ New h (OV.rowsRow [OV.sl b 1 x.2.1]) x.2.2) (fun x => k - x.1) (0, es, g) ⟨by simp [SatL, tget, hSl], Heap.le_refl _, Nat.zero_le _, hes, hnw⟩ ?_
    rintro ⟨j, es, g⟩ ⟨hj, hes, hnw⟩
    simp only at hj hes hnw ⊢
    have hgb : g b = some (.row 1 (OV.cells es)) := hnw.getSl []
    have hel : es.length = k := by rw [← hes.length, matP_len]
    rcases Nat.lt_or_ge j k with hlt2 | hge2
    · have eS := getD_get (l := S i) (i := j) (by omega)
      obtain ⟨e, he, y, rfl, hy⟩ := hes.getE j _ (matP_get S hlt2)
      have hcg := cells_get he
      have hyl : ((List.range i).map fun n => (S n).getD j 0).length = i := by simp
      rcases hy.prim with ⟨rfl, h0⟩ | ⟨n, rfl⟩
      · simp (maxSteps := 1000000) -dsimp -implicitDefEqProofs only [go_sem, ↓reduceIte, keep141, ib141, mk141, Tryz.f141, hlt2, eS, hgb, hcg, OV.val_nil, cells_len, hel]
        refine ⟨by omega, Nat.zero_lt_one, Nat.zero_lt_one, Nat.zero_lt_one, fun m hm => ?_⟩
        have d_m_b : ¬ m = b := fun e => by rw [e, hgb] at hm; cases hm
        have d_b_m : ¬ b = m := Ne.symm d_m_b
        have e_m_b : (m = b) = False := eq_false d_m_b
        have e_b_m : (b = m) = False := eq_false d_b_m
        simp (maxSteps := 1000000) -dsimp -implicitDefEqProofs only [go_sem, ↓reduceIte, keep141, ib141, mk141, Tryz.f141, upd_ne, e_m_b, e_b_m, hgb, cells_len, hel, hlt2, hcg]
        obtain ⟨g3, w1, w2⟩ := hnw.appEl (c := I) (x := (S i).getD j 0) (F := upd (upd g m (.row 1 [[.v (I ((S i).getD j 0))]])) b (.row 1 ((OV.cells es).set j [.v (.os m 1 0 1)]))) he hy hm (fun q _ => by rw [h0]; rfl)
        refine ⟨(j + 1, _, g3), by rw [IntWalk.i64_in _ (by omega)]; rfl, w1, ⟨by omega, ?_, w2⟩, by simp only; omega⟩
        simp only
        rw [matP_set S hlt2]
        exact hes.set j _ _ ⟨_, rfl, OS.mk (OR_map _)⟩
      · obtain ⟨hgn, d_n_b⟩ := hnw.elRow he
        have e_n_b : (n = b) = False := eq_false d_n_b
        have e_b_n : (b = n) = False := eq_false (Ne.symm d_n_b)
        simp (maxSteps := 1000000) -dsimp -implicitDefEqProofs only [go_sem, ↓reduceIte, keep141, ib141, mk141, Tryz.f141, hlt2, eS, hgb, hcg, OV.val_prim, cells_len, hel, hgn]
        rw [List.length_range]
        refine ⟨by omega, Nat.zero_lt_one, Nat.zero_lt_one, Nat.zero_lt_one, Nat.le_refl _, by omega, by omega, fun m hm => ?_⟩
        have d_m_b : ¬ m = b := fun e => by rw [e, hgb] at hm; cases hm
        have d_b_m : ¬ b = m := Ne.symm d_m_b
        have e_m_b : (m = b) = False := eq_false d_m_b
        have e_b_m : (b = m) = False := eq_false d_b_m
        have d_m_n : ¬ m = n := fun e => by rw [e, hgn] at hm; cases hm
        have d_n_m : ¬ n = m := Ne.symm d_m_n
        have e_m_n : (m = n) = False := eq_false d_m_n
        have e_n_m : (n = m) = False := eq_false d_n_m
        simp (maxSteps := 1000000) -dsimp -implicitDefEqProofs only [go_sem, ↓reduceIte, keep141, ib141, mk141, Tryz.f141, upd_ne, e_m_b, e_m_n, e_b_m, e_b_n, e_n_m, e_n_b, hgb, cells_len, hel, hlt2, hcg]
        have hgr := grow_row I ((List.range i).map fun n => (S n).getD j 0) ((S i).getD j 0)
        rw [hyl] at hgr
        rw [hgr]
        obtain ⟨g3, w1, w2⟩ := hnw.appEl (c := I) (x := (S i).getD j 0) (F := upd (upd (upd g n .gone) m (.row 1 (((((List.range i).map fun n => (S n).getD j 0) ++ [(S i).getD j 0]).map fun n => [I n]).map (List.map .v)))) b (.row 1 ((OV.cells es).set j [.v (.os m 1 0 (i + 1))]))) he hy hm (fun q hq => by
          rw [hyl]
          have hqn := hq n _ _ rfl
          simp only [upd_apply, if_neg hqn])
        refine ⟨(j + 1, _, g3), by rw [IntWalk.i64_in _ (by omega)]; rfl, w1, ⟨by omega, ?_, w2⟩, by simp only; omega⟩
        simp only
        rw [matP_set S hlt2]
        exact hes.set j _ _ ⟨_, rfl, OS.mk (OR_map _)⟩
    · have hj' : j = k := by omega
      subst hj'
      simp (maxSteps := 1000000) -dsimp -implicitDefEqProofs only [go_sem, ↓reduceIte, keep141, ib141, mk141, Tryz.f141, Nat.lt_irrefl, Int.lt_irrefl]
      exact ⟨(i + 1, es, g), by rw [IntWalk.i64_in _ (by omega)]; rfl, Heap.le_refl _, ⟨by omega, by simp only; rw [← matP_next]; exact hes, hnw⟩, by simp only; omega⟩
  · have hi' : i = args.length := by omega
    subst hi'
    simp (maxSteps := 1000000) -dsimp -implicitDefEqProofs only [go_sem, ↓reduceIte, keep141, ib141, mk141, Tryz.f141, Nat.lt_irrefl, Int.lt_irrefl]
    rw [OV.row_cons, OV.row_nil, List.append_nil] at hnw
    exact ⟨_, g, _, shift_self _ _, ⟨OV.sl b 1 es, OS.mk hes, by rw [OV.val_sl, hel], rfl⟩, hnw⟩
end Go.Hl

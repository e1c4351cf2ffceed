/-
  Contracts of functions and laws of the layer over the walk.
-/
import Derived.Test.YthcfmnldhokmiaaGreatVvE
import Derived.Test.YthcfmnldhokmiaaGreatVvC
import Derived.Test.YthcfmnldhokmiaaGreatVvD
namespace Go.Hl
open Go.Proofs
set_option linter.unusedVariables false
set_option linter.unusedSimpArgs false
set_option maxRecDepth 100000 in
theorem reg_stop {p : DProgram} {inp : Int} {n : Nat} {h0 h : Heap} {nb st : Nat} {c : Int} {e : DExpr} {env : List Int} {S : RSt} (hR : RecIn h0 nb p inp S st c h) (hst : st ≤ 3000) (hs : ¬ c = 0 ∨ st = 3000) :
    HFn Tryz.prog 275 [.op nb 8 0 0, .agg e.c, ints env] h (RegQ h0 nb p inp st c (recE p (n + 1) st e env S)) := by
  obtain ⟨om, og, ov, H⟩ := hR
  have hb := H.box
  unfold recBox at hb
  rw [DExpr.c_eq]
  refine fnKF 190 keep275 ib275 mk275 mix Tryz.func275 rfl (by kernel_rfl) (by simp) ?_
  simp (maxSteps := 1000000) -dsimp -implicitDefEqProofs only [go_sem, ↓reduceIte, keep275, ib275, mk275, Tryz.f275, hb]
  refine ⟨fun hc => ?_, fun hc => ?_⟩
  · exact ⟨_, _, shift_self _ _, 0, S, st, c, rfl, ⟨_, _, _, H⟩, Nat.le_refl _, hst, by rw [runE_ne _ hc]; exact outR_err _ _ hc⟩
  · subst hc
    have h3 : st = 3000 := by rcases hs with hs | hs; exact absurd rfl hs; exact hs
    subst h3
    try simp (maxSteps := 1000000) -dsimp -implicitDefEqProofs only [go_sem, ↓reduceIte, keep275, ib275, mk275, Tryz.f275, hb]
    refine ⟨fun _ => ?_, fun q => absurd q (by simp)⟩
    refine ⟨_, _, shift_self _ _, 0, S, 3000, 7, rfl, ⟨_, _, _, H.set 3000 7⟩, Nat.le_refl _, hst, ?_⟩
    rw [runE_zero, recE, if_pos rfl]
    exact outR_err _ _ (by decide)
def keep302 : List Nat := [0, 2]
def ib302 : List Nat := []
def mk302 : Marks := fun _ => ([], .nil, [])
theorem clipS (l : List Int) (hl : l.length ≤ 1048576) : Fn0 Tryz.prog 302 [ints l] (.sl 1 (l.map fun n => [I n]) true) := by
  refine fn0F 9 keep302 ib302 mk302 mix Tryz.func302 rfl (by kernel_rfl) (by simp) fun h => ?_
  simp (maxSteps := 1000000) -dsimp -implicitDefEqProofs only [go_sem, ↓reduceIte, keep302, ib302, mk302, Tryz.f302]
  repeat' (with_reducible first | intro _ | refine And.intro ?_ ?_)
  all_goals try omega
  rw [List.take_of_length_le (by rw [List.length_map]; exact Nat.le_refl _)]
set_option maxRecDepth 100000 in
theorem reg_1 {p : DProgram} (hp : p.ok) {inp : Int} {n : Nat} (hv : RegAt p inp n) {h0 h : Heap} {nb st : Nat} {e : DExpr} {env : List Int} {S : RSt} {funcs : Int} (hR : RecIn h0 nb p inp S st 0 h) (hst : st < 3000) (hn : 3001 ≤ n + 1 + st)
    (hok : e.ok p funcs env.length) (hf0 : 0 ≤ funcs) (hf : funcs ≤ p.fFuncs.length) (hg : Good inp S st) (henv : ∀ x ∈ env, inR S x) (hel : env.length ≤ 412 + st) (hk : e.fKind = 1) :
    HFn Tryz.prog 275 [.op nb 8 0 0, .agg e.c, ints env] h (RegQ h0 nb p inp st 0 (recE p (n + 1) st e env S)) := by
  obtain ⟨om, og, ov, H⟩ := hR
  rw [DExpr.c_eq]
  have hb := H.box
  unfold recBox at hb
  have e3 : ((st : Int) = 3000) = False := eq_false (by omega)
  have ew : IntKind.i64.wrap ((st : Int) + 1) = ((st + 1 : Nat) : Int) := by rw [IntWalk.i64_in _ (by omega)]; rfl
  have hnode := (DExpr.ok_iff _ _ _ _).1 hok
  have h3 : ¬ st = 3000 := by omega
  have hcap := hg.cap
  have hgcap := hg.gcap
  have hg1 := hg.later (Nat.le_succ st)
  have hR1 : RecIn h0 nb p inp S (st + 1) 0 (upd h nb (recBox p inp S om og ov (st + 1) 0)) := ⟨_, _, _, H.set (st + 1) 0⟩
  refine fnKF 190 keep275 ib275 mk275 mix Tryz.func275 rfl (by kernel_rfl) (by simp) ?_
  simp (maxSteps := 1000000) -dsimp -implicitDefEqProofs only [go_sem, ↓reduceIte, keep275, ib275, mk275, Tryz.f275, hb, e3, ew, hk]
  refine HFnF.mkH (put_of hR1 ⟨2, 0, 0, e.fNum⟩ e.fNum hg.len (by omega)) ?_
  rintro r h' ⟨rfl, hR2⟩
  simp (maxSteps := 1000000) -dsimp -implicitDefEqProofs only [go_sem, ↓reduceIte, keep275, ib275, mk275, Tryz.f275]
  refine ⟨_, _, shift_self _ _, _, _, st + 1, 0, rfl, hR2, Nat.le_succ _, hst, ?_⟩
  rw [runE_zero, recE_1 h3 hk]
  exact outR_ok _ _
set_option maxRecDepth 100000 in
theorem reg_2 {p : DProgram} (hp : p.ok) {inp : Int} {n : Nat} (hv : RegAt p inp n) {h0 h : Heap} {nb st : Nat} {e : DExpr} {env : List Int} {S : RSt} {funcs : Int} (hR : RecIn h0 nb p inp S st 0 h) (hst : st < 3000) (hn : 3001 ≤ n + 1 + st)
    (hok : e.ok p funcs env.length) (hf0 : 0 ≤ funcs) (hf : funcs ≤ p.fFuncs.length) (hg : Good inp S st) (henv : ∀ x ∈ env, inR S x) (hel : env.length ≤ 412 + st) (hk : e.fKind = 2) :
    HFn Tryz.prog 275 [.op nb 8 0 0, .agg e.c, ints env] h (RegQ h0 nb p inp st 0 (recE p (n + 1) st e env S)) := by
  obtain ⟨om, og, ov, H⟩ := hR
  rw [DExpr.c_eq]
  have hb := H.box
  unfold recBox at hb
  have e3 : ((st : Int) = 3000) = False := eq_false (by omega)
  have ew : IntKind.i64.wrap ((st : Int) + 1) = ((st + 1 : Nat) : Int) := by rw [IntWalk.i64_in _ (by omega)]; rfl
  have hnode := (DExpr.ok_iff _ _ _ _).1 hok
  have h3 : ¬ st = 3000 := by omega
  have hcap := hg.cap
  have hgcap := hg.gcap
  have hg1 := hg.later (Nat.le_succ st)
  have hR1 : RecIn h0 nb p inp S (st + 1) 0 (upd h nb (recBox p inp S om og ov (st + 1) 0)) := ⟨_, _, _, H.set (st + 1) 0⟩
  have hnum := ((nodeOK_plain (by omega)).1 hnode.1).2.2.2.2.1 hk
  have hlt : e.fNum.toNat < env.length := by omega
  refine fnKF 190 keep275 ib275 mk275 mix Tryz.func275 rfl (by kernel_rfl) (by simp) ?_
  simp (maxSteps := 1000000) -dsimp -implicitDefEqProofs only [go_sem, ↓reduceIte, keep275, ib275, mk275, Tryz.f275, hb, e3, ew, hk, getD_get hlt]
  refine ⟨hnum.1, by omega, _, _, shift_self _ _, _, S, st + 1, 0, rfl, hR1, Nat.le_succ _, hst, ?_⟩
  rw [runE_zero, recE_2 h3 hk]
  exact outR_ok _ _
set_option maxRecDepth 100000 in
theorem reg_9 {p : DProgram} (hp : p.ok) {inp : Int} {n : Nat} (hv : RegAt p inp n) {h0 h : Heap} {nb st : Nat} {e : DExpr} {env : List Int} {S : RSt} {funcs : Int} (hR : RecIn h0 nb p inp S st 0 h) (hst : st < 3000) (hn : 3001 ≤ n + 1 + st)
    (hok : e.ok p funcs env.length) (hf0 : 0 ≤ funcs) (hf : funcs ≤ p.fFuncs.length) (hg : Good inp S st) (henv : ∀ x ∈ env, inR S x) (hel : env.length ≤ 412 + st) (hk : e.fKind = 9) :
    HFn Tryz.prog 275 [.op nb 8 0 0, .agg e.c, ints env] h (RegQ h0 nb p inp st 0 (recE p (n + 1) st e env S)) := by
  obtain ⟨om, og, ov, H⟩ := hR
  rw [DExpr.c_eq]
  have hb := H.box
  unfold recBox at hb
  have e3 : ((st : Int) = 3000) = False := eq_false (by omega)
  have ew : IntKind.i64.wrap ((st : Int) + 1) = ((st + 1 : Nat) : Int) := by rw [IntWalk.i64_in _ (by omega)]; rfl
  have hnode := (DExpr.ok_iff _ _ _ _).1 hok
  have h3 : ¬ st = 3000 := by omega
  have hcap := hg.cap
  have hgcap := hg.gcap
  have hg1 := hg.later (Nat.le_succ st)
  have hR1 : RecIn h0 nb p inp S (st + 1) 0 (upd h nb (recBox p inp S om og ov (st + 1) 0)) := ⟨_, _, _, H.set (st + 1) 0⟩
  have hlen := kids_len hok (by omega)
  rw [hk, show kidsN 9 = 2 from rfl] at hlen
  have g0 : e.fKids[Int.toNat 0]? = some (e.kid 0) := DExpr.kid_get (by omega)
  have g1 : e.fKids[Int.toNat 1]? = some (e.kid 1) := DExpr.kid_get (by omega)
  have o0 := DExpr.kid_ok hok (i := 0) (by omega)
  have o1 := DExpr.kid_ok hok (i := 1) (by omega)
  rw [moreV_ne (by omega)] at o0
  rw [hk, show moreV 9 1 (env.length : Int) = env.length + 1 from rfl] at o1
  refine fnKF 190 keep275 ib275 mk275 mix Tryz.func275 rfl (by kernel_rfl) (by simp) ?_
  simp (maxSteps := 1000000) -dsimp -implicitDefEqProofs only [go_sem, ↓reduceIte, keep275, ib275, mk275, Tryz.f275, hb, e3, ew, hk, g0, g1, DExpr.ld5]
  refine ⟨by omega, by omega, ?_⟩
  first | refine HFnF.mk (clipS env (by omega)) ?_ | refine CallSF.mk (clipS env (by omega)) ?_ | refine HFnF.mkAt (clipS env (by omega)) ?_ | refine CallSF.mk (FnAt.fn0 (clipS env (by omega))) ?_
  simp (maxSteps := 1000000) -dsimp -implicitDefEqProofs only [go_sem, ↓reduceIte, keep275, ib275, mk275, Tryz.f275]
  refine HFnF.mkH (hv _ _ nb (st + 1) 0 (e.kid 0) env S funcs hR1 (by omega) (by omega) o0 hf0 hf (fun _ => ⟨hg1, henv⟩) (by omega)) ?_
  rintro r h' ⟨k1, S1, t1, c1, rfl, hR2, a1, a2, a3⟩
  simp (maxSteps := 1000000) -dsimp -implicitDefEqProofs only [go_sem, ↓reduceIte, keep275, ib275, mk275, Tryz.f275]
  refine ⟨Nat.zero_lt_one, Nat.zero_lt_one, Nat.zero_lt_one, by omega, by omega, fun m hm => ?_⟩
  have d_nb_m : ¬ nb = m := fun e => by obtain ⟨_, _, _, H2⟩ := hR2; have := H2.box; rw [e, hm] at this; cases this
  have d_m_nb : ¬ m = nb := Ne.symm d_nb_m
  have e_nb_m : (nb = m) = False := eq_false d_nb_m
  have e_m_nb : (m = nb) = False := eq_false d_m_nb
  have hrow : env.map (fun n => [I n]) ++ [[HVal.int .i64 k1]] = (env ++ [k1]).map fun n => [I n] := by rw [List.map_append]; rfl
  rw [hrow]
  refine HFnF.giveEnv d_nb_m (by rw [List.length_map, List.length_append]; rfl) hm ?_
  refine HFn.mono (hv _ _ nb t1 c1 (e.kid 1) (env ++ [k1]) S1 funcs (hR2.over (o := .gone) hm) (by omega) (by omega) (by rw [List.length_append]; exact o1) hf0 hf (fun hc => ?_) (by rw [List.length_append]; show env.length + 1 ≤ _; omega)) ?_
  · obtain ⟨_, e2⟩ := a3.ok hc
    obtain ⟨b1, b2, b3, b4⟩ := recE_ok hp n (st + 1) (e.kid 0) env S funcs o0 hf hg1 (by omega) henv _ _ e2
    refine ⟨b1, fun x hx => ?_⟩
    rcases List.mem_append.1 hx with hx | hx
    · exact (henv x hx).ext b2
    · rw [List.mem_singleton.1 hx]; exact b3
  rintro r h2 ⟨k2, S2, t2, c2, rfl, hR3, b1, b2, b3⟩
  obtain ⟨g, rfl, hgm, hR3⟩ := hR3.base (hR2.none hm)
  simp (maxSteps := 1000000) -dsimp -implicitDefEqProofs only [go_sem, ↓reduceIte, keep275, ib275, mk275, Tryz.f275]
  refine ⟨_, g, shift_le (Heap.le_upd hgm (Heap.le_refl _)), k2, S2, t2, c2, rfl, hR3, by omega, b2, ?_⟩
  rw [recE_9 h3 hk]
  exact a3.thenC b3
set_option maxRecDepth 100000 in
theorem reg_8 {p : DProgram} (hp : p.ok) {inp : Int} {n : Nat} (hv : RegAt p inp n) {h0 h : Heap} {nb st : Nat} {e : DExpr} {env : List Int} {S : RSt} {funcs : Int} (hR : RecIn h0 nb p inp S st 0 h) (hst : st < 3000) (hn : 3001 ≤ n + 1 + st)
    (hok : e.ok p funcs env.length) (hf0 : 0 ≤ funcs) (hf : funcs ≤ p.fFuncs.length) (hg : Good inp S st) (henv : ∀ x ∈ env, inR S x) (hel : env.length ≤ 412 + st) (hk : e.fKind = 8) :
    HFn Tryz.prog 275 [.op nb 8 0 0, .agg e.c, ints env] h (RegQ h0 nb p inp st 0 (recE p (n + 1) st e env S)) := by
  obtain ⟨om, og, ov, H⟩ := hR
  rw [DExpr.c_eq]
  have hb := H.box
  unfold recBox at hb
  have e3 : ((st : Int) = 3000) = False := eq_false (by omega)
  have ew : IntKind.i64.wrap ((st : Int) + 1) = ((st + 1 : Nat) : Int) := by rw [IntWalk.i64_in _ (by omega)]; rfl
  have hnode := (DExpr.ok_iff _ _ _ _).1 hok
  have h3 : ¬ st = 3000 := by omega
  have hcap := hg.cap
  have hgcap := hg.gcap
  have hg1 := hg.later (Nat.le_succ st)
  have hR1 : RecIn h0 nb p inp S (st + 1) 0 (upd h nb (recBox p inp S om og ov (st + 1) 0)) := ⟨_, _, _, H.set (st + 1) 0⟩
  have hlen := kids_len hok (by omega)
  rw [hk, show kidsN 8 = 3 from rfl] at hlen
  have g0 : e.fKids[Int.toNat 0]? = some (e.kid 0) := DExpr.kid_get (by omega)
  have g1 : e.fKids[Int.toNat 1]? = some (e.kid 1) := DExpr.kid_get (by omega)
  have g2 : e.fKids[Int.toNat 2]? = some (e.kid 2) := DExpr.kid_get (by omega)
  have o0 := DExpr.kid_ok hok (i := 0) (by omega)
  have o1 := DExpr.kid_ok hok (i := 1) (by omega)
  have o2 := DExpr.kid_ok hok (i := 2) (by omega)
  rw [moreV_ne (by omega)] at o0 o1 o2
  refine fnKF 190 keep275 ib275 mk275 mix Tryz.func275 rfl (by kernel_rfl) (by simp) ?_
  simp (maxSteps := 1000000) -dsimp -implicitDefEqProofs only [go_sem, ↓reduceIte, keep275, ib275, mk275, Tryz.f275, hb, e3, ew, hk, g0, DExpr.ld5]
  refine ⟨by omega, ?_⟩
  refine HFnF.mkH (hv _ _ nb (st + 1) 0 (e.kid 0) env S funcs hR1 (by omega) (by omega) o0 hf0 hf (fun _ => ⟨hg1, henv⟩) (by omega)) ?_
  rintro r h' ⟨k1, S1, t1, c1, rfl, ⟨om1, og1, ov1, H1⟩, a1, a2, a3⟩
  have hb1 := H1.box
  unfold recBox at hb1
  simp (maxSteps := 1000000) -dsimp -implicitDefEqProofs only [go_sem, ↓reduceIte, keep275, ib275, mk275, Tryz.f275, hb1]
  refine ⟨fun hc => ?_, fun hc => ?_⟩
  · refine ⟨_, _, shift_self _ _, 0, S1, t1, c1, rfl, ⟨_, _, _, H1⟩, by omega, a2, ?_⟩
    rw [recE_8 h3 hk]
    exact a3.thenC (by rw [runE_ne _ hc]; exact outR_err _ _ hc)
  subst hc
  obtain ⟨_, e2⟩ := a3.ok rfl
  obtain ⟨q1, q2, q3, q4⟩ := recE_ok hp n (st + 1) (e.kid 0) env S funcs o0 hf hg1 (by omega) henv _ _ e2
  unfold incR at q4
  simp only at q1 q2 q3 q4
  obtain ⟨w, rfl, hw, dw⟩ := H1.row q3
  have rk := rowsOf_get q3
  have k0 := q3.1
  have k2 := q3.2
  have lw := rowsOf_len (fun n => [I n]) S1.vals
  have hgc := q1.gcap
  rw [onil_some] at hb1
  try simp (maxSteps := 1000000) -dsimp -implicitDefEqProofs only [go_sem, ↓reduceIte, keep275, ib275, mk275, Tryz.f275, hb1, hw, rk, onil_some]
  refine ⟨k0, by omega, ?_⟩
  have hgd := H1.gds
  cases og1 with
  | none =>
    have hg0 : S1.guards = [] := rowsOf_nil.1 hgd
    rw [onil_none]
    simp (maxSteps := 1000000) -dsimp -implicitDefEqProofs only [go_sem, ↓reduceIte, keep275, ib275, mk275, Tryz.f275, hb1]
    refine ⟨by decide, by decide, by decide, fun b hb2 => ?_⟩
    have d_b_nb : ¬ b = nb := fun e => by rw [e, hb1] at hb2; cases hb2
    have d_nb_b : ¬ nb = b := Ne.symm d_b_nb
    have e_b_nb : (b = nb) = False := eq_false d_b_nb
    have e_nb_b : (nb = b) = False := eq_false d_nb_b
    simp (maxSteps := 1000000) -dsimp -implicitDefEqProofs only [go_sem, ↓reduceIte, keep275, ib275, mk275, Tryz.f275, hb1, e_b_nb, e_nb_b, upd_ne, g1, g2, DExpr.ld5]
    refine ⟨fun hz => ⟨by omega, ?_⟩, fun hz => ⟨by omega, ?_⟩⟩
    · rw [decide_eq_true hz]
      obtain ⟨g, hgl, hG⟩ := H1.guard ⟨k1, true⟩ hb2 (F := upd (upd h' b (.row 2 [[.v (I k1), .v (.bool true)]])) nb (recBox p inp (S1.guard ⟨k1, true⟩) om1 (some b) (some w) t1 0)) (upd_same _ _ _) (by rw [upd_ne _ _ _ _ d_b_nb, upd_same, hg0]; rfl) (fun n h1 h2 _ => by rw [upd_ne _ _ _ _ h1, upd_ne _ _ _ _ h2])
      unfold recBox at hgl
      simp only [RSt.guard, hg0, onil_some, List.nil_append, List.length_singleton] at hgl
      refine HFnF.wk (Heap.wk_of_le hgl) ?_
      have hgG := q1.guard (b := true) q3 (by omega)
      have heG := q2.trans (S1.ext_guard ⟨k1, true⟩)
      refine HFnF.mkH (hv h0 g nb t1 0 (e.kid 1) env (S1.guard ⟨k1, true⟩) funcs ⟨_, _, _, hG⟩ (by omega) (by omega) o1 hf0 hf (fun _ => ⟨hgG, fun x hx => (henv x hx).ext heG⟩) (by omega)) ?_
      rintro r h2 ⟨k2, S2, t2, c2, rfl, hR3, b1, b2, b3⟩
      simp (maxSteps := 1000000) -dsimp -implicitDefEqProofs only [go_sem, ↓reduceIte, keep275, ib275, mk275, Tryz.f275]
      refine ⟨_, _, shift_self _ _, k2, S2, t2, c2, rfl, hR3, by omega, b2, ?_⟩
      rw [recE_8 h3 hk]
      refine a3.thenC ?_
      rw [if_pos hz]
      exact b3
    · rw [decide_eq_false hz]
      obtain ⟨g, hgl, hG⟩ := H1.guard ⟨k1, false⟩ hb2 (F := upd (upd h' b (.row 2 [[.v (I k1), .v (.bool false)]])) nb (recBox p inp (S1.guard ⟨k1, false⟩) om1 (some b) (some w) t1 0)) (upd_same _ _ _) (by rw [upd_ne _ _ _ _ d_b_nb, upd_same, hg0]; rfl) (fun n h1 h2 _ => by rw [upd_ne _ _ _ _ h1, upd_ne _ _ _ _ h2])
      unfold recBox at hgl
      simp only [RSt.guard, hg0, onil_some, List.nil_append, List.length_singleton] at hgl
      refine HFnF.wk (Heap.wk_of_le hgl) ?_
      have hgG := q1.guard (b := false) q3 (by omega)
      have heG := q2.trans (S1.ext_guard ⟨k1, false⟩)
      refine HFnF.mkH (hv h0 g nb t1 0 (e.kid 2) env (S1.guard ⟨k1, false⟩) funcs ⟨_, _, _, hG⟩ (by omega) (by omega) o2 hf0 hf (fun _ => ⟨hgG, fun x hx => (henv x hx).ext heG⟩) (by omega)) ?_
      rintro r h2 ⟨k2, S2, t2, c2, rfl, hR3, b1, b2, b3⟩
      simp (maxSteps := 1000000) -dsimp -implicitDefEqProofs only [go_sem, ↓reduceIte, keep275, ib275, mk275, Tryz.f275]
      refine ⟨_, _, shift_self _ _, k2, S2, t2, c2, rfl, hR3, by omega, b2, ?_⟩
      rw [recE_8 h3 hk]
      refine a3.thenC ?_
      rw [if_neg hz]
      exact b3
  | some gm =>
    have hgm := hgd.2
    have d_gm_nb : ¬ gm = nb := fun e => by rw [e, hb1] at hgm; cases hgm
    have d_nb_gm : ¬ nb = gm := Ne.symm d_gm_nb
    have e_gm_nb : (gm = nb) = False := eq_false d_gm_nb
    have e_nb_gm : (nb = gm) = False := eq_false d_nb_gm
    rw [onil_some]
    simp (maxSteps := 1000000) -dsimp -implicitDefEqProofs only [go_sem, ↓reduceIte, keep275, ib275, mk275, Tryz.f275, hb1, hgm, rowsOf_len]
    refine ⟨by decide, by decide, by decide, Nat.le_refl _, by omega, by omega, fun b hb2 => ?_⟩
    have d_b_nb : ¬ b = nb := fun e => by rw [e, hb1] at hb2; cases hb2
    have d_nb_b : ¬ nb = b := Ne.symm d_b_nb
    have e_b_nb : (b = nb) = False := eq_false d_b_nb
    have e_nb_b : (nb = b) = False := eq_false d_nb_b
    have d_b_gm : ¬ b = gm := fun e => by rw [e, hgm] at hb2; cases hb2
    have d_gm_b : ¬ gm = b := Ne.symm d_b_gm
    have e_b_gm : (b = gm) = False := eq_false d_b_gm
    have e_gm_b : (gm = b) = False := eq_false d_gm_b
    simp (maxSteps := 1000000) -dsimp -implicitDefEqProofs only [go_sem, ↓reduceIte, keep275, ib275, mk275, Tryz.f275, hb1, e_b_nb, e_b_gm, e_nb_b, e_nb_gm, e_gm_b, e_gm_nb, upd_ne, g1, g2, DExpr.ld5]
    refine ⟨fun hz => ⟨by omega, ?_⟩, fun hz => ⟨by omega, ?_⟩⟩
    · rw [decide_eq_true hz, List.take_of_length_le (by rw [rowsOf_len]; exact Nat.le_refl _)]
      obtain ⟨g, hgl, hG⟩ := H1.guard ⟨k1, true⟩ hb2 (F := upd (upd (upd h' gm .gone) b (.row 2 (rowsOf DGuard.c S1.guards ++ [[.v (I k1), .v (.bool true)]]))) nb (recBox p inp (S1.guard ⟨k1, true⟩) om1 (some b) (some w) t1 0)) (upd_same _ _ _) (by rw [upd_ne _ _ _ _ d_b_nb, upd_same, rowsOf_snoc]; rfl) (fun n h1 h2 h3 => by rw [upd_ne _ _ _ _ h1, upd_ne _ _ _ _ h2, upd_ne _ _ _ _ (fun q => h3 (by rw [q]))])
      unfold recBox at hgl
      simp only [RSt.guard, onil_some, List.length_append, List.length_singleton] at hgl
      refine HFnF.wk (Heap.wk_of_le hgl) ?_
      have hgG := q1.guard (b := true) q3 (by omega)
      have heG := q2.trans (S1.ext_guard ⟨k1, true⟩)
      refine HFnF.mkH (hv h0 g nb t1 0 (e.kid 1) env (S1.guard ⟨k1, true⟩) funcs ⟨_, _, _, hG⟩ (by omega) (by omega) o1 hf0 hf (fun _ => ⟨hgG, fun x hx => (henv x hx).ext heG⟩) (by omega)) ?_
      rintro r h2 ⟨k2, S2, t2, c2, rfl, hR3, b1, b2, b3⟩
      simp (maxSteps := 1000000) -dsimp -implicitDefEqProofs only [go_sem, ↓reduceIte, keep275, ib275, mk275, Tryz.f275]
      refine ⟨_, _, shift_self _ _, k2, S2, t2, c2, rfl, hR3, by omega, b2, ?_⟩
      rw [recE_8 h3 hk]
      refine a3.thenC ?_
      rw [if_pos hz]
      exact b3
    · rw [decide_eq_false hz, List.take_of_length_le (by rw [rowsOf_len]; exact Nat.le_refl _)]
      obtain ⟨g, hgl, hG⟩ := H1.guard ⟨k1, false⟩ hb2 (F := upd (upd (upd h' gm .gone) b (.row 2 (rowsOf DGuard.c S1.guards ++ [[.v (I k1), .v (.bool false)]]))) nb (recBox p inp (S1.guard ⟨k1, false⟩) om1 (some b) (some w) t1 0)) (upd_same _ _ _) (by rw [upd_ne _ _ _ _ d_b_nb, upd_same, rowsOf_snoc]; rfl) (fun n h1 h2 h3 => by rw [upd_ne _ _ _ _ h1, upd_ne _ _ _ _ h2, upd_ne _ _ _ _ (fun q => h3 (by rw [q]))])
      unfold recBox at hgl
      simp only [RSt.guard, onil_some, List.length_append, List.length_singleton] at hgl
      refine HFnF.wk (Heap.wk_of_le hgl) ?_
      have hgG := q1.guard (b := false) q3 (by omega)
      have heG := q2.trans (S1.ext_guard ⟨k1, false⟩)
      refine HFnF.mkH (hv h0 g nb t1 0 (e.kid 2) env (S1.guard ⟨k1, false⟩) funcs ⟨_, _, _, hG⟩ (by omega) (by omega) o2 hf0 hf (fun _ => ⟨hgG, fun x hx => (henv x hx).ext heG⟩) (by omega)) ?_
      rintro r h2 ⟨k2, S2, t2, c2, rfl, hR3, b1, b2, b3⟩
      simp (maxSteps := 1000000) -dsimp -implicitDefEqProofs only [go_sem, ↓reduceIte, keep275, ib275, mk275, Tryz.f275]
      refine ⟨_, _, shift_self _ _, k2, S2, t2, c2, rfl, hR3, by omega, b2, ?_⟩
      rw [recE_8 h3 hk]
      refine a3.thenC ?_
      rw [if_neg hz]
      exact b3
open Go.Proofs
set_option linter.unusedVariables false
set_option linter.unusedSimpArgs false
set_option maxRecDepth 100000 in
theorem reg_3 {p : DProgram} (hp : p.ok) {inp : Int} {n : Nat} (hv : RegAt p inp n) {h0 h : Heap} {nb st : Nat} {e : DExpr} {env : List Int} {S : RSt} {funcs : Int} (hR : RecIn h0 nb p inp S st 0 h) (hst : st < 3000) (hn : 3001 ≤ n + 1 + st)
    (hok : e.ok p funcs env.length) (hf0 : 0 ≤ funcs) (hf : funcs ≤ p.fFuncs.length) (hg : Good inp S st) (henv : ∀ x ∈ env, inR S x) (hel : env.length ≤ 412 + st) (hk : e.fKind = 3) :
    HFn Tryz.prog 275 [.op nb 8 0 0, .agg e.c, ints env] h (RegQ h0 nb p inp st 0 (recE p (n + 1) st e env S)) := by
  obtain ⟨om, og, ov, H⟩ := hR
  rw [DExpr.c_eq]
  have hb := H.box
  unfold recBox at hb
  have e3 : ((st : Int) = 3000) = False := eq_false (by omega)
  have ew : IntKind.i64.wrap ((st : Int) + 1) = ((st + 1 : Nat) : Int) := by rw [IntWalk.i64_in _ (by omega)]; rfl
  have hnode := (DExpr.ok_iff _ _ _ _).1 hok
  have h3 : ¬ st = 3000 := by omega
  have hcap := hg.cap
  have hgcap := hg.gcap
  have hg1 := hg.later (Nat.le_succ st)
  have hR1 : RecIn h0 nb p inp S (st + 1) 0 (upd h nb (recBox p inp S om og ov (st + 1) 0)) := ⟨_, _, _, H.set (st + 1) 0⟩
  have hlen := kids_len hok (by omega)
  rw [hk, show kidsN 3 = 2 from rfl] at hlen
  have hkl : e.fKids.length ≤ 1048576 := by omega
  refine fnKF 190 keep275 ib275 mk275 mix Tryz.func275 rfl (by kernel_rfl) (by simp) ?_
  simp (maxSteps := 1000000) -dsimp -implicitDefEqProofs only [go_sem, ↓reduceIte, keep275, ib275, mk275, Tryz.f275, hb, e3, ew, hk]
  refine HFnF.mkH (all_reg hp hv h0 _ nb (st + 1) 0 e.fKids env S funcs hR1 (by omega) (by omega) hkl (kids_ok hok (by omega)) hf0 hf (fun _ => ⟨hg1, henv⟩) (by omega)) ?_
  rintro r h' ⟨vs, S1, t1, c1, rfl, ⟨om1, og1, ov1, H1⟩, hvl, a1, a2, a3⟩
  have hb1 := H1.box
  unfold recBox at hb1
  simp (maxSteps := 1000000) -dsimp -implicitDefEqProofs only [go_sem, ↓reduceIte, keep275, ib275, mk275, Tryz.f275, hb1]
  refine ⟨fun hc => ?_, fun hc => ?_⟩
  · refine ⟨_, _, shift_self _ _, 0, S1, t1, c1, rfl, ⟨_, _, _, H1⟩, by omega, a2, ?_⟩
    rw [recE_op h3 (by omega)]
    exact a3.thenC (by rw [runE_ne _ hc]; exact outR_err _ _ hc)
  subst hc
  obtain ⟨_, e2⟩ := a3.ok rfl
  obtain ⟨q1, q2, q3, q4⟩ := seqR_good hp hg1 (by omega) henv (kids_ok hok (by omega)) hf _ _ e2
  simp only at q1 q2 q3
  try simp (maxSteps := 1000000) -dsimp -implicitDefEqProofs only [go_sem, ↓reduceIte, keep275, ib275, mk275, Tryz.f275, hk]
  refine HFnF.mkH (operation_of ⟨_, _, _, H1⟩ q1 a2 3 vs (by decide) (by omega) (by omega) q3.2 (by omega)) ?_
  rintro r h2 ⟨k2, S2, c2, rfl, hR3, b3⟩
  simp (maxSteps := 1000000) -dsimp -implicitDefEqProofs only [go_sem, ↓reduceIte, keep275, ib275, mk275, Tryz.f275]
  refine ⟨_, _, shift_self _ _, k2, S2, t1, c2, rfl, hR3, by omega, a2, ?_⟩
  rw [recE_op h3 (by omega)]
  refine a3.thenC ?_
  rw [runE_zero, hk]
  exact b3
set_option maxRecDepth 100000 in
theorem reg_4 {p : DProgram} (hp : p.ok) {inp : Int} {n : Nat} (hv : RegAt p inp n) {h0 h : Heap} {nb st : Nat} {e : DExpr} {env : List Int} {S : RSt} {funcs : Int} (hR : RecIn h0 nb p inp S st 0 h) (hst : st < 3000) (hn : 3001 ≤ n + 1 + st)
    (hok : e.ok p funcs env.length) (hf0 : 0 ≤ funcs) (hf : funcs ≤ p.fFuncs.length) (hg : Good inp S st) (henv : ∀ x ∈ env, inR S x) (hel : env.length ≤ 412 + st) (hk : e.fKind = 4) :
    HFn Tryz.prog 275 [.op nb 8 0 0, .agg e.c, ints env] h (RegQ h0 nb p inp st 0 (recE p (n + 1) st e env S)) := by
  obtain ⟨om, og, ov, H⟩ := hR
  rw [DExpr.c_eq]
  have hb := H.box
  unfold recBox at hb
  have e3 : ((st : Int) = 3000) = False := eq_false (by omega)
  have ew : IntKind.i64.wrap ((st : Int) + 1) = ((st + 1 : Nat) : Int) := by rw [IntWalk.i64_in _ (by omega)]; rfl
  have hnode := (DExpr.ok_iff _ _ _ _).1 hok
  have h3 : ¬ st = 3000 := by omega
  have hcap := hg.cap
  have hgcap := hg.gcap
  have hg1 := hg.later (Nat.le_succ st)
  have hR1 : RecIn h0 nb p inp S (st + 1) 0 (upd h nb (recBox p inp S om og ov (st + 1) 0)) := ⟨_, _, _, H.set (st + 1) 0⟩
  have hlen := kids_len hok (by omega)
  rw [hk, show kidsN 4 = 2 from rfl] at hlen
  have hkl : e.fKids.length ≤ 1048576 := by omega
  refine fnKF 190 keep275 ib275 mk275 mix Tryz.func275 rfl (by kernel_rfl) (by simp) ?_
  simp (maxSteps := 1000000) -dsimp -implicitDefEqProofs only [go_sem, ↓reduceIte, keep275, ib275, mk275, Tryz.f275, hb, e3, ew, hk]
  refine HFnF.mkH (all_reg hp hv h0 _ nb (st + 1) 0 e.fKids env S funcs hR1 (by omega) (by omega) hkl (kids_ok hok (by omega)) hf0 hf (fun _ => ⟨hg1, henv⟩) (by omega)) ?_
  rintro r h' ⟨vs, S1, t1, c1, rfl, ⟨om1, og1, ov1, H1⟩, hvl, a1, a2, a3⟩
  have hb1 := H1.box
  unfold recBox at hb1
  simp (maxSteps := 1000000) -dsimp -implicitDefEqProofs only [go_sem, ↓reduceIte, keep275, ib275, mk275, Tryz.f275, hb1]
  refine ⟨fun hc => ?_, fun hc => ?_⟩
  · refine ⟨_, _, shift_self _ _, 0, S1, t1, c1, rfl, ⟨_, _, _, H1⟩, by omega, a2, ?_⟩
    rw [recE_op h3 (by omega)]
    exact a3.thenC (by rw [runE_ne _ hc]; exact outR_err _ _ hc)
  subst hc
  obtain ⟨_, e2⟩ := a3.ok rfl
  obtain ⟨q1, q2, q3, q4⟩ := seqR_good hp hg1 (by omega) henv (kids_ok hok (by omega)) hf _ _ e2
  simp only at q1 q2 q3
  try simp (maxSteps := 1000000) -dsimp -implicitDefEqProofs only [go_sem, ↓reduceIte, keep275, ib275, mk275, Tryz.f275, hk]
  refine HFnF.mkH (operation_of ⟨_, _, _, H1⟩ q1 a2 4 vs (by decide) (by omega) (by omega) q3.2 (by omega)) ?_
  rintro r h2 ⟨k2, S2, c2, rfl, hR3, b3⟩
  simp (maxSteps := 1000000) -dsimp -implicitDefEqProofs only [go_sem, ↓reduceIte, keep275, ib275, mk275, Tryz.f275]
  refine ⟨_, _, shift_self _ _, k2, S2, t1, c2, rfl, hR3, by omega, a2, ?_⟩
  rw [recE_op h3 (by omega)]
  refine a3.thenC ?_
  rw [runE_zero, hk]
  exact b3
set_option maxRecDepth 100000 in
theorem reg_5 {p : DProgram} (hp : p.ok) {inp : Int} {n : Nat} (hv : RegAt p inp n) {h0 h : Heap} {nb st : Nat} {e : DExpr} {env : List Int} {S : RSt} {funcs : Int} (hR : RecIn h0 nb p inp S st 0 h) (hst : st < 3000) (hn : 3001 ≤ n + 1 + st)
    (hok : e.ok p funcs env.length) (hf0 : 0 ≤ funcs) (hf : funcs ≤ p.fFuncs.length) (hg : Good inp S st) (henv : ∀ x ∈ env, inR S x) (hel : env.length ≤ 412 + st) (hk : e.fKind = 5) :
    HFn Tryz.prog 275 [.op nb 8 0 0, .agg e.c, ints env] h (RegQ h0 nb p inp st 0 (recE p (n + 1) st e env S)) := by
  obtain ⟨om, og, ov, H⟩ := hR
  rw [DExpr.c_eq]
  have hb := H.box
  unfold recBox at hb
  have e3 : ((st : Int) = 3000) = False := eq_false (by omega)
  have ew : IntKind.i64.wrap ((st : Int) + 1) = ((st + 1 : Nat) : Int) := by rw [IntWalk.i64_in _ (by omega)]; rfl
  have hnode := (DExpr.ok_iff _ _ _ _).1 hok
  have h3 : ¬ st = 3000 := by omega
  have hcap := hg.cap
  have hgcap := hg.gcap
  have hg1 := hg.later (Nat.le_succ st)
  have hR1 : RecIn h0 nb p inp S (st + 1) 0 (upd h nb (recBox p inp S om og ov (st + 1) 0)) := ⟨_, _, _, H.set (st + 1) 0⟩
  have hlen := kids_len hok (by omega)
  rw [hk, show kidsN 5 = 2 from rfl] at hlen
  have hkl : e.fKids.length ≤ 1048576 := by omega
  refine fnKF 190 keep275 ib275 mk275 mix Tryz.func275 rfl (by kernel_rfl) (by simp) ?_
  simp (maxSteps := 1000000) -dsimp -implicitDefEqProofs only [go_sem, ↓reduceIte, keep275, ib275, mk275, Tryz.f275, hb, e3, ew, hk]
  refine HFnF.mkH (all_reg hp hv h0 _ nb (st + 1) 0 e.fKids env S funcs hR1 (by omega) (by omega) hkl (kids_ok hok (by omega)) hf0 hf (fun _ => ⟨hg1, henv⟩) (by omega)) ?_
  rintro r h' ⟨vs, S1, t1, c1, rfl, ⟨om1, og1, ov1, H1⟩, hvl, a1, a2, a3⟩
  have hb1 := H1.box
  unfold recBox at hb1
  simp (maxSteps := 1000000) -dsimp -implicitDefEqProofs only [go_sem, ↓reduceIte, keep275, ib275, mk275, Tryz.f275, hb1]
  refine ⟨fun hc => ?_, fun hc => ?_⟩
  · refine ⟨_, _, shift_self _ _, 0, S1, t1, c1, rfl, ⟨_, _, _, H1⟩, by omega, a2, ?_⟩
    rw [recE_op h3 (by omega)]
    exact a3.thenC (by rw [runE_ne _ hc]; exact outR_err _ _ hc)
  subst hc
  obtain ⟨_, e2⟩ := a3.ok rfl
  obtain ⟨q1, q2, q3, q4⟩ := seqR_good hp hg1 (by omega) henv (kids_ok hok (by omega)) hf _ _ e2
  simp only at q1 q2 q3
  try simp (maxSteps := 1000000) -dsimp -implicitDefEqProofs only [go_sem, ↓reduceIte, keep275, ib275, mk275, Tryz.f275, hk]
  refine HFnF.mkH (operation_of ⟨_, _, _, H1⟩ q1 a2 5 vs (by decide) (by omega) (by omega) q3.2 (by omega)) ?_
  rintro r h2 ⟨k2, S2, c2, rfl, hR3, b3⟩
  simp (maxSteps := 1000000) -dsimp -implicitDefEqProofs only [go_sem, ↓reduceIte, keep275, ib275, mk275, Tryz.f275]
  refine ⟨_, _, shift_self _ _, k2, S2, t1, c2, rfl, hR3, by omega, a2, ?_⟩
  rw [recE_op h3 (by omega)]
  refine a3.thenC ?_
  rw [runE_zero, hk]
  exact b3
set_option maxRecDepth 100000 in
theorem reg_6 {p : DProgram} (hp : p.ok) {inp : Int} {n : Nat} (hv : RegAt p inp n) {h0 h : Heap} {nb st : Nat} {e : DExpr} {env : List Int} {S : RSt} {funcs : Int} (hR : RecIn h0 nb p inp S st 0 h) (hst : st < 3000) (hn : 3001 ≤ n + 1 + st)
    (hok : e.ok p funcs env.length) (hf0 : 0 ≤ funcs) (hf : funcs ≤ p.fFuncs.length) (hg : Good inp S st) (henv : ∀ x ∈ env, inR S x) (hel : env.length ≤ 412 + st) (hk : e.fKind = 6) :
    HFn Tryz.prog 275 [.op nb 8 0 0, .agg e.c, ints env] h (RegQ h0 nb p inp st 0 (recE p (n + 1) st e env S)) := by
  obtain ⟨om, og, ov, H⟩ := hR
  rw [DExpr.c_eq]
  have hb := H.box
  unfold recBox at hb
  have e3 : ((st : Int) = 3000) = False := eq_false (by omega)
  have ew : IntKind.i64.wrap ((st : Int) + 1) = ((st + 1 : Nat) : Int) := by rw [IntWalk.i64_in _ (by omega)]; rfl
  have hnode := (DExpr.ok_iff _ _ _ _).1 hok
  have h3 : ¬ st = 3000 := by omega
  have hcap := hg.cap
  have hgcap := hg.gcap
  have hg1 := hg.later (Nat.le_succ st)
  have hR1 : RecIn h0 nb p inp S (st + 1) 0 (upd h nb (recBox p inp S om og ov (st + 1) 0)) := ⟨_, _, _, H.set (st + 1) 0⟩
  have hlen := kids_len hok (by omega)
  rw [hk, show kidsN 6 = 2 from rfl] at hlen
  have hkl : e.fKids.length ≤ 1048576 := by omega
  refine fnKF 190 keep275 ib275 mk275 mix Tryz.func275 rfl (by kernel_rfl) (by simp) ?_
  simp (maxSteps := 1000000) -dsimp -implicitDefEqProofs only [go_sem, ↓reduceIte, keep275, ib275, mk275, Tryz.f275, hb, e3, ew, hk]
  refine HFnF.mkH (all_reg hp hv h0 _ nb (st + 1) 0 e.fKids env S funcs hR1 (by omega) (by omega) hkl (kids_ok hok (by omega)) hf0 hf (fun _ => ⟨hg1, henv⟩) (by omega)) ?_
  rintro r h' ⟨vs, S1, t1, c1, rfl, ⟨om1, og1, ov1, H1⟩, hvl, a1, a2, a3⟩
  have hb1 := H1.box
  unfold recBox at hb1
  simp (maxSteps := 1000000) -dsimp -implicitDefEqProofs only [go_sem, ↓reduceIte, keep275, ib275, mk275, Tryz.f275, hb1]
  refine ⟨fun hc => ?_, fun hc => ?_⟩
  · refine ⟨_, _, shift_self _ _, 0, S1, t1, c1, rfl, ⟨_, _, _, H1⟩, by omega, a2, ?_⟩
    rw [recE_op h3 (by omega)]
    exact a3.thenC (by rw [runE_ne _ hc]; exact outR_err _ _ hc)
  subst hc
  obtain ⟨_, e2⟩ := a3.ok rfl
  obtain ⟨q1, q2, q3, q4⟩ := seqR_good hp hg1 (by omega) henv (kids_ok hok (by omega)) hf _ _ e2
  simp only at q1 q2 q3
  try simp (maxSteps := 1000000) -dsimp -implicitDefEqProofs only [go_sem, ↓reduceIte, keep275, ib275, mk275, Tryz.f275, hk]
  refine HFnF.mkH (operation_of ⟨_, _, _, H1⟩ q1 a2 6 vs (by decide) (by omega) (by omega) q3.2 (by omega)) ?_
  rintro r h2 ⟨k2, S2, c2, rfl, hR3, b3⟩
  simp (maxSteps := 1000000) -dsimp -implicitDefEqProofs only [go_sem, ↓reduceIte, keep275, ib275, mk275, Tryz.f275]
  refine ⟨_, _, shift_self _ _, k2, S2, t1, c2, rfl, hR3, by omega, a2, ?_⟩
  rw [recE_op h3 (by omega)]
  refine a3.thenC ?_
  rw [runE_zero, hk]
  exact b3
set_option maxRecDepth 100000 in
theorem reg_7 {p : DProgram} (hp : p.ok) {inp : Int} {n : Nat} (hv : RegAt p inp n) {h0 h : Heap} {nb st : Nat} {e : DExpr} {env : List Int} {S : RSt} {funcs : Int} (hR : RecIn h0 nb p inp S st 0 h) (hst : st < 3000) (hn : 3001 ≤ n + 1 + st)
    (hok : e.ok p funcs env.length) (hf0 : 0 ≤ funcs) (hf : funcs ≤ p.fFuncs.length) (hg : Good inp S st) (henv : ∀ x ∈ env, inR S x) (hel : env.length ≤ 412 + st) (hk : e.fKind = 7) :
    HFn Tryz.prog 275 [.op nb 8 0 0, .agg e.c, ints env] h (RegQ h0 nb p inp st 0 (recE p (n + 1) st e env S)) := by
  obtain ⟨om, og, ov, H⟩ := hR
  rw [DExpr.c_eq]
  have hb := H.box
  unfold recBox at hb
  have e3 : ((st : Int) = 3000) = False := eq_false (by omega)
  have ew : IntKind.i64.wrap ((st : Int) + 1) = ((st + 1 : Nat) : Int) := by rw [IntWalk.i64_in _ (by omega)]; rfl
  have hnode := (DExpr.ok_iff _ _ _ _).1 hok
  have h3 : ¬ st = 3000 := by omega
  have hcap := hg.cap
  have hgcap := hg.gcap
  have hg1 := hg.later (Nat.le_succ st)
  have hR1 : RecIn h0 nb p inp S (st + 1) 0 (upd h nb (recBox p inp S om og ov (st + 1) 0)) := ⟨_, _, _, H.set (st + 1) 0⟩
  have hlen := kids_len hok (by omega)
  rw [hk, show kidsN 7 = 1 from rfl] at hlen
  have hkl : e.fKids.length ≤ 1048576 := by omega
  refine fnKF 190 keep275 ib275 mk275 mix Tryz.func275 rfl (by kernel_rfl) (by simp) ?_
  simp (maxSteps := 1000000) -dsimp -implicitDefEqProofs only [go_sem, ↓reduceIte, keep275, ib275, mk275, Tryz.f275, hb, e3, ew, hk]
  refine HFnF.mkH (all_reg hp hv h0 _ nb (st + 1) 0 e.fKids env S funcs hR1 (by omega) (by omega) hkl (kids_ok hok (by omega)) hf0 hf (fun _ => ⟨hg1, henv⟩) (by omega)) ?_
  rintro r h' ⟨vs, S1, t1, c1, rfl, ⟨om1, og1, ov1, H1⟩, hvl, a1, a2, a3⟩
  have hb1 := H1.box
  unfold recBox at hb1
  simp (maxSteps := 1000000) -dsimp -implicitDefEqProofs only [go_sem, ↓reduceIte, keep275, ib275, mk275, Tryz.f275, hb1]
  refine ⟨fun hc => ?_, fun hc => ?_⟩
  · refine ⟨_, _, shift_self _ _, 0, S1, t1, c1, rfl, ⟨_, _, _, H1⟩, by omega, a2, ?_⟩
    rw [recE_op h3 (by omega)]
    exact a3.thenC (by rw [runE_ne _ hc]; exact outR_err _ _ hc)
  subst hc
  obtain ⟨_, e2⟩ := a3.ok rfl
  obtain ⟨q1, q2, q3, q4⟩ := seqR_good hp hg1 (by omega) henv (kids_ok hok (by omega)) hf _ _ e2
  simp only at q1 q2 q3
  try simp (maxSteps := 1000000) -dsimp -implicitDefEqProofs only [go_sem, ↓reduceIte, keep275, ib275, mk275, Tryz.f275, hk]
  refine HFnF.mkH (operation_of ⟨_, _, _, H1⟩ q1 a2 7 vs (by decide) (by omega) (by omega) q3.2 (by omega)) ?_
  rintro r h2 ⟨k2, S2, c2, rfl, hR3, b3⟩
  simp (maxSteps := 1000000) -dsimp -implicitDefEqProofs only [go_sem, ↓reduceIte, keep275, ib275, mk275, Tryz.f275]
  refine ⟨_, _, shift_self _ _, k2, S2, t1, c2, rfl, hR3, by omega, a2, ?_⟩
  rw [recE_op h3 (by omega)]
  refine a3.thenC ?_
  rw [runE_zero, hk]
  exact b3
set_option maxRecDepth 100000 in
theorem reg_10 {p : DProgram} (hp : p.ok) {inp : Int} {n : Nat} (hv : RegAt p inp n) {h0 h : Heap} {nb st : Nat} {e : DExpr} {env : List Int} {S : RSt} {funcs : Int} (hR : RecIn h0 nb p inp S st 0 h) (hst : st < 3000) (hn : 3001 ≤ n + 1 + st)
    (hok : e.ok p funcs env.length) (hf0 : 0 ≤ funcs) (hf : funcs ≤ p.fFuncs.length) (hg : Good inp S st) (henv : ∀ x ∈ env, inR S x) (hel : env.length ≤ 412 + st) (hk : e.fKind = 10) :
    HFn Tryz.prog 275 [.op nb 8 0 0, .agg e.c, ints env] h (RegQ h0 nb p inp st 0 (recE p (n + 1) st e env S)) := by
  obtain ⟨om, og, ov, H⟩ := hR
  rw [DExpr.c_eq]
  have hb := H.box
  unfold recBox at hb
  have e3 : ((st : Int) = 3000) = False := eq_false (by omega)
  have ew : IntKind.i64.wrap ((st : Int) + 1) = ((st + 1 : Nat) : Int) := by rw [IntWalk.i64_in _ (by omega)]; rfl
  have hnode := (DExpr.ok_iff _ _ _ _).1 hok
  have h3 : ¬ st = 3000 := by omega
  have hcap := hg.cap
  have hgcap := hg.gcap
  have hg1 := hg.later (Nat.le_succ st)
  have hR1 : RecIn h0 nb p inp S (st + 1) 0 (upd h nb (recBox p inp S om og ov (st + 1) 0)) := ⟨_, _, _, H.set (st + 1) 0⟩
  obtain ⟨f, F⟩ := callsOf hp hok hf (.inl hk)
  have hkl : e.fKids.length ≤ 1048576 := by have := F.kids; have := F.params; omega
  refine fnKF 190 keep275 ib275 mk275 mix Tryz.func275 rfl (by kernel_rfl) (by simp) ?_
  simp (maxSteps := 1000000) -dsimp -implicitDefEqProofs only [go_sem, ↓reduceIte, keep275, ib275, mk275, Tryz.f275, hb, e3, ew, hk]
  refine HFnF.mkH (all_reg hp hv h0 _ nb (st + 1) 0 e.fKids env S funcs hR1 (by omega) (by omega) hkl (kids_ok hok (by omega)) hf0 hf (fun _ => ⟨hg1, henv⟩) (by omega)) ?_
  rintro r h' ⟨vs, S1, t1, c1, rfl, ⟨om1, og1, ov1, H1⟩, hvl, a1, a2, a3⟩
  have hb1 := H1.box
  unfold recBox at hb1
  simp (maxSteps := 1000000) -dsimp -implicitDefEqProofs only [go_sem, ↓reduceIte, keep275, ib275, mk275, Tryz.f275, hb1]
  refine ⟨fun hc => ?_, fun hc => ?_⟩
  · refine ⟨_, _, shift_self _ _, 0, S1, t1, c1, rfl, ⟨_, _, _, H1⟩, by omega, a2, ?_⟩
    rw [recE_10 h3 hk]
    exact a3.thenC (by rw [runE_ne _ hc]; exact outR_err _ _ hc)
  subst hc
  obtain ⟨_, e2⟩ := a3.ok rfl
  obtain ⟨q1, q2, q3, q4⟩ := seqR_good hp hg1 (by omega) henv (kids_ok hok (by omega)) hf _ _ e2
  simp only at q1 q2 q3
  try simp (maxSteps := 1000000) -dsimp -implicitDefEqProofs only [go_sem, ↓reduceIte, keep275, ib275, mk275, Tryz.f275, hk, hb1, F.get, F.out, DFunc.c_eq, DExpr.ld5]
  have f1 := F.lo
  have f2 := F.hi
  have f3 := F.pk
  have f4 := F.pk2
  have f5 := F.kids
  have f6 := F.params
  refine ⟨f1, f2, f3, by omega, ?_⟩
  refine HFnF.mkH (hv h0 _ nb t1 0 (p.out e.fNum e.fPick) vs S1 e.fNum ⟨_, _, _, H1⟩ (by omega) (by omega) (by rw [hvl, f5]; exact F.oks _ (List.mem_of_getElem? F.out)) f1 (by omega) (fun _ => ⟨q1, q3.2⟩) (by omega)) ?_
  rintro r h2 ⟨k2, S2, t2, c2, rfl, hR3, b1, b2, b3⟩
  simp (maxSteps := 1000000) -dsimp -implicitDefEqProofs only [go_sem, ↓reduceIte, keep275, ib275, mk275, Tryz.f275]
  refine ⟨_, _, shift_self _ _, k2, S2, t2, c2, rfl, hR3, by omega, b2, ?_⟩
  rw [recE_10 h3 hk]
  exact a3.thenC b3
set_option maxRecDepth 100000 in
theorem reg_11 {p : DProgram} (hp : p.ok) {inp : Int} {n : Nat} (hv : RegAt p inp n) {h0 h : Heap} {nb st : Nat} {e : DExpr} {env : List Int} {S : RSt} {funcs : Int} (hR : RecIn h0 nb p inp S st 0 h) (hst : st < 3000) (hn : 3001 ≤ n + 1 + st)
    (hok : e.ok p funcs env.length) (hf0 : 0 ≤ funcs) (hf : funcs ≤ p.fFuncs.length) (hg : Good inp S st) (henv : ∀ x ∈ env, inR S x) (hel : env.length ≤ 412 + st) (hk : e.fKind = 11) :
    HFn Tryz.prog 275 [.op nb 8 0 0, .agg e.c, ints env] h (RegQ h0 nb p inp st 0 (recE p (n + 1) st e env S)) := by
  obtain ⟨om, og, ov, H⟩ := hR
  rw [DExpr.c_eq]
  have hb := H.box
  unfold recBox at hb
  have e3 : ((st : Int) = 3000) = False := eq_false (by omega)
  have ew : IntKind.i64.wrap ((st : Int) + 1) = ((st + 1 : Nat) : Int) := by rw [IntWalk.i64_in _ (by omega)]; rfl
  have hnode := (DExpr.ok_iff _ _ _ _).1 hok
  have h3 : ¬ st = 3000 := by omega
  have hcap := hg.cap
  have hgcap := hg.gcap
  have hg1 := hg.later (Nat.le_succ st)
  have hR1 : RecIn h0 nb p inp S (st + 1) 0 (upd h nb (recBox p inp S om og ov (st + 1) 0)) := ⟨_, _, _, H.set (st + 1) 0⟩
  obtain ⟨f, F⟩ := callsOf hp hok hf (.inr hk)
  have hkl : e.fKids.length ≤ 1048576 := by have := F.kids; have := F.params; omega
  have f1 := F.lo
  have f2 := F.hi
  have f3 := F.pk
  have f4 := F.pk2
  have f5 := F.kids
  have f6 := F.params
  have f7 := F.loop hk
  have f8 := F.outs
  refine fnKF 190 keep275 ib275 mk275 mix Tryz.func275 rfl (by kernel_rfl) (by simp) ?_
  simp (maxSteps := 1000000) -dsimp -implicitDefEqProofs only [go_sem, ↓reduceIte, keep275, ib275, mk275, Tryz.f275, hb, e3, ew, hk]
  refine HFnF.mkH (all_reg hp hv h0 _ nb (st + 1) 0 e.fKids env S funcs hR1 (by omega) (by omega) hkl (kids_ok hok (by omega)) hf0 hf (fun _ => ⟨hg1, henv⟩) (by omega)) ?_
  rintro r h' ⟨vs, S1, t1, c1, rfl, ⟨om1, og1, ov1, H1⟩, hvl, a1, a2, a3⟩
  have hb1 := H1.box
  unfold recBox at hb1
  simp (maxSteps := 1000000) -dsimp -implicitDefEqProofs only [go_sem, ↓reduceIte, keep275, ib275, mk275, Tryz.f275, hb1]
  refine ⟨fun hc => ?_, fun hc => ?_⟩
  · refine ⟨_, _, shift_self _ _, 0, S1, t1, c1, rfl, ⟨_, _, _, H1⟩, by omega, a2, ?_⟩
    rw [recE_11 h3 hk]
    exact a3.thenC (by rw [runE_ne _ hc]; exact outR_err _ _ hc)
  subst hc
  obtain ⟨_, e2⟩ := a3.ok rfl
  obtain ⟨q1, q2, q3, q4⟩ := seqR_good hp hg1 (by omega) henv (kids_ok hok (by omega)) hf _ _ e2
  simp only at q1 q2 q3
  try simp (maxSteps := 1000000) -dsimp -implicitDefEqProofs only [go_sem, ↓reduceIte, keep275, ib275, mk275, Tryz.f275, hk]
  have hiter : ∀ (k : Nat) (us : List Int) (S2 : RSt) (t : Nat) (c : Int), outR (iterR (fun vs t S => seqR (fun t e S => recE p n t e vs S) (p.outs e.fNum) t S) k vs t1 S1) (us, S2) t c → k ≤ e.fCount.toNat → (¬ c = 0 ∨ k = e.fCount.toNat) → outR (runE 0 (recE p (n + 1) st e env S)) (us.getD e.fPick.toNat 0, S2) t c := fun k us S2 t c ho hk1 hor => by
    rw [recE_11 h3 hk]
    refine a3.thenC ?_
    rw [runE_zero]
    refine outR.then (v := (us, S2)) (t := t) (c := c) ?_ (outR_init _ _ _)
    rcases hor with hc | rfl
    · have := ho.err hc
      rw [iterR_err _ k hk1 this]
      exact outR_err _ _ hc
    · exact ho
  have hfl : ∀ us t S2, Good inp S2 t → (us.length = f.fOuts.length ∧ ∀ x ∈ us, inR S2 x) → t ≤ 3000 → okQ (RecQL inp S2 t f.fOuts.length) (seqR (fun t e S => recE p n t e us S) (p.outs e.fNum) t S2) := fun us w S2 hg' hv' hw => by
    rw [F.eq]
    exact seqR_good hp hg' hw hv'.2 (funcs := e.fNum) (fun x hx => by rw [hv'.1, f7.2.2]; exact F.oks x hx) (by omega)
  refine loopF (keep := keep275) (ib := ib275) (mk := mk275) mix (by kernel_rfl) (fun x : Nat × List Int × Nat × Int × RSt × Heap => [(0, .op nb 8 0 0), (4, .ip 5 [[I 11, I e.fNum, I e.fPick, I e.fCount, sls 5 DExpr.c e.fKids]] 0 0), (9, ints x.2.1), (10, I x.1)]) (fun x => x.2.2.2.2.2) (fun x => x.1 ≤ e.fCount.toNat ∧ x.2.1.length = f.fOuts.length ∧ t1 ≤ x.2.2.1 ∧ x.2.2.1 ≤ 3000 ∧ outR (iterR (fun vs t S => seqR (fun t e S => recE p n t e vs S) (p.outs e.fNum) t S) x.1 vs t1 S1) (x.2.1, x.2.2.2.2.1) x.2.2.1 x.2.2.2.1 ∧ RecIn h0 nb p inp x.2.2.2.2.1 x.2.2.1 x.2.2.2.1 x.2.2.2.2.2) (fun x => e.fCount.toNat - x.1) (0, vs, t1, 0, S1, h') ⟨by simp [SatL, tget], Heap.le_refl _, Nat.zero_le _, by simp only; omega, Nat.le_refl _, a2, outR_ok _ _, ⟨_, _, _, H1⟩⟩ ?_
  rintro ⟨k, us, t, c, S2, g⟩ ⟨hk1, hul, ht0, ht, ho, ⟨om2, og2, ov2, H2⟩⟩
  simp only at hk1 hul ht0 ht ho H2 ⊢
  have hb2 := H2.box
  unfold recBox at hb2
  have gp : us[e.fPick.toNat]? = some (us.getD e.fPick.toNat 0) := getD_get (by omega)
  simp (maxSteps := 1000000) -dsimp -implicitDefEqProofs only [go_sem, ↓reduceIte, keep275, ib275, mk275, Tryz.f275, hb2, F.get, DFunc.c_eq, gp]
  refine ⟨fun hlt => ⟨fun hc => ⟨f1, f2, ?_⟩, fun hc => ?_⟩, fun hge => ?_⟩
  · subst hc
    obtain ⟨_, e3⟩ := outR.ok (c := 0) (by rw [runE_zero]; exact ho) rfl
    obtain ⟨w1, w2, w3, w4⟩ := iterR_ok hfl k vs t1 S1 q1 ⟨by omega, q3.2⟩ a2 _ _ e3
    simp only at w1 w2 w3
    refine HFnF.mkH (all_reg hp hv h0 _ nb t 0 f.fOuts us S2 e.fNum ⟨_, _, _, H2⟩ ht (by omega) (by omega) (by rw [hul, f7.2.2]; exact F.oks) f1 (by omega) (fun _ => ⟨w1, w3.2⟩) (by omega)) ?_
    rintro r h2 ⟨l2, S3, t2, c2, rfl, hR3, hl2, b1, b2, b3⟩
    simp (maxSteps := 1000000) -dsimp -implicitDefEqProofs only [go_sem, ↓reduceIte, keep275, ib275, mk275, Tryz.f275]
    refine ⟨(k + 1, l2, t2, c2, S3, h2), ⟨rfl, by rw [IntWalk.i64_in _ (by omega)]; rfl⟩, Heap.le_refl _, ⟨by omega, hl2, by simp only; omega, b2, ?_, hR3⟩, by simp only; omega⟩
    simp only
    rw [iterR_snoc]
    refine ho.then ?_
    rw [F.eq]
    exact b3
  · exact ⟨f3, by omega, _, _, shift_self _ _, _, S2, t, c, rfl, ⟨_, _, _, H2⟩, by omega, ht, hiter k us S2 t c ho hk1 (.inl hc)⟩
  · exact ⟨f3, by omega, _, _, shift_self _ _, _, S2, t, c, rfl, ⟨_, _, _, H2⟩, by omega, ht, hiter k us S2 t c ho hk1 (.inr (by omega))⟩
theorem reg {p : DProgram} (hp : p.ok) {inp : Int} : ∀ n, RegAt p inp n
  | 0 => fun h0 h nb st c e env S funcs hb hst hn => by omega
  | n + 1 => fun h0 h nb st c e env S funcs hb hst hn hok hf0 hf hgo hel => by
    have hv := reg hp (inp := inp) n
    by_cases hs : ¬ c = 0 ∨ st = 3000
    · exact reg_stop hb hst hs
    have hc : c = 0 := Classical.byContradiction fun q => hs (.inl q)
    have h3 : st < 3000 := by
      rcases Nat.lt_or_ge st 3000 with h | h
      · exact h
      · exact absurd (.inr (by omega)) hs
    subst hc
    obtain ⟨hg, henv⟩ := hgo rfl
    rcases node_kind ((DExpr.ok_iff _ _ _ _).1 hok).1 with hk | hk | hk | hk | hk | hk | hk | hk | hk | hk | hk
    · exact reg_1 hp hv hb h3 hn hok hf0 hf hg henv hel hk
    · exact reg_2 hp hv hb h3 hn hok hf0 hf hg henv hel hk
    · exact reg_3 hp hv hb h3 hn hok hf0 hf hg henv hel hk
    · exact reg_4 hp hv hb h3 hn hok hf0 hf hg henv hel hk
    · exact reg_5 hp hv hb h3 hn hok hf0 hf hg henv hel hk
    · exact reg_6 hp hv hb h3 hn hok hf0 hf hg henv hel hk
    · exact reg_7 hp hv hb h3 hn hok hf0 hf hg henv hel hk
    · exact reg_8 hp hv hb h3 hn hok hf0 hf hg henv hel hk
    · exact reg_9 hp hv hb h3 hn hok hf0 hf hg henv hel hk
    · exact reg_10 hp hv hb h3 hn hok hf0 hf hg henv hel hk
    · exact reg_11 hp hv hb h3 hn hok hf0 hf hg henv hel hk
open Go.Proofs
set_option linter.unusedVariables false
set_option linter.unusedSimpArgs false
structure DTape where
  fInputs : Int
  fCode : List DInstr
  fGuards : List DGuard
  fOuts : List Int
def DTape.c (x : DTape) : List HVal := [I x.fInputs, sls 4 DInstr.c x.fCode, sls 2 DGuard.c x.fGuards, ints x.fOuts]
theorem DTape.c_eq (x : DTape) : x.c = [I x.fInputs, sls 4 DInstr.c x.fCode, sls 2 DGuard.c x.fGuards, ints x.fOuts] := rfl
/-- The tape of a function at arguments, and a code. -/
def recRes (p : DProgram) (f : Int) (args : List Int) : DTape × Int := match recF p f args with
  | .ok ((l, S), _) => (⟨args.length, S.code, S.guards, l⟩, 0)
  | .error c => (⟨0, [], [], []⟩, c)
theorem RecG.seal {bx : RSt → Option Nat → Option Nat → Option Nat → HObj} {h0 h F hh : Heap} {nb : Nat} {inp : Int} {S : RSt} {om og ov : Option Nat} (H : RecG bx h0 nb S om og ov h) (l : List Int) (d : Int)
    (hF : ∀ n, some n = om ∨ some n = og → F n = h n) (hl : hh.le F) (hn : ∀ n, some n = om ∨ some n = og → hh n = none) :
    Shift (.tup [.agg [I inp, onil 4 S.code.length om, onil 2 S.guards.length og, ints l], I d]) F (.tup [.agg [I inp, sls 4 DInstr.c S.code, sls 2 DGuard.c S.guards, ints l], I d]) hh := by
  have hc := H.code
  have hg := H.gds
  have ap := H.apart
  cases om with
  | none =>
    have hc0 : S.code = [] := rowsOf_nil.1 hc
    cases og with
    | none =>
      have hg0 : S.guards = [] := rowsOf_nil.1 hg
      rw [hc0, hg0]
      exact Shift.of (Sub.tup (.cons (Sub.agg (.cons (.refl _) (.cons (Sub.nil _ _) (.cons (Sub.nil _ _) (.cons (.refl _) .nil))))) (.cons (.refl _) .nil))) hl
    | some g =>
      have hgF := (hF g (.inr rfl)).trans hg.2
      rw [hc0]
      refine Shift.trans (Shift.of (Sub.tup (.cons (Sub.agg (.cons (.refl _) (.cons (Sub.nil 4 false) (.cons (.refl _) (.cons (.refl _) .nil))))) (.cons (.refl _) .nil))) (Heap.le_refl F)) ?_
      refine shift_seal (n := g) (sz := 2) (S.guards.map DGuard.c) (hn g (.inr rfl)) ?_ (by simp [sealOK, sealOKL, onil]) ?_
      · intro q
        by_cases e : q = g
        · subst e; right; rw [upd_same]; exact hgF.symm
        · rw [upd_ne _ _ _ _ e]; exact hl q
      · simp [HVal.sealUp, sealL, onil, List.take_of_length_le]
  | some m =>
    have hmF := (hF m (.inl rfl)).trans hc.2
    cases og with
    | none =>
      have hg0 : S.guards = [] := rowsOf_nil.1 hg
      rw [hg0]
      refine Shift.trans (Shift.of (Sub.tup (.cons (Sub.agg (.cons (.refl _) (.cons (.refl _) (.cons (Sub.nil 2 false) (.cons (.refl _) .nil))))) (.cons (.refl _) .nil))) (Heap.le_refl F)) ?_
      refine shift_seal (n := m) (sz := 4) (S.code.map DInstr.c) (hn m (.inl rfl)) ?_ (by simp [sealOK, sealOKL, onil]) ?_
      · intro q
        by_cases e : q = m
        · subst e; right; rw [upd_same]; exact hmF.symm
        · rw [upd_ne _ _ _ _ e]; exact hl q
      · simp [HVal.sealUp, sealL, onil, List.take_of_length_le]
    | some g =>
      have hgF := (hF g (.inr rfl)).trans hg.2
      have hne : ¬ g = m := fun e => ((ap g).2.1 (by rw [e])).1 rfl
      refine Shift.trans (b := .tup [.agg [I inp, onil 4 S.code.length (some m), sls 2 DGuard.c S.guards, ints l], I d]) (h2 := upd hh m (.row 4 (rowsOf DInstr.c S.code))) ?_ ?_
      · refine shift_seal (n := g) (sz := 2) (S.guards.map DGuard.c) (by rw [upd_ne _ _ _ _ hne]; exact hn g (.inr rfl)) ?_ (by simp [sealOK, sealOKL, onil]; exact fun e => hne e.symm) ?_
        · intro q
          by_cases e : q = g
          · subst e; right; rw [upd_same]; exact hgF.symm
          · rw [upd_ne _ _ _ _ e]
            by_cases e2 : q = m
            · subst e2; right; rw [upd_same]; exact hmF.symm
            · rw [upd_ne _ _ _ _ e2]; exact hl q
        · have hne' : ¬ m = g := fun e => hne e.symm
          simp [HVal.sealUp, sealL, onil, List.take_of_length_le, hne']
      · refine shift_seal (n := m) (sz := 4) (S.code.map DInstr.c) (hn m (.inl rfl)) (Heap.le_refl _) (by simp [sealOK, sealOKL, onil]) ?_
        simp [HVal.sealUp, sealL, onil, List.take_of_length_le]
theorem RecG.keep {h0 h : Heap} {nb : Nat} {bx : RSt → Option Nat → Option Nat → Option Nat → HObj} {S : RSt} {om og ov : Option Nat} (H : RecG bx h0 nb S om og ov h) {n : Nat} {o : HObj} (hn : h0 n = some o) : h n = some o ∧ ¬ n = nb ∧ ¬ some n = om ∧ ¬ some n = og ∧ ¬ some n = ov := by
  have hne : ∀ q, ¬ (q = nb ∨ some q = om ∨ some q = og ∨ some q = ov) ∨ h0 q = .none := fun q => by
    by_cases e : q = nb ∨ some q = om ∨ some q = og ∨ some q = ov
    · exact .inr (H.fresh q e)
    · exact .inl e
  have h1 : ¬ (n = nb ∨ some n = om ∨ some n = og ∨ some n = ov) := by
    rcases hne n with e | e
    · exact e
    · rw [hn] at e; cases e
  have e1 : ¬ n = nb := fun e => h1 (.inl e)
  have e2 : ¬ some n = om := fun e => h1 (.inr (.inl e))
  have e3 : ¬ some n = og := fun e => h1 (.inr (.inr (.inl e)))
  have e4 : ¬ some n = ov := fun e => h1 (.inr (.inr (.inr e)))
  exact ⟨(H.upto n e1 e2 e3 e4).trans hn, e1, e2, e3, e4⟩
theorem RecG.le {h0 h : Heap} {nb : Nat} {bx : RSt → Option Nat → Option Nat → Option Nat → HObj} {S : RSt} {om og ov : Option Nat} (H : RecG bx h0 nb S om og ov h) : h0.le h := fun q => by
  cases e : h0 q with
  | none => exact .inl rfl
  | some o => right; exact (H.keep e).1.symm
theorem recIn_init {h0 : Heap} {nb : Nat} (p : DProgram) (inp : Int) (hn : h0 nb = none) : RecIn h0 nb p inp ⟨[], [], []⟩ 0 0 (upd h0 nb (recBox p inp ⟨[], [], []⟩ none none none 0 0)) :=
  ⟨none, none, none, upd_same _ _ _, recBox_odd _ _ _ _, rfl, rfl, rfl, fun n h => (by rcases h with rfl | h | h | h; exact hn; cases h; cases h; cases h), fun n h1 _ _ _ => upd_ne _ _ _ _ h1⟩
def inSk (args : List Int) (k : Nat) : RSt := ⟨(List.range k).map fun i : Nat => ⟨1, 0, 0, (i : Int)⟩, args.take k, []⟩
def inEk (k : Nat) : List Int := (List.range k).map fun i : Nat => (i : Int)
theorem inSk_all (args : List Int) : inSk args args.length = inS args := by rw [inSk, List.take_length]; rfl
theorem inSk_succ {args : List Int} {k : Nat} (hk : k < args.length) : inSk args (k + 1) = (inSk args k).put ⟨1, 0, 0, (k : Int)⟩ args[k] := by
  rw [inSk, inSk, RSt.put, List.range_succ, List.map_append, List.take_succ_eq_append_getElem hk]; rfl
theorem inEk_succ (k : Nat) : inEk (k + 1) = inEk k ++ [(k : Int)] := by rw [inEk, inEk, List.range_succ, List.map_append]; rfl
def keep155 : List Nat := [0, 1, 2, 3, 6, 7, 8, 9, 10, 11, 12, 28, 30, 44, 45, 46, 47, 77]
def ib155 : List Nat := [3, 43, 57]
def mk155 : Marks := fun id => match id with | 6 => ([9], (.op 0 (.op 1 (.op 2 (.op 3 (.op 4 (.op 5 (.op 6 (.op 7 (.op 8 (.op 9 (.op 10 .nil))))))))))), []) | 15 => ([4, 5], (.op 0 (.op 1 (.op 2 (.op 3 (.op 4 (.op 5 (.op 6 .nil))))))), [(4, 5)]) | _ => ([], .nil, [])
set_option maxRecDepth 100000 in
theorem Record {p : DProgram} (hp : p.ok) (hps : p.s ≤ 4194304) (f : Int) (hf : 0 ≤ f ∧ f < p.fFuncs.length) (args : List Int) (ha : Nums args) (hl12 : args.length ≤ 12) (hl : ∀ F, p.fFuncs[f.toNat]? = some F → (args.length : Int) = F.fParams) :
    Fn0 Tryz.prog 155 [.agg p.c, I f, ints args] (.tup [.agg (recRes p f args).1.c, I (recRes p f args).2]) := by
  have hif := isFunc p f hps
  obtain ⟨F, ef, hF1, hF2, hF3, hF4⟩ := func_ok hp hf
  have hla := hl F ef
  rw [if_pos hp, if_pos (by omega)] at hif
  simp only [DProgram.c_eq] at hif ⊢
  have han := areNumbers args F.fParams
  rw [decide_eq_true (show (args.length : Int) = F.fParams ∧ Nums args from ⟨hla, ha⟩)] at han
  refine fn0S 87 keep155 ib155 mk155 mix Tryz.func155 rfl (by kernel_rfl) (by simp) fun h => ?_
  simp (maxSteps := 1000000) -dsimp -implicitDefEqProofs only [go_sem, ↓reduceIte, keep155, ib155, mk155, Tryz.f155, ef, DFunc.c_eq]
  intro n6 z6
  try simp (maxSteps := 1000000) -dsimp -implicitDefEqProofs only [go_sem, ↓reduceIte, keep155, ib155, mk155, Tryz.f155, ef, DFunc.c_eq]
  first | refine HFnF.mk (hif) ?_ | refine CallSF.mk (hif) ?_ | refine HFnF.mkAt (hif) ?_ | refine CallSF.mk (FnAt.fn0 (hif)) ?_
  simp (maxSteps := 1000000) -dsimp -implicitDefEqProofs only [go_sem, ↓reduceIte, keep155, ib155, mk155, Tryz.f155, ef, DFunc.c_eq]
  refine ⟨hf.1, hf.2, ?_⟩
  first | refine HFnF.mk (han) ?_ | refine CallSF.mk (han) ?_ | refine HFnF.mkAt (han) ?_ | refine CallSF.mk (FnAt.fn0 (han)) ?_
  simp (maxSteps := 1000000) -dsimp -implicitDefEqProofs only [go_sem, ↓reduceIte, keep155, ib155, mk155, Tryz.f155, ef, DFunc.c_eq]
  refine ⟨hf.1, hf.2, fun nb ⟨hb6, zb⟩ => ⟨Nat.zero_lt_one, fun _ => ?_⟩⟩
  have d_nb_n6 : ¬ nb = n6 := hb6
  have d_n6_nb : ¬ n6 = nb := Ne.symm d_nb_n6
  have e_nb_n6 : (nb = n6) = False := eq_false d_nb_n6
  have e_n6_nb : (n6 = nb) = False := eq_false d_n6_nb
  generalize hh6 : upd h n6 (.row 4 [[.v (.int .i64 0), .v .nilsl, .v .nilsl, .v .nilsl]]) = h6
  have zb6 : h6 nb = none := by rw [← hh6, upd_ne _ _ _ _ d_nb_n6]; exact zb
  have hin := recIn_init (h0 := h6) p F.fParams zb6
  refine loopF (keep := keep155) (ib := ib155) (mk := mk155) mix (by kernel_rfl) (fun x : Nat × Heap × Option Nat => [(1, I f), (3, .ip 1 [[sls 3 DFunc.c p.fFuncs]] 0 0), (6, .op n6 4 0 0), (9, .op nb 8 0 0), (10, oval 1 x.1 x.2.2), (44, ints args), (45, I args.length), (46, I x.1)]) (fun x => oheap x.2.1 (.row 1 (((inEk x.1).map fun n => [I n]).map (List.map .v))) x.2.2) (fun x => x.1 ≤ args.length ∧ RecIn h6 nb p F.fParams (inSk args x.1) 0 0 x.2.1 ∧ oside x.2.1 (inEk x.1) x.2.2) (fun x => args.length - x.1) (0, upd h6 nb (recBox p F.fParams ⟨[], [], []⟩ none none none 0 0), none) ⟨by simp [SatL, tget, oval], Heap.le_refl _, Nat.zero_le _, hin, rfl⟩ ?_
  rintro ⟨k, g, o⟩ ⟨hk, hR, hos⟩
  simp only at hk hR hos ⊢
  have hel : (inEk k).length = k := by simp [inEk]
  rcases Nat.lt_or_ge k args.length with hlt | hge
  · have ek : args[k]? = some args[k] := List.getElem?_eq_getElem hlt
    have hsl : (inSk args k).code.length = (inSk args k).vals.length := by simp [inSk]; omega
    have hvl : (inSk args k).vals.length = k := by simp [inSk]; omega
    have hy := inEk_succ k
    cases o with
    | none =>
      rw [oside_none] at hos
      have k0 : k = 0 := by rw [← hel, hos]; rfl
      subst k0
      simp (maxSteps := 1000000) -dsimp -implicitDefEqProofs only [go_sem, ↓reduceIte, keep155, ib155, mk155, Tryz.f155, oval_none, oheap_none, hlt, ek]
      refine HFnF.mkH (put_of hR ⟨1, 0, 0, ((0 : Nat) : Int)⟩ args[0] hsl (by omega)) ?_
      rintro r h' ⟨rfl, hR2⟩
      simp (maxSteps := 1000000) -dsimp -implicitDefEqProofs only [go_sem, ↓reduceIte, keep155, ib155, mk155, Tryz.f155]
      refine ⟨Nat.zero_lt_one, Nat.zero_lt_one, Nat.zero_lt_one, fun b hb2 => ⟨(1, h', some b), ⟨rfl, by rw [IntWalk.i64_in _ (by omega)]; rfl⟩, ?_, ⟨hlt, by rw [inSk_succ hlt]; exact hR2, hb2⟩, by simp only; omega⟩⟩
      rw [hvl]
      exact Heap.le_refl _
    | some m =>
      rw [oside_some] at hos
      simp (maxSteps := 1000000) -dsimp -implicitDefEqProofs only [go_sem, ↓reduceIte, keep155, ib155, mk155, Tryz.f155, oval_some, oheap_some, hlt, ek]
      refine HFnF.mkH (put_of (hR.over hos) ⟨1, 0, 0, (k : Int)⟩ args[k] hsl (by omega)) ?_
      rintro r h' ⟨rfl, hR2⟩
      obtain ⟨g2, rfl, hg2, hR2⟩ := hR2.base (hR.none hos)
      simp (maxSteps := 1000000) -dsimp -implicitDefEqProofs only [go_sem, ↓reduceIte, keep155, ib155, mk155, Tryz.f155]
      refine ⟨Nat.zero_lt_one, Nat.zero_lt_one, Nat.zero_lt_one, Nat.le_of_eq hel.symm, by omega, by omega, fun b ⟨hbm, hb2⟩ => ⟨(k + 1, g2, some b), ⟨rfl, by rw [IntWalk.i64_in _ (by omega)]; rfl⟩, ?_, ⟨hlt, by rw [inSk_succ hlt]; exact hR2, hb2⟩, by simp only; omega⟩⟩
      simp only [oheap_some]
      rw [hvl, hy, ← grow_row (fun n => I n), hel]
      exact le_app hg2
  · have hk' : k = args.length := by omega
    subst hk'
    rw [inSk_all] at hR
    have hg0 := inS_good args ha hl12
    rw [hla] at hg0
    have hie : inEk args.length = inE args := rfl
    have hall : ∀ {h0 g : Heap}, RecIn h0 nb p F.fParams (inS args) 0 0 g → HFn Tryz.prog 236 [.op nb 8 0 0, sls 5 DExpr.c F.fOuts, ints (inE args)] g (RegQL h0 nb p F.fParams 0 0 F.fOuts.length (seqR (fun t e S => recE p 3001 t e (inE args) S) F.fOuts 0 (inS args))) := fun hR =>
      all_reg hp (reg hp 3001) _ _ nb 0 0 F.fOuts (inE args) (inS args) f hR (by omega) (by omega) (by omega) (fun x hx => by rw [← hie, hel, hla]; exact hF4 x hx) hf.1 (by omega) (fun _ => ⟨hg0, inE_in args⟩) (by rw [← hie, hel]; omega)
    cases o with
    | none =>
      rw [oside_none, hie] at hos
      simp (maxSteps := 1000000) -dsimp -implicitDefEqProofs only [go_sem, ↓reduceIte, keep155, ib155, mk155, Tryz.f155, oval_none, oheap_none, Nat.lt_irrefl, Int.lt_irrefl, ef, DFunc.c_eq]
      refine ⟨hf.1, hf.2, HFnF.mkH (HFn.sub (.cons (.refl _) (.cons (.refl _) (.cons (by rw [hos]; exact Sub.loose _ _ _) .nil))) (hall hR)) ?_⟩
      rintro r h2 ⟨l, S2, t2, c2, rfl, ⟨om, og, ov, H2⟩, hll, a1, a2, a3⟩
      have hb2 := H2.box
      unfold recBox at hb2
      have hz := H2.keep (n := n6) (by rw [← hh6, upd_same])
      have hz1 := hz.1
      simp (maxSteps := 1000000) -dsimp -implicitDefEqProofs only [go_sem, ↓reduceIte, keep155, ib155, mk155, Tryz.f155, hb2, hz1, e_nb_n6, e_n6_nb, upd_ne]
      generalize hE : h2 = h2H at *
      have hle : h.le h2H := by
        have h1 := H2.le
        rw [← hh6] at h1
        intro q
        by_cases e : q = n6
        · subst e; exact .inl z6
        · have := h1 q
          rwa [upd_ne _ _ _ _ e] at this
      have hfr : ∀ n, some n = om ∨ some n = og → h n = none ∧ ¬ n = n6 ∧ ¬ n = nb := fun n hn => by
        have h1 := H2.fresh n (by rcases hn with hn | hn; exact .inr (.inl hn); exact .inr (.inr (.inl hn)))
        have h3 : ¬ n = n6 := fun e => by rw [← hh6, e, upd_same] at h1; cases h1
        refine ⟨by rwa [← hh6, upd_ne _ _ _ _ h3] at h1, h3, fun e => ?_⟩
        rcases hn with hn | hn
        · exact ((H2.apart n).1 e).1 hn
        · exact ((H2.apart n).1 e).2.1 hn
      refine ⟨fun hc => ?_, fun hc => ⟨by rw [onil_flat, onil_flat]; rfl, ?_⟩⟩
      · have e2 : recRes p f args = (⟨0, [], [], []⟩, c2) := by
          rw [runE_zero] at a3
          rw [recRes, recF, hF3, a3.err hc]
        rw [e2]
        exact Shift.of (Sub.tup (.cons (Sub.agg (.cons (.refl _) (.cons (Sub.nil 4 false) (.cons (Sub.nil 2 false) (.cons (Sub.nil 1 false) .nil))))) (.cons (.refl _) .nil))) (Heap.le_upd z6 (Heap.le_upd zb (hle)))
      · obtain ⟨_, e1⟩ := a3.ok hc
        have e2 : recRes p f args = (⟨args.length, S2.code, S2.guards, l⟩, 0) := by
          rw [recRes, recF, hF3, e1]
        rw [e2, DTape.c_eq, hla]
        refine H2.seal l 0 (fun n hn => ?_) (Heap.le_upd z6 (Heap.le_upd zb (hle))) (fun n hn => (hfr n hn).1)
        obtain ⟨v1, v2, v3⟩ := hfr n hn
        rw [upd_ne _ _ _ _ v2, upd_ne _ _ _ _ v3]
    | some m =>
      rw [oside_some] at hos
      simp (maxSteps := 1000000) -dsimp -implicitDefEqProofs only [go_sem, ↓reduceIte, keep155, ib155, mk155, Tryz.f155, oval_some, oheap_some, Nat.lt_irrefl, Int.lt_irrefl, ef, DFunc.c_eq]
      have d_nb_m : ¬ nb = m := fun e => by obtain ⟨_, _, _, H1⟩ := hR; have := H1.box; rw [e, hos] at this; cases this
      have d_m_nb : ¬ m = nb := Ne.symm d_nb_m
      have e_nb_m : (nb = m) = False := eq_false d_nb_m
      have e_m_nb : (m = nb) = False := eq_false d_m_nb
      refine ⟨hf.1, hf.2, HFnF.giveX rfl rfl d_nb_m (by rw [List.length_map]; exact hel.symm) hos ?_⟩
      refine HFn.mono (hall (hR.over (o := .gone) hos)) ?_
      rintro r h2 ⟨l, S2, t2, c2, rfl, hR2, hll, a1, a2, a3⟩
      obtain ⟨g3, rfl, hg3, ⟨om, og, ov, H2⟩⟩ := hR2.base (hR.none hos)
      have hb2 := H2.box
      unfold recBox at hb2
      have hz := H2.keep (n := n6) (by rw [← hh6, upd_same])
      have hz1 := hz.1
      have d_n6_m : ¬ n6 = m := fun e => by rw [e, hg3] at hz1; cases hz1
      have d_m_n6 : ¬ m = n6 := Ne.symm d_n6_m
      have e_n6_m : (n6 = m) = False := eq_false d_n6_m
      have e_m_n6 : (m = n6) = False := eq_false d_m_n6
      simp (maxSteps := 1000000) -dsimp -implicitDefEqProofs only [go_sem, ↓reduceIte, keep155, ib155, mk155, Tryz.f155, hb2, hz1, e_nb_n6, e_nb_m, e_n6_nb, e_n6_m, e_m_nb, e_m_n6, upd_ne]
      have hgo : ∀ n, some n = om ∨ some n = og → ¬ n = m := fun n hn e => by
        have := (H2.apart n).2.2.2 (by rw [e]; exact hg3)
        rcases hn with hn | hn
        · exact this.2.1 hn
        · exact this.2.2.1 hn
      have hhm : h m = none := by
        have h1 := hR.none hos
        rw [← hh6, upd_ne _ _ _ _ (fun e => d_n6_m e.symm)] at h1
        exact h1
      generalize hE : g3 = h2H at *
      have hle : h.le h2H := by
        have h1 := H2.le
        rw [← hh6] at h1
        intro q
        by_cases e : q = n6
        · subst e; exact .inl z6
        · have := h1 q
          rwa [upd_ne _ _ _ _ e] at this
      have hfr : ∀ n, some n = om ∨ some n = og → h n = none ∧ ¬ n = n6 ∧ ¬ n = nb := fun n hn => by
        have h1 := H2.fresh n (by rcases hn with hn | hn; exact .inr (.inl hn); exact .inr (.inr (.inl hn)))
        have h3 : ¬ n = n6 := fun e => by rw [← hh6, e, upd_same] at h1; cases h1
        refine ⟨by rwa [← hh6, upd_ne _ _ _ _ h3] at h1, h3, fun e => ?_⟩
        rcases hn with hn | hn
        · exact ((H2.apart n).1 e).1 hn
        · exact ((H2.apart n).1 e).2.1 hn
      refine ⟨fun hc => ?_, fun hc => ⟨by rw [onil_flat, onil_flat]; rfl, ?_⟩⟩
      · have e2 : recRes p f args = (⟨0, [], [], []⟩, c2) := by
          rw [runE_zero] at a3
          rw [recRes, recF, hF3, a3.err hc]
        rw [e2]
        exact Shift.of (Sub.tup (.cons (Sub.agg (.cons (.refl _) (.cons (Sub.nil 4 false) (.cons (Sub.nil 2 false) (.cons (Sub.nil 1 false) .nil))))) (.cons (.refl _) .nil))) (Heap.le_upd z6 (Heap.le_upd zb (Heap.le_upd hhm hle)))
      · obtain ⟨_, e1⟩ := a3.ok hc
        have e2 : recRes p f args = (⟨args.length, S2.code, S2.guards, l⟩, 0) := by
          rw [recRes, recF, hF3, e1]
        rw [e2, DTape.c_eq, hla]
        refine H2.seal l 0 (fun n hn => ?_) (Heap.le_upd z6 (Heap.le_upd zb (Heap.le_upd hhm hle))) (fun n hn => (hfr n hn).1)
        obtain ⟨v1, v2, v3⟩ := hfr n hn
        rw [upd_ne _ _ _ _ v2, upd_ne _ _ _ _ v3, upd_ne _ _ _ _ (hgo n hn)]
open Go.Proofs
set_option linter.unusedVariables false
set_option linter.unusedSimpArgs false
def opsOf (c : DInstr) : List Int := if 3 ≤ c.fOp ∧ c.fOp ≤ 6 then [c.fA, c.fB] else if c.fOp = 7 then [c.fA] else []
def markL (l : List Int) (b : List Bool) : List Bool := l.foldl (fun b r => b.set r.toNat true) b
def stepL (k : Nat) (l : List Int) (b : List Bool) : List Bool := l.foldl (fun b r => b.set r.toNat (b.getD r.toNat false || b.getD k false)) b
def opsAt (code : List DInstr) (k : Nat) : List Int := ((code[k]?).map opsOf).getD []
def needN (code : List DInstr) : Nat → List Bool → List Bool
  | 0, b => b
  | k + 1, b => needN code k (stepL k (opsAt code k) b)
def needL (code : List DInstr) (ends : List Int) : List Bool := needN code code.length (markL ends (List.replicate code.length false))
theorem markL_len (l : List Int) : ∀ b, (markL l b).length = b.length := by
  induction l with
  | nil => intro b; rfl
  | cons x l ih => intro b; rw [markL, List.foldl_cons]; exact (ih _).trans (by simp)
theorem stepL_len (k : Nat) (l : List Int) : ∀ b, (stepL k l b).length = b.length := by
  induction l with
  | nil => intro b; rfl
  | cons x l ih => intro b; rw [stepL, List.foldl_cons]; exact (ih _).trans (by simp)
theorem needN_len (code : List DInstr) : ∀ k b, (needN code k b).length = b.length
  | 0, b => rfl
  | k + 1, b => by rw [needN, needN_len code k, stepL_len]
theorem needL_len (code : List DInstr) (ends : List Int) : (needL code ends).length = code.length := by rw [needL, needN_len, markL_len, List.length_replicate]
theorem markL_snoc (l : List Int) (x : Int) (b : List Bool) : markL (l ++ [x]) b = (markL l b).set x.toNat true := by rw [markL, List.foldl_append]; rfl
theorem stepL_snoc (k : Nat) (l : List Int) (x : Int) (b : List Bool) : stepL k (l ++ [x]) b = (stepL k l b).set x.toNat ((stepL k l b).getD x.toNat false || (stepL k l b).getD k false) := by rw [stepL, List.foldl_append]; rfl
def keep237 : List Nat := [0, 1, 2, 3, 12]
def ib237 : List Nat := [1, 11, 18]
def mk237 : Marks := fun _ => ([], .nil, [])
theorem operands (x : DInstr) : Fn0 Tryz.prog 237 [.agg x.c] (ints (opsOf x)) := by
  rw [DInstr.c_eq]
  refine fn0S 19 keep237 ib237 mk237 mix Tryz.func237 rfl (by kernel_rfl) (by simp) fun h => ?_
  simp (maxSteps := 1000000) -dsimp -implicitDefEqProofs only [go_sem, ↓reduceIte, keep237, ib237, mk237, Tryz.f237]
  first | refine HFnF.mk (within x.fOp 3 6) ?_ | refine CallSF.mk (within x.fOp 3 6) ?_ | refine HFnF.mkAt (within x.fOp 3 6) ?_ | refine CallSF.mk (FnAt.fn0 (within x.fOp 3 6)) ?_
  simp (maxSteps := 1000000) -dsimp -implicitDefEqProofs only [go_sem, ↓reduceIte, keep237, ib237, mk237, Tryz.f237]
  unfold opsOf
  refine ⟨fun q => ⟨by decide, by decide, ?_⟩, fun q => ⟨fun q7 => ⟨by decide, by decide, ?_⟩, fun q7 => ?_⟩⟩
  · rw [if_pos q]; exact Shift.of (Sub.loose _ _ _) (Heap.le_refl _)
  · rw [if_neg q, if_pos q7]; exact Shift.of (Sub.loose _ _ _) (Heap.le_refl _)
  · rw [if_neg q, if_neg q7]; exact Shift.of (Sub.nil _ _) (Heap.le_refl _)
theorem ops_lt {inp : Int} {i : Nat} {c : DInstr} (h : instrOK inp i c) : ∀ x ∈ opsOf c, 0 ≤ x ∧ x < i := fun x hx => by
  unfold opsOf at hx
  unfold instrOK at h
  split at hx
  · simp only [List.mem_cons, List.not_mem_nil, or_false] at hx
    rcases hx with rfl | rfl <;> omega
  · split at hx
    · simp only [List.mem_cons, List.not_mem_nil, or_false] at hx
      subst hx; omega
    · cases hx
theorem opsAt_eq {code : List DInstr} {k : Nat} (h : k < code.length) : opsAt code k = opsOf code[k] := by rw [opsAt, List.getElem?_eq_getElem h]; rfl
theorem opsOf_len (c : DInstr) : (opsOf c).length ≤ 2 := by unfold opsOf; split; exact Nat.le_refl 2; split; exact Nat.le_succ 1; exact Nat.zero_le 2
def rowB (b : List Bool) : HObj := .row 1 ((b.map fun x => [.bool x]).map (List.map .v))
theorem rowB_set (b : List Bool) (k : Nat) (x : Bool) : ((b.map fun x => [HVal.bool x]).map (List.map Cell.v)).set k [.v (.bool x)] = ((b.set k x).map fun x => [HVal.bool x]).map (List.map .v) := by rw [List.map_set, List.map_set]; rfl
theorem getB {b : List Bool} {k : Nat} (h : k < b.length) : b[k]? = some (b.getD k false) := by rw [List.getD_eq_getElem?_getD, List.getElem?_eq_getElem h]; rfl
def keep156 : List Nat := [0, 1, 2, 4, 5, 7, 8, 10, 15, 16, 17, 18, 30, 38, 39, 40, 41]
def ib156 : List Nat := [2]
def mk156 : Marks := fun _ => ([], .nil, [])
set_option maxRecDepth 100000 in
theorem needed (t : DTape) (ends : List Int) (hc : t.fCode.length ≤ 1048576) (hl : ends.length ≤ 1048576) (hr : ∀ x ∈ ends, 0 ≤ x ∧ x < t.fCode.length) (hi : ∀ i c, t.fCode[i]? = some c → instrOK t.fInputs i c) : Fn0 Tryz.prog 156 [.agg t.c, ints ends] (sls 1 (fun b => [.bool b]) (needL t.fCode ends)) := by
  rw [DTape.c_eq]
  refine fn0S 59 keep156 ib156 mk156 mix Tryz.func156 rfl (by kernel_rfl) (by simp) fun h => ?_
  simp (maxSteps := 1000000) -dsimp -implicitDefEqProofs only [go_sem, ↓reduceIte, keep156, ib156, mk156, Tryz.f156]
  refine fun _ => ⟨by decide, Nat.le_refl _, by omega, by omega, fun n hn _ => ?_⟩
  have hrep : (List.map (List.map Cell.v) (List.replicate t.fCode.length [HVal.bool false])) = ((List.replicate t.fCode.length false).map fun x => [HVal.bool x]).map (List.map .v) := by simp
  rw [hrep]
  refine loopRow (keep := keep156) (ib := ib156) (mk := mk156) mix (by kernel_rfl) (fun k : Nat => [(2, .ip 4 [[I t.fInputs, sls 4 DInstr.c t.fCode, sls 2 DGuard.c t.fGuards, ints t.fOuts]] 0 0), (5, .os n 1 0 t.fCode.length), (15, ints ends), (16, I ends.length), (17, I k)]) n (fun k => rowB (markL (ends.take k) (List.replicate t.fCode.length false))) (fun k => k ≤ ends.length) (fun k => ends.length - k) 0 ⟨by simp [SatL, tget], by rw [upd_same]; rfl, Nat.zero_le _⟩ ?_
  intro k hk
  have hbl := markL_len (ends.take k) (List.replicate t.fCode.length false)
  rw [List.length_replicate] at hbl
  rcases Nat.lt_or_ge k ends.length with hlt | hge
  · have ek : ends[k]? = some ends[k] := List.getElem?_eq_getElem hlt
    have hx := hr ends[k] (List.getElem_mem hlt)
    have eb := getB (b := markL (ends.take k) (List.replicate t.fCode.length false)) (k := ends[k].toNat) (by omega)
    unfold rowB
    simp (maxSteps := 1000000) -dsimp -implicitDefEqProofs only [go_sem, ↓reduceIte, keep156, ib156, mk156, Tryz.f156, hlt, ek, upd_upd, eb]
    refine ⟨hx.1, hx.2, k + 1, by rw [IntWalk.i64_in _ (by omega)]; rfl, ?_, by omega, by omega⟩
    rw [List.take_succ_eq_append_getElem hlt, markL_snoc, rowB_set]
    exact Heap.le_refl _
  · have hk' : k = ends.length := by omega
    subst hk'
    rw [List.take_length] at hbl ⊢
    generalize hB : markL ends (List.replicate t.fCode.length false) = B0 at *
    unfold rowB
    simp (maxSteps := 1000000) -dsimp -implicitDefEqProofs only [go_sem, ↓reduceIte, keep156, ib156, mk156, Tryz.f156, Nat.lt_irrefl, Int.lt_irrefl]
    intro _
    rw [upd_upd]
    refine loopRow (keep := keep156) (ib := ib156) (mk := mk156) mix (by kernel_rfl) (fun x : Nat × List Bool => [(2, .ip 4 [[I t.fInputs, sls 4 DInstr.c t.fCode, sls 2 DGuard.c t.fGuards, ints t.fOuts]] 0 0), (5, .os n 1 0 t.fCode.length), (8, I ((x.1 : Int) - 1))]) n (fun x => rowB x.2) (fun x => x.1 ≤ t.fCode.length ∧ x.2.length = t.fCode.length ∧ needN t.fCode x.1 x.2 = needN t.fCode t.fCode.length B0) (fun x => x.1) (t.fCode.length, B0) ⟨by simp [SatL, tget]; exact IntWalk.i64_in _ (by omega), by rw [upd_same]; rfl, Nat.le_refl _, hbl, rfl⟩ ?_
    rintro ⟨k, B⟩ ⟨hk, hBl, hT⟩
    simp only at hk hBl hT ⊢
    cases k with
    | zero =>
      unfold rowB
      simp (maxSteps := 1000000) -dsimp -implicitDefEqProofs only [go_sem, ↓reduceIte, keep156, ib156, mk156, Tryz.f156]
      refine ⟨fun q => absurd q (by omega), fun _ => ?_⟩
      rw [upd_upd, show needL t.fCode ends = B by rw [needL, hB]; exact hT.symm]
      exact shift_row (B.map fun x => [.bool x]) hn (Heap.le_refl _) _ (by rw [List.length_map, hBl])
    | succ k =>
      have ec : t.fCode[k]? = some t.fCode[k] := List.getElem?_eq_getElem hk
      have e1 : ((k + 1 : Nat) : Int) - 1 = k := by omega
      have hop := operands t.fCode[k]
      have hlt := ops_lt (hi k t.fCode[k] ec)
      have hol := opsOf_len t.fCode[k]
      rw [DInstr.c_eq] at hop
      rw [e1]
      unfold rowB
      simp (maxSteps := 1000000) -dsimp -implicitDefEqProofs only [go_sem, ↓reduceIte, keep156, ib156, mk156, Tryz.f156, ec, DInstr.c_eq]
      refine ⟨hk, ?_⟩
      first | refine HFnF.mk (hop) ?_ | refine CallSF.mk (hop) ?_ | refine HFnF.mkAt (hop) ?_ | refine CallSF.mk (FnAt.fn0 (hop)) ?_
      simp (maxSteps := 1000000) -dsimp -implicitDefEqProofs only [go_sem, ↓reduceIte, keep156, ib156, mk156, Tryz.f156]
      intro _
      rw [upd_upd]
      rw [needN, opsAt_eq hk] at hT
      generalize opsOf t.fCode[k] = ops at *
      refine loopRow (keep := keep156) (ib := ib156) (mk := mk156) mix (by kernel_rfl) (fun i : Nat => [(2, .ip 4 [[I t.fInputs, sls 4 DInstr.c t.fCode, sls 2 DGuard.c t.fGuards, ints t.fOuts]] 0 0), (5, .os n 1 0 t.fCode.length), (8, I (k : Int)), (38, ints ops), (39, I ops.length), (40, I i)]) n (fun i => rowB (stepL k (ops.take i) B)) (fun i => i ≤ ops.length) (fun i => ops.length - i) 0 ⟨by simp [SatL, tget], by rw [upd_same]; rfl, Nat.zero_le _⟩ ?_
      intro i hi2
      have hsl := stepL_len k (ops.take i) B
      rcases Nat.lt_or_ge i ops.length with hlt2 | hge2
      · have eo : ops[i]? = some ops[i] := List.getElem?_eq_getElem hlt2
        have hx := hlt ops[i] (List.getElem_mem hlt2)
        have eb := getB (b := stepL k (ops.take i) B) (k := ops[i].toNat) (by omega)
        have ek := getB (b := stepL k (ops.take i) B) (k := k) (by omega)
        unfold rowB
        simp (maxSteps := 1000000) -dsimp -implicitDefEqProofs only [go_sem, ↓reduceIte, keep156, ib156, mk156, Tryz.f156, hlt2, eo, upd_upd, eb, ek]
        refine ⟨hx.1, by omega, fun hb => ⟨hk, hx.1, by omega, i + 1, by rw [IntWalk.i64_in _ (by omega)]; rfl, ?_, by omega, by omega⟩, fun hb => ⟨hx.1, by omega, i + 1, by rw [IntWalk.i64_in _ (by omega)]; rfl, ?_, by omega, by omega⟩⟩
        · rw [List.take_succ_eq_append_getElem hlt2, stepL_snoc, rowB_set, hb, Bool.false_or]
          exact Heap.le_refl _
        · rw [List.take_succ_eq_append_getElem hlt2, stepL_snoc, rowB_set, hb, Bool.true_or]
          exact Heap.le_refl _
      · have hk2 : i = ops.length := by omega
        subst hk2
        rw [List.take_length] at hsl ⊢
        unfold rowB
        simp (maxSteps := 1000000) -dsimp -implicitDefEqProofs only [go_sem, ↓reduceIte, keep156, ib156, mk156, Tryz.f156, Nat.lt_irrefl, Int.lt_irrefl]
        refine ⟨(k, stepL k ops B), IntWalk.i64_in _ (by omega), by rw [upd_upd, upd_upd]; exact Heap.le_refl _, ⟨by simp only; omega, hsl.trans hBl, hT⟩, by simp only; omega⟩
open Go.Proofs
set_option linter.unusedVariables false
set_option linter.unusedSimpArgs false
def divB (code : List DInstr) : List Int := (code.filter fun c => c.fOp = 6).map DInstr.fB
def endsG (x : Int) (l : List DGuard) : List Int := [x] ++ l.map DGuard.fReg
def endsL (t : DTape) : List Int := endsG (t.fOuts.getD 0 0) t.fGuards ++ divB t.fCode
theorem endsG_snoc (x : Int) (l : List DGuard) (g : DGuard) : endsG x (l ++ [g]) = endsG x l ++ [g.fReg] := by simp [endsG]
theorem endsG_len (x : Int) (l : List DGuard) : (endsG x l).length = l.length + 1 := by simp [endsG]
theorem divB_snoc (l : List DInstr) (c : DInstr) : divB (l ++ [c]) = if c.fOp = 6 then divB l ++ [c.fB] else divB l := by
  rw [divB, List.filter_append, List.map_append]
  by_cases h : c.fOp = 6
  · rw [if_pos h]; simp [divB, h]
  · rw [if_neg h]; simp [divB, h]
theorem divB_len (l : List DInstr) : (divB l).length ≤ l.length := by rw [divB, List.length_map]; exact List.length_filter_le _ _
/-- An input that is needed and differs. -/
def badAt (t : DTape) (sh : Int) (a b : List Int) (r : Nat) : Prop := (needL t.fCode (endsL t))[r]? = some true ∧ ∃ c, t.fCode[r]? = some c ∧ c.fOp = 1 ∧ c.fNum < sh ∧ ¬ a.getD c.fNum.toNat 0 = b.getD c.fNum.toNat 0
/-- A list of this function's own that has begun as a literal. -/
def gval (l : List Int) : Option Nat → HVal
  | none => .sl 1 (l.map fun n => [I n]) true
  | some m => .os m 1 0 l.length
theorem gval_none (l : List Int) : gval l none = .sl 1 (l.map fun n => [I n]) true := rfl
theorem gval_some (l : List Int) (m : Nat) : gval l (some m) = .os m 1 0 l.length := rfl
def gfree (h : Heap) (o : Option Nat) : Prop := ∀ m, o = some m → h m = none
def untP (j : DJob) (k : Nat) (point : List Int) : Prop := (recRes j.fProgram j.fFunc (argsOf j k)).2 = 0 ∧ ¬ ∃ r, badAt (recRes j.fProgram j.fFunc (argsOf j k)).1 j.fShared j.fPoint point r
noncomputable instance (j : DJob) (k : Nat) (point : List Int) : Decidable (untP j k point) := Classical.propDecidable _
theorem row_grow (l : List Int) (x : Int) : ((l ++ [x]).map fun n => [I n]).map (List.map Cell.v) = ((l.map fun n => [I n]).map (List.map .v)) ++ [[.v (I x)]] := by simp
def keep74 : List Nat := [0, 1, 2, 3, 6, 7, 8, 9, 11, 13, 14, 15, 16, 29, 36, 37, 38, 39, 49, 50, 51, 52, 57, 66, 67, 68, 69, 104]
def ib74 : List Nat := [3, 34, 45, 61]
def mk74 : Marks := fun id => match id with | 1 => ([11, 12], (.op 0 (.op 1 (.op 2 (.op 3 (.op 4 (.op 5 (.op 6 (.op 7 (.op 8 (.op 9 (.op 10 (.op 11 (.op 12 (.op 13 .nil)))))))))))))), []) | 20 => ([3, 8, 17, 22], (.op 0 (.op 1 (.op 2 (.op 3 (.op 4 (.op 5 (.op 6 (.op 7 (.op 9 (.op 10 (.op 8 (.op 11 (.op 12 (.op 13 (.op 14 (.op 15 (.op 16 (.op 20 (.op 21 (.op 17 (.op 18 (.op 19 (.op 22 (.op 23 (.op 24 (.op 25 (.op 26 .nil))))))))))))))))))))))))))), []) | _ => ([], .nil, [])
set_option maxRecDepth 100000 in
theorem untouchedI {j : DJob} (hj : j.ok) (hps : j.fProgram.s ≤ 4194304) {k : Nat} (hk : k < j.fTerms.length) (point : List Int) (hpt : (point.length : Int) = j.fShared) : Fn0 Tryz.prog 74 [.agg j.c, I k, ints point] (.bool (decide (untP j k point))) := by
  obtain ⟨t1, t2, t3, t4, t5, t6, t7, t8⟩ := term_facts hj hk
  obtain ⟨F, eF, hf, hF, ok⟩ := job_facts hj
  obtain ⟨F2, eF2, hO1, hO2, hO3, hO4⟩ := func_ok hj.1 hf
  have hargs := argsI hj hk
  have hrec := Record hj.1 hps j.fFunc hf (argsOf j k) t2 (by have := t3 F2 eF2; omega) t3
  have hok := (recF_ok hj.1 j.fFunc hf (argsOf j k) t2 t3).1
  rw [DProgram.c_eq] at hrec
  simp only [DJob.c_eq] at hargs ⊢
  have hsim := (recF_ok hj.1 j.fFunc hf (argsOf j k) t2 t3).2
  have herr := evF_err j.fProgram 1 j.fFunc ((argsOf j k).map fun n => [n])
  cases hX : recF j.fProgram j.fFunc (argsOf j k) with
  | error c =>
    have hR : recRes j.fProgram j.fFunc (argsOf j k) = (⟨0, [], [], []⟩, c) := by rw [recRes, hX]
    have hc : ¬ c = 0 := fun e => by
      rw [hX] at hsim
      cases hY : evF j.fProgram 1 j.fFunc ((argsOf j k).map fun n => [n]) with
      | ok q => rw [hY] at hsim; exact hsim.elim
      | error d =>
        rw [hY] at hsim
        have h1 : c = d := hsim
        rcases herr d hY with h2 | h2 <;> omega
    rw [hR] at hrec
    simp only [DTape.c_eq] at hrec
    refine fn0F 106 keep74 ib74 mk74 mix Tryz.func74 rfl (by kernel_rfl) (by simp) fun h => ?_
    simp (maxSteps := 1000000) -dsimp -implicitDefEqProofs only [go_sem, ↓reduceIte, keep74, ib74, mk74, Tryz.f74]
    first | refine HFnF.mk (hargs) ?_ | refine CallSF.mk (hargs) ?_ | refine HFnF.mkAt (hargs) ?_ | refine CallSF.mk (FnAt.fn0 (hargs)) ?_
    simp (maxSteps := 1000000) -dsimp -implicitDefEqProofs only [go_sem, ↓reduceIte, keep74, ib74, mk74, Tryz.f74]
    first | refine HFnF.mk (hrec) ?_ | refine CallSF.mk (hrec) ?_ | refine HFnF.mkAt (hrec) ?_ | refine CallSF.mk (FnAt.fn0 (hrec)) ?_
    simp (maxSteps := 1000000) -dsimp -implicitDefEqProofs only [go_sem, ↓reduceIte, keep74, ib74, mk74, Tryz.f74]
    intro n hn
    refine ⟨fun _ => ⟨(decide_eq_false fun z => hc (by have := z.1; rw [hR] at this; exact this)).symm, Heap.le_upd hn (Heap.le_upd hn (Heap.le_refl _))⟩, fun q => absurd q hc⟩
  | ok q =>
    obtain ⟨⟨l, S⟩, t⟩ := q
    obtain ⟨g1, g2, ⟨g3, g4⟩, g5⟩ := hok _ _ hX
    simp only at g1 g2 g3 g4 g5
    unfold incR at g5
    have g6 := g1.cap
    have g7 := g1.gcap
    have g8 := g1.len
    have hR : recRes j.fProgram j.fFunc (argsOf j k) = (⟨(argsOf j k).length, S.code, S.guards, l⟩, 0) := by rw [recRes, hX]
    have hu : untP j k point ↔ ¬ ∃ r, badAt ⟨(argsOf j k).length, S.code, S.guards, l⟩ j.fShared j.fPoint point r := by rw [untP, hR]; simp
    rw [hR] at hrec
    simp only [DTape.c_eq] at hrec
    have l0 : l[Int.toNat 0]? = some (l.getD 0 0) := getD_get (by rw [g3, hO3]; omega)
    refine fn0F 106 keep74 ib74 mk74 mix Tryz.func74 rfl (by kernel_rfl) (by simp) fun h => ?_
    simp (maxSteps := 1000000) -dsimp -implicitDefEqProofs only [go_sem, ↓reduceIte, keep74, ib74, mk74, Tryz.f74]
    first | refine HFnF.mk (hargs) ?_ | refine CallSF.mk (hargs) ?_ | refine HFnF.mkAt (hargs) ?_ | refine CallSF.mk (FnAt.fn0 (hargs)) ?_
    simp (maxSteps := 1000000) -dsimp -implicitDefEqProofs only [go_sem, ↓reduceIte, keep74, ib74, mk74, Tryz.f74]
    first | refine HFnF.mk (hrec) ?_ | refine CallSF.mk (hrec) ?_ | refine HFnF.mkAt (hrec) ?_ | refine CallSF.mk (FnAt.fn0 (hrec)) ?_
    simp (maxSteps := 1000000) -dsimp -implicitDefEqProofs only [go_sem, ↓reduceIte, keep74, ib74, mk74, Tryz.f74]
    intro n hn
    try simp (maxSteps := 1000000) -dsimp -implicitDefEqProofs only [go_sem, ↓reduceIte, keep74, ib74, mk74, Tryz.f74, upd_upd, l0]
    refine ⟨by rw [g3, hO3]; omega, by decide, by decide, fun _ => ?_⟩
    generalize hh7 : upd h n (.row 4 [[.v (I (argsOf j k).length), .v (sls 4 DInstr.c S.code), .v (sls 2 DGuard.c S.guards), .v (ints l)]]) = h7
    have h7n : h7 n = some (.row 4 [[.v (I (argsOf j k).length), .v (sls 4 DInstr.c S.code), .v (sls 2 DGuard.c S.guards), .v (ints l)]]) := by rw [← hh7, upd_same]
    have hle7 : h.le h7 := by rw [← hh7]; exact Heap.le_upd hn (Heap.le_refl _)
    refine loopF (keep := keep74) (ib := ib74) (mk := mk74) mix (by kernel_rfl) (fun x : Nat × List Int × Option Nat => [(2, ints point), (3, .ip 5 [[sls 3 DFunc.c j.fProgram.fFuncs, I j.fFunc, I j.fShared, sls 1 (fun n => [I n]) j.fPoint, sls 1 (fun x => [sls 1 (fun n => [I n]) x]) j.fTerms]] 0 0), (7, .op n 4 0 0), (9, gval x.2.1 x.2.2), (36, sls 2 DGuard.c S.guards), (37, I S.guards.length), (38, I x.1)]) (fun x => oheap h7 (.row 1 ((x.2.1.map fun n => [I n]).map (List.map .v))) x.2.2) (fun x => x.1 ≤ S.guards.length ∧ x.2.1 = endsG (l.getD 0 0) (S.guards.take x.1) ∧ gfree h7 x.2.2) (fun x => S.guards.length - x.1) (0, [l.getD 0 0], none) ⟨by simp [SatL, tget, gval], Heap.le_refl _, Nat.zero_le _, rfl, fun m e => by cases e⟩ ?_
    rintro ⟨i, L, o⟩ ⟨hi, hL, ho⟩
    simp only at hi hL ho ⊢
    rcases Nat.lt_or_ge i S.guards.length with hlt | hge
    · have ei : S.guards[i]? = some S.guards[i] := List.getElem?_eq_getElem hlt
      have hy : L ++ [S.guards[i].fReg] = endsG (l.getD 0 0) (S.guards.take (i + 1)) := by
        rw [List.take_succ_eq_append_getElem hlt, endsG_snoc, hL]
      have hLl : L.length ≤ i + 1 := by rw [hL, endsG_len, List.length_take]; omega
      cases o with
      | none =>
        simp (maxSteps := 1000000) -dsimp -implicitDefEqProofs only [go_sem, ↓reduceIte, keep74, ib74, mk74, Tryz.f74, gval_none, oheap_none, hlt, ei, DGuard.c_eq]
        intro m9 z9
        refine ⟨by decide, by decide, by decide, by omega, by omega, fun b ⟨hb9, _, hb7⟩ => ⟨(i + 1, L ++ [S.guards[i].fReg], some b), ⟨by rw [gval_some, List.length_append]; rfl, by rw [IntWalk.i64_in _ (by omega)]; rfl⟩, ?_, ⟨by omega, hy, fun q e => by cases e; exact hb7⟩, by simp only; omega⟩⟩
        simp only [oheap_some]
        rw [row_grow]
        simp only [List.map_append, List.map_cons, List.map_nil] at *
        exact (leX_nil (by repeat' (first | exact leX_refl _ _ | refine leX_put (by simp only [upd_apply, ↓reduceIte, eq_self, if_true, hb9, z9]) ?_ | refine leX_strip (by first | exact .inr (by assumption) | exact .inl (by simp)) ?_)))
      | some m =>
        have hm := ho m rfl
        simp (maxSteps := 1000000) -dsimp -implicitDefEqProofs only [go_sem, ↓reduceIte, keep74, ib74, mk74, Tryz.f74, gval_some, oheap_some, hlt, ei, DGuard.c_eq]
        intro m9 ⟨h9m, z9⟩
        have d_m9_m : ¬ m9 = m := h9m
        have d_m_m9 : ¬ m = m9 := Ne.symm d_m9_m
        have e_m9_m : (m9 = m) = False := eq_false d_m9_m
        have e_m_m9 : (m = m9) = False := eq_false d_m_m9
        simp (maxSteps := 1000000) -dsimp -implicitDefEqProofs only [go_sem, ↓reduceIte, keep74, ib74, mk74, Tryz.f74, e_m_m9, e_m9_m, upd_ne]
        refine ⟨by decide, by decide, by decide, Nat.le_refl _, by omega, by omega, fun b ⟨hb9, _, hbm, hb7⟩ => ⟨(i + 1, L ++ [S.guards[i].fReg], some b), ⟨by rw [gval_some, List.length_append]; rfl, by rw [IntWalk.i64_in _ (by omega)]; rfl⟩, ?_, ⟨by omega, hy, fun q e => by cases e; exact hb7⟩, by simp only; omega⟩⟩
        simp only [oheap_some]
        rw [row_grow, List.take_of_length_le (by simp)]
        exact (leX_nil (by repeat' (first | exact leX_refl _ _ | refine leX_put (by simp only [upd_apply, ↓reduceIte, eq_self, if_true, hb9, z9, hbm, e_m_m9, e_m9_m]) ?_ | refine leX_strip (by first | exact .inr (by assumption) | exact .inl (by simp)) ?_)))
    · have hi' : i = S.guards.length := by omega
      subst hi'
      rw [List.take_length] at hL
      have hgl := endsG_len (l.getD 0 0) S.guards
      have hon : ∀ (R : HObj) (o : Option Nat), gfree h7 o → oheap h7 R o n = some (.row 4 [[.v (I (argsOf j k).length), .v (sls 4 DInstr.c S.code), .v (sls 2 DGuard.c S.guards), .v (ints l)]]) := fun R o ho => by
        cases o with
        | none => exact h7n
        | some m => rw [oheap_some, upd_ne _ _ _ _ (fun e => by have := ho m rfl; rw [← e, h7n] at this; cases this)]; exact h7n
      have hn1 := hon (.row 1 ((L.map fun n => [I n]).map (List.map .v))) o ho
      simp (maxSteps := 1000000) -dsimp -implicitDefEqProofs only [go_sem, ↓reduceIte, keep74, ib74, mk74, Tryz.f74, hn1, Nat.lt_irrefl, Int.lt_irrefl]
      intro _
      clear hi hn1
      refine loopF (keep := keep74) (ib := ib74) (mk := mk74) mix (by kernel_rfl) (fun x : Nat × List Int × Option Nat => [(2, ints point), (3, .ip 5 [[sls 3 DFunc.c j.fProgram.fFuncs, I j.fFunc, I j.fShared, sls 1 (fun n => [I n]) j.fPoint, sls 1 (fun x => [sls 1 (fun n => [I n]) x]) j.fTerms]] 0 0), (7, .op n 4 0 0), (9, gval x.2.1 x.2.2), (49, sls 4 DInstr.c S.code), (50, I S.code.length), (51, I x.1)]) (fun x => oheap h7 (.row 1 ((x.2.1.map fun n => [I n]).map (List.map .v))) x.2.2) (fun x => x.1 ≤ S.code.length ∧ x.2.1 = endsG (l.getD 0 0) S.guards ++ divB (S.code.take x.1) ∧ gfree h7 x.2.2) (fun x => S.code.length - x.1) (0, L, o) ⟨by simp [SatL, tget], Heap.le_refl _, Nat.zero_le _, by simp only [List.take_zero]; rw [hL]; simp [divB], ho⟩ ?_
      rintro ⟨i, L, o⟩ ⟨hi, hL, ho⟩
      simp only at hi hL ho ⊢
      rcases Nat.lt_or_ge i S.code.length with hlt | hge
      · have ei : S.code[i]? = some S.code[i] := List.getElem?_eq_getElem hlt
        have hdl := divB_len (S.code.take i)
        have hLl : L.length ≤ i + S.guards.length + 1 := by rw [hL, List.length_append, hgl]; rw [List.length_take] at hdl; omega
        have hy6 : S.code[i].fOp = 6 → L ++ [S.code[i].fB] = endsG (l.getD 0 0) S.guards ++ divB (S.code.take (i + 1)) := fun h6 => by
          rw [List.take_succ_eq_append_getElem hlt, divB_snoc, if_pos h6, hL, List.append_assoc]
        have hn6 : ¬ S.code[i].fOp = 6 → L = endsG (l.getD 0 0) S.guards ++ divB (S.code.take (i + 1)) := fun h6 => by
          rw [List.take_succ_eq_append_getElem hlt, divB_snoc, if_neg h6, hL]
        cases o with
        | none =>
          simp (maxSteps := 1000000) -dsimp -implicitDefEqProofs only [go_sem, ↓reduceIte, keep74, ib74, mk74, Tryz.f74, gval_none, oheap_none, hlt, ei, DInstr.c_eq]
          intro m9 z9
          refine ⟨fun h6 => ?_, fun h6 => ?_⟩
          · have hy := hy6 h6
            refine ⟨by decide, by decide, by decide, by omega, by omega, fun b ⟨hb9, _, hb7⟩ => ⟨(i + 1, L ++ [S.code[i].fB], some b), ⟨by rw [gval_some, List.length_append]; rfl, by rw [IntWalk.i64_in _ (by omega)]; rfl⟩, ?_, ⟨by omega, hy, fun q e => by cases e; exact hb7⟩, by simp only; omega⟩⟩
            simp only [oheap_some]
            rw [row_grow]
            simp only [List.map_append, List.map_cons, List.map_nil] at *
            exact (leX_nil (by repeat' (first | exact leX_refl _ _ | refine leX_put (by simp only [upd_apply, ↓reduceIte, eq_self, if_true, hb9, z9]) ?_ | refine leX_strip (by first | exact .inr (by assumption) | exact .inl (by simp)) ?_)))
          · exact ⟨(i + 1, L, none), ⟨rfl, by rw [IntWalk.i64_in _ (by omega)]; rfl⟩, Heap.le_upd z9 (Heap.le_upd z9 (Heap.le_refl _)), ⟨by omega, hn6 h6, fun q e => by cases e⟩, by simp only; omega⟩
        | some m =>
          have hm := ho m rfl
          simp (maxSteps := 1000000) -dsimp -implicitDefEqProofs only [go_sem, ↓reduceIte, keep74, ib74, mk74, Tryz.f74, gval_some, oheap_some, hlt, ei, DInstr.c_eq]
          intro m9 ⟨h9m, z9⟩
          have d_m9_m : ¬ m9 = m := h9m
          have d_m_m9 : ¬ m = m9 := Ne.symm d_m9_m
          have e_m9_m : (m9 = m) = False := eq_false d_m9_m
          have e_m_m9 : (m = m9) = False := eq_false d_m_m9
          simp (maxSteps := 1000000) -dsimp -implicitDefEqProofs only [go_sem, ↓reduceIte, keep74, ib74, mk74, Tryz.f74, e_m_m9, e_m9_m, upd_ne]
          refine ⟨fun h6 => ?_, fun h6 => ?_⟩
          · have hy := hy6 h6
            refine ⟨by decide, by decide, by decide, Nat.le_refl _, by omega, by omega, fun b ⟨hb9, _, hbm, hb7⟩ => ⟨(i + 1, L ++ [S.code[i].fB], some b), ⟨by rw [gval_some, List.length_append]; rfl, by rw [IntWalk.i64_in _ (by omega)]; rfl⟩, ?_, ⟨by omega, hy, fun q e => by cases e; exact hb7⟩, by simp only; omega⟩⟩
            simp only [oheap_some]
            rw [row_grow, List.take_of_length_le (by simp)]
            exact (leX_nil (by repeat' (first | exact leX_refl _ _ | refine leX_put (by simp only [upd_apply, ↓reduceIte, eq_self, if_true, hb9, z9, hbm, e_m_m9, e_m9_m]) ?_ | refine leX_strip (by first | exact .inr (by assumption) | exact .inl (by simp)) ?_)))
          · exact ⟨(i + 1, L, some m), ⟨rfl, by rw [IntWalk.i64_in _ (by omega)]; rfl⟩, (leX_nil (by repeat' (first | exact leX_refl _ _ | refine leX_put (by simp only [upd_apply, ↓reduceIte, eq_self, if_true, z9, e_m_m9, e_m9_m]) ?_ | refine leX_strip (by first | exact .inr (by assumption) | exact .inl (by simp)) ?_))), ⟨by omega, hn6 h6, ho⟩, by simp only; omega⟩
      · have hi' : i = S.code.length := by omega
        subst hi'
        rw [List.take_length] at hL
        have hdl := divB_len S.code
        have hLl : L.length ≤ S.code.length + S.guards.length + 1 := by rw [hL, List.length_append, hgl]; omega
        have hrange : ∀ x ∈ L, 0 ≤ x ∧ x < (S.code.length : Int) := fun x hx => by
          rw [hL, endsG] at hx
          rcases List.mem_append.1 hx with hx | hx
          · rcases List.mem_append.1 hx with hx | hx
            · rw [List.mem_singleton.1 hx, List.getD_eq_getElem?_getD, List.getElem?_eq_getElem (by rw [g3, hO3]; omega)]
              have := g4 _ (List.getElem_mem (h := (by rw [g3, hO3]; omega : 0 < l.length)))
              unfold inR at this
              rw [g8]; exact this
            · obtain ⟨gg, hgg, rfl⟩ := List.mem_map.1 hx
              rw [g8]; exact g1.gds gg hgg
          · obtain ⟨cc, hcc, rfl⟩ := List.mem_map.1 hx
            obtain ⟨h1, h2⟩ := List.mem_filter.1 hcc
            obtain ⟨q, hq, rfl⟩ := List.mem_iff_getElem.1 h1
            have h3 := g1.ins q _ (List.getElem?_eq_getElem hq)
            have h4 : S.code[q].fOp = 6 := by simpa using h2
            unfold instrOK at h3
            omega
        have hneed := needed ⟨(argsOf j k).length, S.code, S.guards, l⟩ L (by simp only; omega) (by omega) hrange g1.ins
        have hends : L = endsL ⟨(argsOf j k).length, S.code, S.guards, l⟩ := hL
        rw [hends] at hneed
        rw [← hends] at hneed
        simp only [DTape.c_eq] at hneed
        have hnl : (needL S.code L).length = S.code.length := needL_len _ _
        have hn1 := hon (.row 1 ((L.map fun n => [I n]).map (List.map .v))) o ho
        simp (maxSteps := 1000000) -dsimp -implicitDefEqProofs only [go_sem, ↓reduceIte, keep74, ib74, mk74, Tryz.f74, hn1, Nat.lt_irrefl, Int.lt_irrefl]
        cases o with
        | none =>
          rw [gval_none, oheap_none]
          refine HFnF.mk (hneed.sub (.cons (.refl _) (.cons (Sub.loose _ _ _) .nil))) ?_
          simp (maxSteps := 1000000) -dsimp -implicitDefEqProofs only [go_sem, ↓reduceIte, keep74, ib74, mk74, Tryz.f74, h7n]
          intro _
          have h9n := h7n
          have hle9 := hle7
          generalize h7 = H9 at *
          have hz9 : ∀ {q : Nat}, H9 q = none → h q = none := fun {q} e => by
            rcases hle9 q with h1 | h1
            · exact h1
            · rw [h1, e]
          refine loopF (keep := keep74) (ib := ib74) (mk := mk74) mix (by kernel_rfl) (fun i : Nat => [(2, ints point), (3, .ip 5 [[sls 3 DFunc.c j.fProgram.fFuncs, I j.fFunc, I j.fShared, sls 1 (fun n => [I n]) j.fPoint, sls 1 (fun x => [sls 1 (fun n => [I n]) x]) j.fTerms]] 0 0), (7, .op n 4 0 0), (66, sls 1 (fun b => [.bool b]) (needL S.code L)), (67, I (needL S.code L).length), (68, I i)]) (fun _ => H9) (fun i => i ≤ S.code.length ∧ ∀ r, r < i → ¬ badAt ⟨(argsOf j k).length, S.code, S.guards, l⟩ j.fShared j.fPoint point r) (fun i => S.code.length - i) 0 ⟨by simp [SatL, tget], Heap.le_refl _, Nat.zero_le _, fun r q => absurd q (Nat.not_lt_zero r)⟩ ?_
          rintro i ⟨hi, hbad⟩
          rcases Nat.lt_or_ge i S.code.length with hlt | hge
          · have ei : S.code[i]? = some S.code[i] := List.getElem?_eq_getElem hlt
            have en := getB (b := needL S.code L) (k := i) (by omega)
            have hins := g1.ins i _ ei
            have nx : ¬ badAt ⟨(argsOf j k).length, S.code, S.guards, l⟩ j.fShared j.fPoint point i → ∀ r, r < i + 1 → ¬ badAt ⟨(argsOf j k).length, S.code, S.guards, l⟩ j.fShared j.fPoint point r := fun q r hr => by
              rcases Nat.lt_succ_iff_lt_or_eq.1 hr with hr | rfl
              · exact hbad r hr
              · exact q
            have bi : badAt ⟨(argsOf j k).length, S.code, S.guards, l⟩ j.fShared j.fPoint point i ↔ ((needL S.code L).getD i false = true ∧ S.code[i].fOp = 1 ∧ S.code[i].fNum < j.fShared ∧ ¬ j.fPoint.getD S.code[i].fNum.toNat 0 = point.getD S.code[i].fNum.toNat 0) := by
              rw [badAt]
              simp only
              rw [← hends, en, ei]
              simp
            by_cases hq : S.code[i].fOp = 1 ∧ S.code[i].fNum < j.fShared
            · have hnum : 0 ≤ S.code[i].fNum := by unfold instrOK at hins; omega
              have hpl : (j.fPoint.length : Int) = j.fShared := ok.2.1.1
              have pj : j.fPoint[S.code[i].fNum.toNat]? = some (j.fPoint.getD S.code[i].fNum.toNat 0) := getD_get (by omega)
              have pp : point[S.code[i].fNum.toNat]? = some (point.getD S.code[i].fNum.toNat 0) := getD_get (by omega)
              simp (maxSteps := 1000000) -dsimp -implicitDefEqProofs only [go_sem, ↓reduceIte, keep74, ib74, mk74, Tryz.f74, hnl, hlt, ei, en, h9n, DInstr.c_eq, pj, pp]
              intro m9 z9
              refine ⟨fun hb => ⟨fun h1 => ⟨fun hs => ⟨hnum, by omega, hnum, by omega, fun hd => ⟨(decide_eq_false fun z => ?_).symm, Heap.le_upd (hz9 z9) (Heap.le_upd (hz9 z9) hle9)⟩, fun hd => ?_⟩, fun hs => absurd hq.2 hs⟩, fun h1 => absurd hq.1 h1⟩, fun hb => ?_⟩
              · exact (hu.1 z) ⟨i, bi.2 ⟨hb, h1, hs, hd⟩⟩
              · exact ⟨i + 1, by rw [IntWalk.i64_in _ (by omega)]; rfl, Heap.le_upd z9 (Heap.le_upd z9 (Heap.le_refl _)), ⟨hlt, nx fun z => (bi.1 z).2.2.2 hd⟩, by omega⟩
              · exact ⟨i + 1, by rw [IntWalk.i64_in _ (by omega)]; rfl, Heap.le_upd z9 (Heap.le_upd z9 (Heap.le_refl _)), ⟨hlt, nx fun z => by have := (bi.1 z).1; rw [hb] at this; cases this⟩, by omega⟩
            · simp (maxSteps := 1000000) -dsimp -implicitDefEqProofs only [go_sem, ↓reduceIte, keep74, ib74, mk74, Tryz.f74, hnl, hlt, ei, en, h9n, DInstr.c_eq]
              intro m9 z9
              have hno : ¬ badAt ⟨(argsOf j k).length, S.code, S.guards, l⟩ j.fShared j.fPoint point i := fun z => hq ⟨(bi.1 z).2.1, (bi.1 z).2.2.1⟩
              refine ⟨fun hb => ⟨fun h1 => ⟨fun hs => absurd ⟨h1, hs⟩ hq, fun hs => ?_⟩, fun h1 => ?_⟩, fun hb => ?_⟩
              all_goals exact ⟨i + 1, by rw [IntWalk.i64_in _ (by omega)]; rfl, Heap.le_upd z9 (Heap.le_upd z9 (Heap.le_refl _)), ⟨hlt, nx hno⟩, by omega⟩
          · have hi' : i = S.code.length := by omega
            subst hi'
            simp (maxSteps := 1000000) -dsimp -implicitDefEqProofs only [go_sem, ↓reduceIte, keep74, ib74, mk74, Tryz.f74, hnl, Nat.lt_irrefl, Int.lt_irrefl]
            refine ⟨(decide_eq_true (hu.2 fun ⟨r, hr⟩ => ?_)).symm, hle9⟩
            obtain ⟨_, c, hc, _⟩ := hr
            exact hbad r (List.getElem?_eq_some_iff.1 hc).1 ⟨by assumption, c, hc, by assumption⟩
        | some m =>
          have hm := ho m rfl
          rw [gval_some, oheap_some]
          refine HFnF.give0 (es := L.map fun n => [I n]) hneed (by simp [sealOKL, sealOK]) (by simp [sealL, HVal.sealUp, List.take_of_length_le]) ?_
          simp (maxSteps := 1000000) -dsimp -implicitDefEqProofs only [go_sem, ↓reduceIte, keep74, ib74, mk74, Tryz.f74, h7n]
          intro _
          have dnm : ¬ n = m := fun e => by rw [← e, h7n] at hm; cases hm
          have h9n : (upd h7 m .gone) n = some (.row 4 [[.v (I (argsOf j k).length), .v (sls 4 DInstr.c S.code), .v (sls 2 DGuard.c S.guards), .v (ints l)]]) := by rw [upd_ne _ _ _ _ dnm]; exact h7n
          have hmh : h m = none := by
            have := hle7 m
            rcases this with e | e
            · exact e
            · rw [hm] at e; exact e
          have hle9 : h.le (upd h7 m .gone) := Heap.le_upd hmh hle7
          generalize upd h7 m .gone = H9 at *
          have hz9 : ∀ {q : Nat}, H9 q = none → h q = none := fun {q} e => by
            rcases hle9 q with h1 | h1
            · exact h1
            · rw [h1, e]
          refine loopF (keep := keep74) (ib := ib74) (mk := mk74) mix (by kernel_rfl) (fun i : Nat => [(2, ints point), (3, .ip 5 [[sls 3 DFunc.c j.fProgram.fFuncs, I j.fFunc, I j.fShared, sls 1 (fun n => [I n]) j.fPoint, sls 1 (fun x => [sls 1 (fun n => [I n]) x]) j.fTerms]] 0 0), (7, .op n 4 0 0), (66, sls 1 (fun b => [.bool b]) (needL S.code L)), (67, I (needL S.code L).length), (68, I i)]) (fun _ => H9) (fun i => i ≤ S.code.length ∧ ∀ r, r < i → ¬ badAt ⟨(argsOf j k).length, S.code, S.guards, l⟩ j.fShared j.fPoint point r) (fun i => S.code.length - i) 0 ⟨by simp [SatL, tget], Heap.le_refl _, Nat.zero_le _, fun r q => absurd q (Nat.not_lt_zero r)⟩ ?_
          rintro i ⟨hi, hbad⟩
          rcases Nat.lt_or_ge i S.code.length with hlt | hge
          · have ei : S.code[i]? = some S.code[i] := List.getElem?_eq_getElem hlt
            have en := getB (b := needL S.code L) (k := i) (by omega)
            have hins := g1.ins i _ ei
            have nx : ¬ badAt ⟨(argsOf j k).length, S.code, S.guards, l⟩ j.fShared j.fPoint point i → ∀ r, r < i + 1 → ¬ badAt ⟨(argsOf j k).length, S.code, S.guards, l⟩ j.fShared j.fPoint point r := fun q r hr => by
              rcases Nat.lt_succ_iff_lt_or_eq.1 hr with hr | rfl
              · exact hbad r hr
              · exact q
            have bi : badAt ⟨(argsOf j k).length, S.code, S.guards, l⟩ j.fShared j.fPoint point i ↔ ((needL S.code L).getD i false = true ∧ S.code[i].fOp = 1 ∧ S.code[i].fNum < j.fShared ∧ ¬ j.fPoint.getD S.code[i].fNum.toNat 0 = point.getD S.code[i].fNum.toNat 0) := by
              rw [badAt]
              simp only
              rw [← hends, en, ei]
              simp
            by_cases hq : S.code[i].fOp = 1 ∧ S.code[i].fNum < j.fShared
            · have hnum : 0 ≤ S.code[i].fNum := by unfold instrOK at hins; omega
              have hpl : (j.fPoint.length : Int) = j.fShared := ok.2.1.1
              have pj : j.fPoint[S.code[i].fNum.toNat]? = some (j.fPoint.getD S.code[i].fNum.toNat 0) := getD_get (by omega)
              have pp : point[S.code[i].fNum.toNat]? = some (point.getD S.code[i].fNum.toNat 0) := getD_get (by omega)
              simp (maxSteps := 1000000) -dsimp -implicitDefEqProofs only [go_sem, ↓reduceIte, keep74, ib74, mk74, Tryz.f74, hnl, hlt, ei, en, h9n, DInstr.c_eq, pj, pp]
              intro m9 z9
              refine ⟨fun hb => ⟨fun h1 => ⟨fun hs => ⟨hnum, by omega, hnum, by omega, fun hd => ⟨(decide_eq_false fun z => ?_).symm, Heap.le_upd (hz9 z9) (Heap.le_upd (hz9 z9) hle9)⟩, fun hd => ?_⟩, fun hs => absurd hq.2 hs⟩, fun h1 => absurd hq.1 h1⟩, fun hb => ?_⟩
              · exact (hu.1 z) ⟨i, bi.2 ⟨hb, h1, hs, hd⟩⟩
              · exact ⟨i + 1, by rw [IntWalk.i64_in _ (by omega)]; rfl, Heap.le_upd z9 (Heap.le_upd z9 (Heap.le_refl _)), ⟨hlt, nx fun z => (bi.1 z).2.2.2 hd⟩, by omega⟩
              · exact ⟨i + 1, by rw [IntWalk.i64_in _ (by omega)]; rfl, Heap.le_upd z9 (Heap.le_upd z9 (Heap.le_refl _)), ⟨hlt, nx fun z => by have := (bi.1 z).1; rw [hb] at this; cases this⟩, by omega⟩
            · simp (maxSteps := 1000000) -dsimp -implicitDefEqProofs only [go_sem, ↓reduceIte, keep74, ib74, mk74, Tryz.f74, hnl, hlt, ei, en, h9n, DInstr.c_eq]
              intro m9 z9
              have hno : ¬ badAt ⟨(argsOf j k).length, S.code, S.guards, l⟩ j.fShared j.fPoint point i := fun z => hq ⟨(bi.1 z).2.1, (bi.1 z).2.2.1⟩
              refine ⟨fun hb => ⟨fun h1 => ⟨fun hs => absurd ⟨h1, hs⟩ hq, fun hs => ?_⟩, fun h1 => ?_⟩, fun hb => ?_⟩
              all_goals exact ⟨i + 1, by rw [IntWalk.i64_in _ (by omega)]; rfl, Heap.le_upd z9 (Heap.le_upd z9 (Heap.le_refl _)), ⟨hlt, nx hno⟩, by omega⟩
          · have hi' : i = S.code.length := by omega
            subst hi'
            simp (maxSteps := 1000000) -dsimp -implicitDefEqProofs only [go_sem, ↓reduceIte, keep74, ib74, mk74, Tryz.f74, hnl, Nat.lt_irrefl, Int.lt_irrefl]
            refine ⟨(decide_eq_true (hu.2 fun ⟨r, hr⟩ => ?_)).symm, hle9⟩
            obtain ⟨_, c, hc, _⟩ := hr
            exact hbad r (List.getElem?_eq_some_iff.1 hc).1 ⟨by assumption, c, hc, by assumption⟩
open Go.Proofs
set_option linter.unusedVariables false
set_option linter.unusedSimpArgs false
noncomputable def untRes (j : DJob) (k : Int) (point : List Int) : Bool × Int := if j.ok then if termOK j k ∧ (point.length : Int) = j.fShared ∧ Nums point then (decide (untP j k.toNat point), 0) else (false, 2) else (false, 1)
theorem untRes_1 {j : DJob} {k : Int} {point : List Int} (h : ¬ j.ok) : untRes j k point = (false, 1) := if_neg h
theorem untRes_2 {j : DJob} {k : Int} {point : List Int} (h : j.ok) (h2 : ¬ (termOK j k ∧ (point.length : Int) = j.fShared ∧ Nums point)) : untRes j k point = (false, 2) := by rw [untRes, if_pos h, if_neg h2]
theorem untRes_ok {j : DJob} {k : Int} {point : List Int} (h : j.ok) (h2 : termOK j k ∧ (point.length : Int) = j.fShared ∧ Nums point) : untRes j k point = (decide (untP j k.toNat point), 0) := by rw [untRes, if_pos h, if_pos h2]
def keep31 : List Nat := [0, 1, 2, 3, 6, 7, 8, 12]
def ib31 : List Nat := [3]
def mk31 : Marks := fun _ => ([], .nil, [])
set_option maxRecDepth 100000 in
theorem Untouched (j : DJob) (k : Int) (point : List Int) (hs : j.s ≤ 1048576) : Fn0 Tryz.prog 31 [.agg j.c, I k, ints point] (.tup [.bool (untRes j k point).1, I (untRes j k point).2]) := by
  have hs' := j.s_eq
  simp only [szs_eq] at hs'
  have hok := ValidJob j (by omega)
  have hhas := has j k (by omega)
  have han := areNumbers point j.fShared
  simp only [DJob.c_eq] at hok hhas ⊢
  refine fn0F 28 keep31 ib31 mk31 mix Tryz.func31 rfl (by kernel_rfl) (by simp) fun h => ?_
  simp (maxSteps := 1000000) -dsimp -implicitDefEqProofs only [go_sem, ↓reduceIte, keep31, ib31, mk31, Tryz.f31]
  first | refine HFnF.mk (hok) ?_ | refine CallSF.mk (hok) ?_ | refine HFnF.mkAt (hok) ?_ | refine CallSF.mk (FnAt.fn0 (hok)) ?_
  simp (maxSteps := 1000000) -dsimp -implicitDefEqProofs only [go_sem, ↓reduceIte, keep31, ib31, mk31, Tryz.f31]
  refine ⟨fun hn => by rw [untRes_1 hn], fun hj => ?_⟩
  first | refine HFnF.mk (hhas) ?_ | refine CallSF.mk (hhas) ?_ | refine HFnF.mkAt (hhas) ?_ | refine CallSF.mk (FnAt.fn0 (hhas)) ?_
  simp (maxSteps := 1000000) -dsimp -implicitDefEqProofs only [go_sem, ↓reduceIte, keep31, ib31, mk31, Tryz.f31]
  refine ⟨fun ht => ?_, fun ht => ?_⟩
  all_goals try (rw [untRes_2 hj (fun z => ht z.1)]; done)
  first | refine HFnF.mk (han) ?_ | refine CallSF.mk (han) ?_ | refine HFnF.mkAt (han) ?_ | refine CallSF.mk (FnAt.fn0 (han)) ?_
  simp (maxSteps := 1000000) -dsimp -implicitDefEqProofs only [go_sem, ↓reduceIte, keep31, ib31, mk31, Tryz.f31]
  refine ⟨fun hp => ?_, fun hp => ?_⟩
  all_goals try (rw [untRes_2 hj (fun z => hp z.2)]; done)
  have k1 := ht.1
  have k2 := ht.2
  have hkl : k.toNat < j.fTerms.length := by omega
  have hu := untouchedI hj (by omega) hkl point hp.1
  rw [show ((k.toNat : Nat) : Int) = k by omega] at hu
  simp only [DJob.c_eq] at hu
  first | refine HFnF.mk (hu) ?_ | refine CallSF.mk (hu) ?_ | refine HFnF.mkAt (hu) ?_ | refine CallSF.mk (FnAt.fn0 (hu)) ?_
  simp (maxSteps := 1000000) -dsimp -implicitDefEqProofs only [go_sem, ↓reduceIte, keep31, ib31, mk31, Tryz.f31]
  rw [untRes_ok hj ⟨ht, hp⟩]
end Go.Hl

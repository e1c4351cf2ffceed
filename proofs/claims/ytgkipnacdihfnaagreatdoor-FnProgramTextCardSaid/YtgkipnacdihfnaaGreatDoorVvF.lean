/-
  Contracts of functions and laws of the layer over the walk.
-/
import Derived.Test.YtgkipnacdihfnaaGreatDoorVvE
import Derived.Test.YtgkipnacdihfnaaGreatDoorVvD
import Derived.Test.YtgkipnacdihfnaaGreatDoorVvB
import Derived.Test.YtgkipnacdihfnaaGreatDoorHlD
import Derived.Test.YtgkipnacdihfnaaGreatDoorVvA
namespace Go.Hl
open Go.Proofs
set_option linter.unusedVariables false
set_option linter.unusedSimpArgs false
def keep8 : List Nat := [0, 1, 2, 3, 4, 5, 12, 17, 29]
def ib8 : List Nat := [2, 3]
def mk8 : Marks := fun id => match id with | 6 => ([], (.op 0 (.op 1 (.op 2 (.op 3 (.op 4 (.op 5 (.op 6 (.op 7 (.op 8 (.op 9 .nil)))))))))), []) | _ => ([], .nil, [])
set_option maxRecDepth 100000 in
theorem specSameProgram (a b : DProgram) : Fn0 Tryz.prog 8 [.agg a.c, .agg b.c] (.bool (decide (a = b))) := by
  simp only [DProgram.c_eq]
  refine fn0F 30 keep8 ib8 mk8 mix Tryz.func8 rfl (by kernel_rfl) (by simp) fun h => ?_
  simp (maxSteps := 1000000) -dsimp -implicitDefEqProofs only [go_sem, ↓reduceIte, keep8, ib8, mk8, Tryz.f8]
  repeat' (with_reducible first | intro _ | refine And.intro ?_ ?_)
  all_goals try (first | (simp [DProgram.eq_iff, *]; done) | omega | (grind [DProgram.eq_iff]) | (simp [DProgram.eq_iff]; omega))
  rename_i e3
  refine loopF (keep := keep8) (ib := ib8) (mk := mk8) mix (by kernel_rfl) (fun k : Nat => [(2, .ip 1 [a.c] 0 0), (3, .ip 1 [b.c] 0 0), (5, I k)]) (fun _ => h) (fun k => k ≤ (a.fFuncs).length ∧ (a.fFuncs).take k = (b.fFuncs).take k) (fun k => (a.fFuncs).length - k) 0 (by simp [SatL, tget, Heap.le_refl, DProgram.c_eq]) ?_
  intro k ⟨hk, hp⟩
  simp only [DProgram.c_eq]
  simp (maxSteps := 1000000) -dsimp -implicitDefEqProofs only [go_sem, ↓reduceIte, keep8, ib8, mk8, Tryz.f8]
  repeat' (with_reducible first | intro _ | refine And.intro ?_ ?_)
  all_goals try omega
  · rename_i hlt
    have hlb : k < (b.fFuncs).length := by omega
    first | refine CallSF.mk (((fun x _ y => l02SameFunc x y) (a.fFuncs)[k] (List.getElem_mem hlt) (b.fFuncs)[k]).sub (by repeat' (first | exact SubL.nil | refine SubL.cons ?_ ?_ | exact Sub.refl _ | (rw [DExpr.c_eq]; exact Sub.refl _) | exact Sub.ipAt rfl rfl rfl | exact Sub.ip (map_get (by omega)) (by simp) | exact Sub.ipAt (map_get (by omega)) rfl rfl | exact Sub.ip (by simp [*]) (by simp) | exact Sub.ipAt (by simp [*]) (by rfl) (by rfl)))) ?_ | refine HFnF.mk (((fun x _ y => l02SameFunc x y) (a.fFuncs)[k] (List.getElem_mem hlt) (b.fFuncs)[k]).sub (by repeat' (first | exact SubL.nil | refine SubL.cons ?_ ?_ | exact Sub.refl _ | (rw [DExpr.c_eq]; exact Sub.refl _) | exact Sub.ipAt rfl rfl rfl | exact Sub.ip (map_get (by omega)) (by simp) | exact Sub.ipAt (map_get (by omega)) rfl rfl | exact Sub.ip (by simp [*]) (by simp) | exact Sub.ipAt (by simp [*]) (by rfl) (by rfl)))) ?_
    simp (maxSteps := 1000000) -dsimp -implicitDefEqProofs only [go_sem, ↓reduceIte, keep8, ib8, mk8, Tryz.f8]
    repeat' (with_reducible first | intro _ | refine And.intro ?_ ?_)
    · rename_i he
      exact (decide_eq_false fun e => he (getElem_of_eq (congrArg DProgram.fFuncs e) hlt)).symm
    · rename_i he
      refine ⟨k + 1, ?_⟩
      repeat' (with_reducible refine And.intro ?_ ?_)
      all_goals try (rw [IntWalk.i64_in _ (by omega)]; first | rfl | omega)
      all_goals try omega
      all_goals try (repeat' (with_reducible first | exact Heap.le_refl _ | refine (le_upd (by first | assumption | exact And.right (by assumption) | exact upd_none.2 (by assumption))).2 ?_))
      exact take_step hlt hlb hp he
  · have hk' : k = (a.fFuncs).length := by omega
    subst hk'
    have hq := eq_of_take e3 hp
    exact (decide_eq_true (DProgram.eq_iff.2 hq)).symm
open Go.Proofs
set_option linter.unusedVariables false
set_option linter.unusedSimpArgs false
theorem zE_z : ZeroO zE.o [I 0, I 0, I 0, I 0, .nilsl] := ⟨zEo, zEo_o, zEo_rows, zEo_sub⟩
def keep39 : List Nat := [0, 1, 2, 3, 4, 8, 9, 10, 11, 45]
def ib39 : List Nat := [4]
def mk39 : Marks := fun _ => ([], .nil, [])
set_option maxRecDepth 100000 in
set_option maxHeartbeats 1000000 in
theorem readExprI {p : DProgram} (hp : p.ok) (hps : p.s ≤ 1048576) (t : List UInt8) (ht : t.length ≤ 20000) (vars funcs : Int) :
    FnN Tryz.prog 39 [.agg p.c, .str t, I vars, I funcs] (QA ((readE p t vars funcs).getD zE).o (fun y => .tup [y, .bool (readE p t vars funcs).isSome])) := by
  have hR := rightI hp t vars funcs
  have hb := (exI_b p t 60).ok (good00 t) rfl
  have hcall := fun nb => exprIH (nb := nb) (p := p) (t := t) (by omega) (by omega) 60 s00 (good00 t) (fun _ => by decide)
  simp only [DProgram.c_eq]
  refine fnNF 48 keep39 ib39 mk39 mix Tryz.func39 rfl (by kernel_rfl) (by simp) fun h => ?_
  simp (maxSteps := 1000000) -dsimp -implicitDefEqProofs only [go_sem, ↓reduceIte, keep39, ib39, mk39, Tryz.f39]
  intro n8 q8
  try simp (maxSteps := 1000000) -dsimp -implicitDefEqProofs only [go_sem, ↓reduceIte, keep39, ib39, mk39, Tryz.f39]
  intro nb qb
  have d_nb_n8 : ¬ nb = n8 := qb.1
  have d_n8_nb : ¬ n8 = nb := Ne.symm d_nb_n8
  have e_nb_n8 : (nb = n8) = False := eq_false d_nb_n8
  have e_n8_nb : (n8 = nb) = False := eq_false d_n8_nb
  rw [show (HObj.row 5 [[.v (sls 3 DFunc.c p.fFuncs), .v (.str t), .v (I 0), .v (.bool false), .v (I 0)]]) = rdr p t s00 from rfl]
  refine HFnF.mkH (hcall nb _ (by simp only [upd_get, e_nb_n8, e_n8_nb, if_false]; exact qb.2)) ?_
  rintro r_ h' ⟨l, g9, ⟨e, oe, rfl, rfl⟩, w9, z9, rfl⟩
  obtain ⟨g8, rfl, w8, z88⟩ := New.under q8 w9
  have z8b : g8 nb = none := by simpa only [upd_get, e_nb_n8, e_n8_nb, if_false] using z9
  generalize exI p t 60 s00 = R at *
  obtain ⟨a, s2⟩ := R
  unfold Right at hR
  simp only at oe hb hR ⊢
  have oe1 := oe
  rw [DExpr.o_iff] at oe1
  obtain ⟨y4, rfl, os4⟩ := oe1
  simp (maxSteps := 1000000) -dsimp -implicitDefEqProofs only [go_sem, ↓reduceIte, keep39, ib39, mk39, Tryz.f39, e_nb_n8, e_n8_nb, upd_ne, upd_get, upd_swap d_n8_nb, OV.map_val, OV.map_val_nil, OV.val_v, os4.flat, os4.one]
  intro n11 q11
  have a1 : ¬ n11 = nb := by grind
  have a2 : ¬ n11 = n8 := by grind
  have z8n : g8 n11 = none := by grind
  have d_n11_nb : ¬ n11 = nb := a1
  have d_nb_n11 : ¬ nb = n11 := Ne.symm d_n11_nb
  have e_n11_nb : (n11 = nb) = False := eq_false d_n11_nb
  have e_nb_n11 : (nb = n11) = False := eq_false d_nb_n11
  have d_n11_n8 : ¬ n11 = n8 := a2
  have d_n8_n11 : ¬ n8 = n11 := Ne.symm d_n11_n8
  have e_n11_n8 : (n11 = n8) = False := eq_false d_n11_n8
  have e_n8_n11 : (n8 = n11) = False := eq_false d_n8_n11
  have zn11 : h n11 = none := Heap.le_none w8.le z8n
  have hle : ∀ X Y Z, h.le (upd (upd (upd g8 nb X) n8 Y) n11 Z) := fun X Y Z => (le_upd zn11).2 ((le_upd q8).2 ((le_upd qb.2).2 w8.le))
  have how : ∀ X Y Z, Owns (upd (upd (upd g8 nb X) n8 Y) n11 Z) (OV.rowsRow [.v (.int .i64 a.fKind), .v (.int .i64 a.fNum), .v (.int .i64 a.fPick), .v (.int .i64 a.fCount), y4]) := fun X Y Z => ((w8.owns.up z8b).up (by rw [upd_ne _ _ _ _ d_n8_nb]; exact z88)).up (by rw [upd_ne _ _ _ _ d_n11_n8, upd_ne _ _ _ _ d_n11_nb]; exact z8n)
  have hvw : ∀ X Y Z, View (upd (upd (upd g8 nb X) n8 Y) n11 Z) (.agg [.int .i64 a.fKind, .int .i64 a.fNum, .int .i64 a.fPick, .int .i64 a.fCount, y4.val]) (.agg a.c) := fun X Y Z => View.aggD [.v (.int .i64 a.fKind), .v (.int .i64 a.fNum), .v (.int .i64 a.fPick), .v (.int .i64 a.fCount), y4] (DExpr.o_dat oe) (how X Y Z)
  have has : a.s ≤ 40000 := by have h1 : a.s ≤ 2 * (s2.i - 0) := hb.sz; have h2 : s2.i ≤ t.length := hb.hi; omega
  simp (maxSteps := 1000000) -dsimp -implicitDefEqProofs only [go_sem, ↓reduceIte, keep39, ib39, mk39, Tryz.f39, e_nb_n8, e_nb_n11, e_n8_nb, e_n8_n11, e_n11_nb, e_n11_n8, upd_ne, upd_get, upd_swap d_n11_n8, upd_upd, rdr, Option.toArray_none, Option.toArray_some, List.filterMap_cons, List.filterMap_nil, List.elem_cons_self, List.nil_append, List.append_nil, List.toList_toArray]
  refine ⟨fun hb2 _ => ⟨fun hi2 => ?_, fun hi2 => ?_⟩, fun hb2 => ?_⟩
  · have hV := ValidExpr p a vars funcs (by omega) (by omega)
    rw [DProgram.c_eq] at hV
    refine HFnF.lend0 hV (ViewL.cons (View.same _ _) (ViewL.cons (hvw _ _ _) (ViewL.cons (View.same _ _) (ViewL.cons (View.same _ _) ViewL.nil)))) rfl ?_
    by_cases hv : exprOK p a vars funcs
    · have hT := textI hp a (Stands.of hv) (by omega)
      rw [DProgram.c_eq] at hT
      rw [decide_eq_true hv]
      simp (maxSteps := 1000000) -dsimp -implicitDefEqProofs only [go_sem, ↓reduceIte, keep39, ib39, mk39, Tryz.f39, e_nb_n8, e_nb_n11, e_n8_nb, e_n8_n11, e_n11_nb, e_n11_n8, upd_ne, upd_get, upd_swap d_n11_n8, upd_upd, Option.toArray_none, Option.toArray_some, List.filterMap_cons, List.filterMap_nil, List.elem_cons_self, List.nil_append, List.append_nil, List.toList_toArray]
      refine HFnF.lend0 hT (ViewL.cons (View.same _ _) (ViewL.cons (hvw _ _ _) ViewL.nil)) rfl ?_
      simp (maxSteps := 1000000) -dsimp -implicitDefEqProofs only [go_sem, ↓reduceIte, keep39, ib39, mk39, Tryz.f39, e_nb_n8, e_nb_n11, e_n8_nb, e_n8_n11, e_n11_nb, e_n11_n8, upd_ne, upd_get, upd_swap d_n11_n8, upd_upd, Option.toArray_none, Option.toArray_some, List.filterMap_cons, List.filterMap_nil, List.elem_cons_self, List.nil_append, List.append_nil, List.toList_toArray, os4.flat, os4.one]
      refine ⟨fun hx => ?_, fun hx => ?_⟩
      · rw [hR.2 (fun q => hx q.2.2.2)]
        exact own_zero zE_z (wsub_tup [] [_]) (hle _ _ _)
      · rw [hR.1 ⟨hb2, hi2, hv, hx⟩]
        exact own_end (e := [.v (.int .i64 a.fKind), .v (.int .i64 a.fNum), .v (.int .i64 a.fPick), .v (.int .i64 a.fCount), y4]) (w := fun y => .tup [y, .bool true]) oe w8 ((le_upd z8n).2 ((le_upd z88).2 ((le_upd z8b).2 (Heap.le_refl _))))
    · rw [decide_eq_false hv]
      simp (maxSteps := 1000000) -dsimp -implicitDefEqProofs only [go_sem, ↓reduceIte, keep39, ib39, mk39, Tryz.f39, e_nb_n8, e_nb_n11, e_n8_nb, e_n8_n11, e_n11_nb, e_n11_n8, upd_ne, upd_get, upd_swap d_n11_n8, upd_upd, Option.toArray_none, Option.toArray_some, List.filterMap_cons, List.filterMap_nil, List.elem_cons_self, List.nil_append, List.append_nil, List.toList_toArray]
      rw [hR.2 (fun q => hv q.2.2.1)]
      exact own_zero zE_z (wsub_tup [] [_]) (hle _ _ _)
  · rw [hR.2 (fun q => hi2 q.2.1)]
    exact own_zero zE_z (wsub_tup [] [_]) (hle _ _ _)
  · rw [hR.2 (fun q => (by have := hb2.symm.trans q.1; cases this))]
    exact own_zero zE_z (wsub_tup [] [_]) (hle _ _ _)
open Go.Proofs
set_option linter.unusedVariables false
set_option linter.unusedSimpArgs false
theorem splitB_strsG {a sep : List UInt8} {L : List (List UInt8)} (hL : Go.Lib.split a sep = L) : (Go.Lib.splitB ⟨sep.toArray⟩ 0 (Go.Lib.countB ⟨a.toArray⟩ ⟨sep.toArray⟩) ⟨a.toArray⟩).map Value.string = L.map fun s => Value.string ⟨s.toArray⟩ := by
  have h1 := Go.Lib.splitB_data ⟨sep.toArray⟩ 0 (Go.Lib.countB ⟨a.toArray⟩ ⟨sep.toArray⟩) ⟨a.toArray⟩
  have h2 : Go.Lib.splitK sep 0 (Go.Lib.countB ⟨a.toArray⟩ ⟨sep.toArray⟩) a = L := hL
  rw [← h2, ← h1, List.map_map]
  refine List.map_congr_left fun b _ => ?_
  simp
theorem splitS {a sep : List UInt8} {L : List (List UInt8)} (hL : Go.Lib.split a sep = L) (hsep : 1 ≤ sep.length) (ha : a.length < 4294967281) (hl : L.length ≤ 1048600) (hs : ∀ s ∈ L, s.length ≤ 1048600) : Fn0 Tryz.prog 18 [.str a, .str sep] (sls 1 (fun s => [.str s]) L) := by
  refine fn0_strs (by kernel_rfl) (by simp only [maxLen]; omega) (fun s h => by have := hs s h; simp only [maxLen]; omega) fun E h w vs R rl => ?_
  match vs, rl with
  | [v0, v1], rl =>
    obtain ⟨r0, r1, _⟩ := rl
    obtain ⟨rfl, h0⟩ := rep_str r0
    obtain ⟨rfl, h1⟩ := rep_str r1
    obtain ⟨m, hm⟩ := laid_int R.laid
    have hn : Go.Lib.countB ⟨a.toArray⟩ ⟨sep.toArray⟩ + 1 = L.length := by
      have h2 := Go.Lib.splitB_all ⟨sep.toArray⟩ (by show 1 ≤ sep.toArray.size; simpa using hsep) 0 _ ⟨a.toArray⟩ rfl
      have h3 := congrArg List.length (splitB_strsG hL)
      rw [List.length_map, List.length_map] at h3
      rw [← h3]; exact h2.symm
    refine (Go.Proofs.Tryz.strings_Split ⟨a.toArray⟩ ⟨sep.toArray⟩ m w (by simpa [ByteArray.size] using ha) hm (by show 1 ≤ sep.toArray.size; simpa using hsep)).mono fun e w' ⟨he, hw⟩ => ⟨9, ?_, ?_⟩
    · rw [he, hn]
    · rw [hw, splitB_strsG hL]
def keep40 : List Nat := [0, 2, 4]
def ib40 : List Nat := [5]
def mk40 : Marks := fun _ => ([], .nil, [])
theorem cloneFuncs {k : Nat} {es : List (List OV)} (hk : es.length = k) (hk2 : k ≤ 1000) {H : Heap} {o : Option Nat} (ho : ∀ m, o = some m → 0 < k) (hN : o = none → es = []) (hH : ∀ m, o = some m → H m = some (.row 3 (OV.cells es))) :
    HFn Tryz.prog 40 [onil 3 k o] H fun r h' => ∃ o', r = onil 3 k o' ∧ (o' = none → es = []) ∧ (∀ m, o' = some m → H m = none) ∧ h' = oheap H (.row 3 (OV.cells es)) o' := by
  cases o with
  | none =>
    have := hN rfl
    subst this
    subst hk
    simp only [onil_none, List.length_nil]
    refine fnHF 8 keep40 ib40 mk40 mix Tryz.func40 rfl (by kernel_rfl) (by simp) ?_
    simp (maxSteps := 1000000) -dsimp -implicitDefEqProofs only [go_sem, ↓reduceIte, keep40, ib40, mk40, Tryz.f40]
    exact ⟨_, Heap.le_refl _, none, rfl, (by intro m e; cases e), rfl⟩
  | some n =>
    have h0 := ho n rfl
    have hg := hH n rfl
    clear hH hN ho
    simp only [onil_some]
    have hl : (k ≤ (OV.cells es).length) = True := eq_true (by rw [cells_len]; omega)
    have ht : List.take k (OV.cells es) = OV.cells es := List.take_of_length_le (by rw [cells_len]; omega)
    have hp : plainRows (OV.cells es) = some (es.map (List.map OV.val)) := by
      clear hg hl ht hk
      induction es with
      | nil => rfl
      | cons e es ih =>
        have he : plains (e.map fun c => Cell.v c.val) = some (e.map OV.val) := by
          induction e with
          | nil => rfl
          | cons c e ih2 => simp [plains, ih2]
        have ih' : plainRows (OV.cells es) = some (es.map (List.map OV.val)) := ih
        show plainRows ((e.map fun c => Cell.v c.val) :: OV.cells es) = _
        rw [plainRows, he, ih']; rfl
    have hc : List.map (List.map Cell.v) (List.map (List.map OV.val) es) = OV.cells es := by simp [OV.cells]
    refine fnHF 8 keep40 ib40 mk40 mix Tryz.func40 rfl (by kernel_rfl) (by simp) ?_
    simp (maxSteps := 1000000) -dsimp -implicitDefEqProofs only [go_sem, ↓reduceIte, keep40, ib40, mk40, Tryz.f40, hg, hl, ht, hp]
    refine ⟨fun q => absurd q (by omega), by decide, by decide, fun q => ?_, fun _ => ⟨by omega, by omega, fun m qm => ⟨_, Heap.le_refl _, some m, by rw [hk]; rfl, fun e => (by cases e), fun a e => (by cases e; exact qm), by rw [hc]; rfl⟩⟩⟩
    have := congrArg List.length q
    rw [List.length_map, List.length_nil] at this
    omega
theorem upto_s (p : DProgram) (k : Nat) : (p.upto k).s ≤ p.s := by
  rw [p.s_eq, (p.upto k).s_eq, szs_eq, szs_eq]
  have h4 : ((p.fFuncs.take k).map DFunc.s).sum + ((p.fFuncs.drop k).map DFunc.s).sum = (p.fFuncs.map DFunc.s).sum := by
    rw [← List.sum_append, ← List.map_append, List.take_append_drop]
  have h5 : (p.fFuncs.take k).length ≤ p.fFuncs.length := by rw [List.length_take]; omega
  show (p.fFuncs.take k).length + ((p.fFuncs.take k).map DFunc.s).sum ≤ _
  omega
theorem bars_mem : ∀ (l : List (List UInt8)), ∀ a ∈ l, a.length ≤ (bars l).length
  | [], a, h => by simp at h
  | [b], a, h => by rw [List.mem_singleton.1 h]; exact Nat.le_refl _
  | b :: c :: l, a, h => by
    have ih := bars_mem (c :: l)
    simp only [bars, List.length_append, List.length_cons]
    rcases List.mem_cons.1 h with rfl | h
    · omega
    · have := ih a h; omega
theorem readOne {p : DProgram} (hp : p.ok) (hps : p.s ≤ 1048576) {k : Nat} (hk : k < p.fFuncs.length) (hlen : (lineT p p.fFuncs[k]).length ≤ 20000) {i : Nat} (hi : i < p.fFuncs[k].fOuts.length) : FnN Tryz.prog 39 [.agg (p.upto k).c, .str (p.fFuncs[k].fOuts[i].txt p), I p.fFuncs[k].fParams, I k] (QA p.fFuncs[k].fOuts[i].o (fun y => .tup [y, .bool true])) := by
  have hf := hp.2 k _ (List.getElem?_eq_getElem hk)
  have he := hf.2.2.2.2.2 _ (List.getElem_mem hi)
  have h1 := readE_of (ok_upto hp k) (exprOK_upto (Nat.le_refl k) he)
  rw [DExpr.txt_upto _ _ he.2.2.2.2] at h1
  have hl := bars_mem _ _ (List.mem_map.2 ⟨_, List.getElem_mem hi, rfl⟩ : p.fFuncs[k].fOuts[i].txt p ∈ p.fFuncs[k].fOuts.map (DExpr.txt p))
  have h2 := readExprI (ok_upto hp k) (by have := upto_s p k; omega) (p.fFuncs[k].fOuts[i].txt p) (by simp only [lineT, List.length_append] at hlen; omega) p.fFuncs[k].fParams k
  rw [h1] at h2
  exact h2
theorem View.pre {h : Heap} {x x' y : HVal} (s : Sub x x') (a : View h x' y) : View h x y := fun E w v R r => a E w v R (s _ _ _ _ r)
/-- The functions read so far, as the program that they are. -/
theorem view_prog {p : DProgram} {k : Nat} {es : List (List OV)} {o : Option Nat} {H : Heap} (hor : OR DFunc.o (p.fFuncs.take k) es) (hl : es.length = k) (hs : o = none → es = []) (how : Owns H (OV.rowsRows es)) (he : ∀ m, o = some m → H m = some (.row 3 (OV.cells es))) : View H (.agg [onil 3 k o]) (.agg (p.upto k).c) := by
  have hy : OS DFunc.o 3 (p.upto k).fFuncs (gov 3 es o) := by
    cases o with
    | none => exact .inl ⟨rfl, by have := hor.length; rw [hs rfl] at this; simpa [DProgram.upto] using this⟩
    | some m => exact OS.mk hor
  have hown : Owns H (OV.rowsRow [gov 3 es o]) := by
    cases o with
    | none => intro q hq; simp [gov_none, OV.rowsRow, OV.nil_rows] at hq
    | some m =>
      intro q hq
      simp only [gov_some, OV.rowsRow, OV.sl_rows, List.append_nil] at hq
      rcases List.mem_cons.1 hq with rfl | hq
      · exact he m rfl
      · exact how q hq
  refine View.pre (Sub.agg (.cons (?_ : Sub _ (gov 3 es o).val) .nil)) (View.aggD [gov 3 es o] ?_ hown)
  · rw [← hl]; exact gov_sub
  · exact DProgram.o_dat (x := p.upto k) ⟨_, rfl, hy⟩
theorem owns_le {g h : Heap} {l : List (Nat × HObj)} (a : Owns g l) (hl : g.le h) : Owns h l := fun p hp => Heap.le_get hl (a p hp)
def keep19 : List Nat := [0, 1, 2, 4, 5, 6, 7, 9, 10, 12, 13, 14, 16, 17, 18, 19, 41, 42, 43, 44, 64]
def ib19 : List Nat := [2, 69, 77]
def mk19 : Marks := fun id => match id with | 13 => ([2, 3, 5, 7, 8], (.op 0 (.op 1 (.op 3 (.op 4 (.alt 2 (.alt 5 (.op 6 (.op 7 (.op 8 .nil))) 7 (.op 5 (.op 6 (.op 8 .nil)))) 7 (.op 2 (.op 5 (.op 6 (.op 8 .nil))))))))), [(3, 2), (3, 7)]) | 14 => ([0, 3, 4, 6], (.op 1 (.op 2 (.op 0 (.op 3 (.op 4 (.op 5 (.op 6 (.op 7 .nil)))))))), [(0, 4)]) | _ => ([], .nil, [])
set_option maxRecDepth 100000 in
set_option maxHeartbeats 1000000 in
theorem readFuncH {p : DProgram} (hp : p.ok) (hps : p.s ≤ 1048576) {k : Nat} (hk : k < p.fFuncs.length) (hlen : (lineT p p.fFuncs[k]).length ≤ 20000) {es : List (List OV)} {G : Heap} {o : Option Nat} (hor : OR DFunc.o (p.fFuncs.take k) es) (howG : Owns G (OV.rowsRows es)) (ho : ∀ m, o = some m → 0 < k) (hoN : o = none → es = []) (he4 : ∀ m, o = some m → G m = some (.row 3 (OV.cells es))) :
    HFn Tryz.prog 19 [.agg [onil 3 k o], .str (lineT p p.fFuncs[k])] G fun r h' => ∃ ef m g', p.fFuncs[k].o ef ∧ r = .tup [.agg [.os m 3 0 (k + 1)], .bool true] ∧ New G (OV.rowsRow ef) g' ∧ g' m = none ∧ h' = upd g' m (.row 3 (OV.cells (es ++ [ef]))) := by
  have hf := hp.2 k _ (List.getElem?_eq_getElem hk)
  have hc1 := cut_head hp hk
  have hc2 := cut_name hp hk
  have hsp := split_outs hp hk
  have hk16 : k < 16 := by have := hp.1; omega
  have hesl : es.length = k := by have := hor.length; rw [List.length_take] at this; omega
  have hone := fun i hi => readOne hp hps hk hlen (i := i) hi
  have hrp : rdN (Go.Lib.itoa p.fFuncs[k].fParams) = p.fFuncs[k].fParams := rdN_itoa hf.2.1.1 (by have := hf.2.1.2; omega)
  have hro : rdOK 12 (Go.Lib.itoa p.fFuncs[k].fParams) := (rdOK_itoa hf.2.1.1 (by have := hf.2.1.2; omega)).2 hf.2.1.2
  have hll : (Go.Lib.itoa p.fFuncs[k].fParams).length ≤ 20000 ∧ (p.fFuncs[k].fName ++ 32 :: Go.Lib.itoa p.fFuncs[k].fParams).length ≤ 20000 ∧ (bars (p.fFuncs[k].fOuts.map (DExpr.txt p))).length ≤ 20000 := by
    simp only [lineT, headF, List.length_append, List.length_cons, List.length_nil] at hlen ⊢; omega
  have hct1 := cutC (lineT p p.fFuncs[k]) [58, 32] (by omega)
  rw [hc1] at hct1
  have hct2 := cutC (p.fFuncs[k].fName ++ 32 :: Go.Lib.itoa p.fFuncs[k].fParams) [32] (by omega)
  rw [hc2] at hct2
  have hrd := readDecimal (Go.Lib.itoa p.fFuncs[k].fParams) 12 (by omega) (by omega)
  rw [hrp, decide_eq_true hro] at hrd
  have hol : p.fFuncs[k].fOuts.length ≤ 12 := by have := hf.2.2.1.2; omega
  have hsS := splitS hsp (by simp) (by omega) (by rw [List.length_map]; omega) (fun s hs' => by have := bars_mem _ s hs'; omega)
  have hbm : ∀ (i : Nat) (hi : i < p.fFuncs[k].fOuts.length), (p.fFuncs[k].fOuts.map (DExpr.txt p))[i]? = some (p.fFuncs[k].fOuts[i].txt p) := fun i hi => by rw [List.getElem?_map, List.getElem?_eq_getElem hi]; rfl
  have hln : ∀ (et : TypeId) (L : HVal → Prop) (t : Tag L), lenF Tryz.prog (some (.slice et)) (onil 3 k o) L t = L (I k) := fun et L t => by
    cases o with
    | none => have : k = 0 := by rw [← hesl, hoN rfl]; rfl
              subst this; rfl
    | some m => rw [onil_some, lenF_os]; simp; omega
  refine fnHF 86 keep19 ib19 mk19 mix Tryz.func19 rfl (by kernel_rfl) (by simp) ?_
  simp (maxSteps := 1000000) -dsimp -implicitDefEqProofs only [go_sem, ↓reduceIte, keep19, ib19, mk19, Tryz.f19, onil_flat, onil_cells]
  intro n4 q4
  try simp (maxSteps := 1000000) -dsimp -implicitDefEqProofs only [go_sem, ↓reduceIte, keep19, ib19, mk19, Tryz.f19, onil_flat, onil_cells]
  first | refine HFnF.mk (hct1) ?_ | refine CallSF.mk (hct1) ?_ | refine HFnF.mkAt (hct1) ?_ | refine CallSF.mk (FnAt.fn0 (hct1)) ?_
  simp (maxSteps := 1000000) -dsimp -implicitDefEqProofs only [go_sem, ↓reduceIte, keep19, ib19, mk19, Tryz.f19]
  first | refine HFnF.mk (hct2) ?_ | refine CallSF.mk (hct2) ?_ | refine HFnF.mkAt (hct2) ?_ | refine CallSF.mk (FnAt.fn0 (hct2)) ?_
  simp (maxSteps := 1000000) -dsimp -implicitDefEqProofs only [go_sem, ↓reduceIte, keep19, ib19, mk19, Tryz.f19]
  first | refine HFnF.mk (hrd) ?_ | refine CallSF.mk (hrd) ?_ | refine HFnF.mkAt (hrd) ?_ | refine CallSF.mk (FnAt.fn0 (hrd)) ?_
  simp (maxSteps := 1000000) -dsimp -implicitDefEqProofs only [go_sem, ↓reduceIte, keep19, ib19, mk19, Tryz.f19]
  intro n14 q14
  have d_n14_n4 : ¬ n14 = n4 := q14.1
  have d_n4_n14 : ¬ n4 = n14 := Ne.symm d_n14_n4
  have e_n14_n4 : (n14 = n4) = False := eq_false d_n14_n4
  have e_n4_n14 : (n4 = n14) = False := eq_false d_n4_n14
  simp (maxSteps := 1000000) -dsimp -implicitDefEqProofs only [go_sem, ↓reduceIte, keep19, ib19, mk19, Tryz.f19, e_n14_n4, e_n4_n14, upd_get, upd_ne, upd_upd]
  first | refine HFnF.mk (hsS) ?_ | refine CallSF.mk (hsS) ?_ | refine HFnF.mkAt (hsS) ?_ | refine CallSF.mk (FnAt.fn0 (hsS)) ?_
  simp (maxSteps := 1000000) -dsimp -implicitDefEqProofs only [go_sem, ↓reduceIte, keep19, ib19, mk19, Tryz.f19, e_n14_n4, e_n4_n14, upd_get, upd_ne, upd_upd]
  generalize hfk : p.fFuncs[k] = f at *
  intro _
  have hG4 : G n4 = none := by grind
  have hG14 : G n14 = none := by grind
  refine loopF (keep := keep19) (ib := ib19) (mk := mk19) mix (by kernel_rfl) (fun x : Nat × List (List OV) × Heap × Option Nat => [(2, .ip 1 [[onil 3 k o]] 0 0), (4, .op n4 1 0 0), (12, I f.fParams), (13, .bool true), (14, .op n14 3 0 0), (41, sls 1 (fun s => [.str s]) (f.fOuts.map (DExpr.txt p))), (42, I f.fOuts.length), (43, I x.1)]) (fun x => upd (upd (oheap x.2.2.1 (.row 5 (OV.cells x.2.1)) x.2.2.2) n4 (.row 1 [[.v .nilsl]])) n14 (.row 3 [[.v (.str f.fName), .v (I f.fParams), .v (onil 5 x.1 x.2.2.2)]])) (fun x => x.1 ≤ f.fOuts.length ∧ OR DExpr.o (f.fOuts.take x.1) x.2.1 ∧ New G (OV.rowsRows x.2.1) x.2.2.1 ∧ (x.2.2.1 n4 = none ∧ x.2.2.1 n14 = none) ∧ gside x.2.2.1 x.2.1 x.2.2.2 ∧ (∀ m, x.2.2.2 = some m → ¬ m = n4 ∧ ¬ m = n14)) (fun x => f.fOuts.length - x.1) (0, [], G, none) ⟨by simp [SatL, tget], Heap.le_refl _, Nat.zero_le _, trivial, New.nil G, ⟨hG4, hG14⟩, rfl, by simp⟩ ?_
  rintro ⟨i, eo, g1, oo⟩ ⟨hi, hor1, hnew, ⟨z4, z14⟩, hs1, hon⟩
  simp only at hi hor1 hnew z4 z14 hs1 hon ⊢
  have heo : eo.length = i := by have := hor1.length; rw [List.length_take] at this; omega
  rcases Nat.lt_or_ge i f.fOuts.length with hlt | hge
  · have ha := hone i hlt
    simp (maxSteps := 1000000) -dsimp -implicitDefEqProofs only [go_sem, ↓reduceIte, keep19, ib19, mk19, Tryz.f19, e_n14_n4, e_n4_n14, upd_get, upd_ne, upd_upd, hbm i hlt, onil_flat, onil_cells, hln]
    have hGg : ∀ q X, G q = some X → g1 q = some X := fun q X h => hnew.keep h
    have hgm : ∀ m, o = some m → g1 m = some (.row 3 (OV.cells es)) := fun m e => hGg m _ (he4 m e)
    have hgo : Owns g1 (OV.rowsRows es) := fun q hq => hGg _ _ (howG q hq)
    refine ⟨fun _ => ⟨hlt, ?_⟩, fun q => absurd hlt q⟩
    cases oo with
    | none =>
      rw [gside_none] at hs1
      subst hs1
      obtain rfl : i = 0 := heo.symm
      simp only [oheap_none, onil_none]
      refine HFnF.ln ha (ViewL.cons (view_prog hor hesl hoN ((hgo.up z4).up (by rw [upd_ne _ _ _ _ d_n14_n4]; exact z14)) (fun m e => by have h1 := hgm m e; rw [upd_ne _ _ _ _ (fun q => by rw [q, z14] at h1; cases h1), upd_ne _ _ _ _ (fun q => by rw [q, z4] at h1; cases h1)]; exact h1)) (ViewL.cons (View.same _ _) (ViewL.cons (View.same _ _) (ViewL.cons (View.same _ _) ViewL.nil)))) (QA.solid (fun e he => DExpr.o_sol _ e he) (fun x hx => by simp [HVal.solid, HVal.solidL, hx])) ?_
      rintro r l g9 ⟨e, oe, rfl, rfl⟩ w9
      obtain ⟨g8, rfl, w8, z84, z814'⟩ := New.under2 z4 (by rw [upd_ne _ _ _ _ d_n14_n4]; exact z14) w9
      have z814 := (upd_none.1 z814').2
      have oe1 := oe
      rw [DExpr.o_iff] at oe1
      obtain ⟨y4, rfl, os4⟩ := oe1
      simp (maxSteps := 1000000) -dsimp -implicitDefEqProofs only [go_sem, ↓reduceIte, keep19, ib19, mk19, Tryz.f19, e_n14_n4, e_n4_n14, upd_get, upd_ne, upd_upd, OV.map_val, OV.map_val_nil, OV.val_v, os4.flat, os4.one]
      intro n17 q17
      have a17 : ¬ n17 = n14 := by grind
      have b17 : ¬ n17 = n4 := by grind
      have c17 : g8 n17 = none := by grind
      have d_n17_n14 : ¬ n17 = n14 := a17
      have d_n14_n17 : ¬ n14 = n17 := Ne.symm d_n17_n14
      have e_n17_n14 : (n17 = n14) = False := eq_false d_n17_n14
      have e_n14_n17 : (n14 = n17) = False := eq_false d_n14_n17
      have d_n17_n4 : ¬ n17 = n4 := b17
      have d_n4_n17 : ¬ n4 = n17 := Ne.symm d_n17_n4
      have e_n17_n4 : (n17 = n4) = False := eq_false d_n17_n4
      have e_n4_n17 : (n4 = n17) = False := eq_false d_n4_n17
      simp (maxSteps := 1000000) -dsimp -implicitDefEqProofs only [go_sem, ↓reduceIte, keep19, ib19, mk19, Tryz.f19, e_n14_n4, e_n14_n17, e_n4_n14, e_n4_n17, e_n17_n14, e_n17_n4, upd_get, upd_ne, upd_upd, OV.map_val, OV.map_val_nil, OV.val_v, os4.flat, os4.one]
      refine ⟨by decide, by decide, by decide, fun m qm => ?_⟩
      have am : ¬ m = n14 := by grind
      have bm : ¬ m = n4 := by grind
      have cm : ¬ m = n17 := by grind
      have dm : g8 m = none := by grind
      have d_m_n14 : ¬ m = n14 := am
      have d_n14_m : ¬ n14 = m := Ne.symm d_m_n14
      have e_m_n14 : (m = n14) = False := eq_false d_m_n14
      have e_n14_m : (n14 = m) = False := eq_false d_n14_m
      have d_m_n4 : ¬ m = n4 := bm
      have d_n4_m : ¬ n4 = m := Ne.symm d_m_n4
      have e_m_n4 : (m = n4) = False := eq_false d_m_n4
      have e_n4_m : (n4 = m) = False := eq_false d_n4_m
      have d_m_n17 : ¬ m = n17 := cm
      have d_n17_m : ¬ n17 = m := Ne.symm d_m_n17
      have e_m_n17 : (m = n17) = False := eq_false d_m_n17
      have e_n17_m : (n17 = m) = False := eq_false d_n17_m
      simp (maxSteps := 1000000) -dsimp -implicitDefEqProofs only [go_sem, ↓reduceIte, keep19, ib19, mk19, Tryz.f19, e_n14_n4, e_n14_n17, e_n14_m, e_n4_n14, e_n4_n17, e_n4_m, e_n17_n14, e_n17_n4, e_n17_m, e_m_n14, e_m_n4, e_m_n17, upd_get, upd_ne, upd_upd]
      refine ⟨(0 + 1, [[.v (.int .i64 f.fOuts[0].fKind), .v (.int .i64 f.fOuts[0].fNum), .v (.int .i64 f.fOuts[0].fPick), .v (.int .i64 f.fOuts[0].fCount), y4]], g8, some m), IntWalk.i64_in _ (by omega), ?_, ⟨by omega, ?_, ?_, ⟨z84, z814⟩, dm, fun a e => by cases e; exact ⟨bm, am⟩⟩, by simp only; omega⟩
      · intro q_
        simp only [upd_get, oheap_some, onil_some, OV.cells, List.map_cons, List.map_nil, OV.val_v]
        grind
      · exact OR.snoc (k := 0) hor1 hlt oe
      · exact New.snoc hnew w8
    | some m0 =>
      rw [gside_some] at hs1
      have hm0 := hon m0 rfl
      have d_m0_n4 : ¬ m0 = n4 := hm0.1
      have d_n4_m0 : ¬ n4 = m0 := Ne.symm d_m0_n4
      have e_m0_n4 : (m0 = n4) = False := eq_false d_m0_n4
      have e_n4_m0 : (n4 = m0) = False := eq_false d_n4_m0
      have d_m0_n14 : ¬ m0 = n14 := hm0.2
      have d_n14_m0 : ¬ n14 = m0 := Ne.symm d_m0_n14
      have e_m0_n14 : (m0 = n14) = False := eq_false d_m0_n14
      have e_n14_m0 : (n14 = m0) = False := eq_false d_n14_m0
      simp only [oheap_some, onil_some]
      refine HFnF.ln ha (ViewL.cons (view_prog hor hesl hoN (((hgo.up hs1).up (by rw [upd_ne _ _ _ _ d_n4_m0]; exact z4)).up (by rw [upd_ne _ _ _ _ d_n14_n4, upd_ne _ _ _ _ d_n14_m0]; exact z14)) (fun m e => by have h1 := hgm m e; rw [upd_ne _ _ _ _ (fun q => by rw [q, z14] at h1; cases h1), upd_ne _ _ _ _ (fun q => by rw [q, z4] at h1; cases h1), upd_ne _ _ _ _ (fun q => by rw [q, hs1] at h1; cases h1)]; exact h1)) (ViewL.cons (View.same _ _) (ViewL.cons (View.same _ _) (ViewL.cons (View.same _ _) ViewL.nil)))) (QA.solid (fun e he => DExpr.o_sol _ e he) (fun x hx => by simp [HVal.solid, HVal.solidL, hx])) ?_
      rintro r l g9 ⟨e, oe, rfl, rfl⟩ w9
      obtain ⟨g8, rfl, w8, z80, z84', z814'⟩ := New.under3 hs1 (by rw [upd_ne _ _ _ _ d_n4_m0]; exact z4) (by rw [upd_ne _ _ _ _ d_n14_n4, upd_ne _ _ _ _ d_n14_m0]; exact z14) w9
      have z84 := (upd_none.1 z84').2
      have z814 := (upd_none.1 (upd_none.1 z814').2).2
      have oe1 := oe
      rw [DExpr.o_iff] at oe1
      obtain ⟨y4, rfl, os4⟩ := oe1
      simp (maxSteps := 1000000) -dsimp -implicitDefEqProofs only [go_sem, ↓reduceIte, keep19, ib19, mk19, Tryz.f19, e_n14_n4, e_n14_m0, e_n4_n14, e_n4_m0, e_m0_n14, e_m0_n4, upd_get, upd_ne, upd_upd, OV.map_val, OV.map_val_nil, OV.val_v, os4.flat, os4.one]
      intro n17 q17
      have a17 : ¬ n17 = n14 := by grind
      have b17 : ¬ n17 = n4 := by grind
      have d17 : ¬ n17 = m0 := by grind
      have c17 : g8 n17 = none := by grind
      have d_n17_n14 : ¬ n17 = n14 := a17
      have d_n14_n17 : ¬ n14 = n17 := Ne.symm d_n17_n14
      have e_n17_n14 : (n17 = n14) = False := eq_false d_n17_n14
      have e_n14_n17 : (n14 = n17) = False := eq_false d_n14_n17
      have d_n17_n4 : ¬ n17 = n4 := b17
      have d_n4_n17 : ¬ n4 = n17 := Ne.symm d_n17_n4
      have e_n17_n4 : (n17 = n4) = False := eq_false d_n17_n4
      have e_n4_n17 : (n4 = n17) = False := eq_false d_n4_n17
      have d_n17_m0 : ¬ n17 = m0 := d17
      have d_m0_n17 : ¬ m0 = n17 := Ne.symm d_n17_m0
      have e_n17_m0 : (n17 = m0) = False := eq_false d_n17_m0
      have e_m0_n17 : (m0 = n17) = False := eq_false d_m0_n17
      have i12 : ((i : Int) = 12) = False := eq_false (by omega)
      simp (maxSteps := 1000000) -dsimp -implicitDefEqProofs only [go_sem, ↓reduceIte, keep19, ib19, mk19, Tryz.f19, e_n14_n4, e_n14_n17, e_n14_m0, e_n4_n14, e_n4_n17, e_n4_m0, e_n17_n14, e_n17_n4, e_n17_m0, e_m0_n14, e_m0_n4, e_m0_n17, upd_get, upd_ne, upd_upd, OV.map_val, OV.map_val_nil, OV.val_v, os4.flat, os4.one, i12, cells_len]
      refine fun _ => ⟨by decide, by decide, by decide, by omega, by omega, by omega, fun m qm => ?_⟩
      have am : ¬ m = n14 := by grind
      have bm : ¬ m = n4 := by grind
      have cm : ¬ m = n17 := by grind
      have em : ¬ m = m0 := by grind
      have dm : g8 m = none := by grind
      have d_m_n14 : ¬ m = n14 := am
      have d_n14_m : ¬ n14 = m := Ne.symm d_m_n14
      have e_m_n14 : (m = n14) = False := eq_false d_m_n14
      have e_n14_m : (n14 = m) = False := eq_false d_n14_m
      have d_m_n4 : ¬ m = n4 := bm
      have d_n4_m : ¬ n4 = m := Ne.symm d_m_n4
      have e_m_n4 : (m = n4) = False := eq_false d_m_n4
      have e_n4_m : (n4 = m) = False := eq_false d_n4_m
      have d_m_n17 : ¬ m = n17 := cm
      have d_n17_m : ¬ n17 = m := Ne.symm d_m_n17
      have e_m_n17 : (m = n17) = False := eq_false d_m_n17
      have e_n17_m : (n17 = m) = False := eq_false d_n17_m
      have d_m_m0 : ¬ m = m0 := em
      have d_m0_m : ¬ m0 = m := Ne.symm d_m_m0
      have e_m_m0 : (m = m0) = False := eq_false d_m_m0
      have e_m0_m : (m0 = m) = False := eq_false d_m0_m
      simp (maxSteps := 1000000) -dsimp -implicitDefEqProofs only [go_sem, ↓reduceIte, keep19, ib19, mk19, Tryz.f19, e_n14_n4, e_n14_n17, e_n14_m, e_n14_m0, e_n4_n14, e_n4_n17, e_n4_m, e_n4_m0, e_n17_n14, e_n17_n4, e_n17_m, e_n17_m0, e_m_n14, e_m_n4, e_m_n17, e_m_m0, e_m0_n14, e_m0_n4, e_m0_n17, e_m0_m, upd_get, upd_ne, upd_upd]
      refine ⟨(i + 1, eo ++ [[.v (.int .i64 f.fOuts[i].fKind), .v (.int .i64 f.fOuts[i].fNum), .v (.int .i64 f.fOuts[i].fPick), .v (.int .i64 f.fOuts[i].fCount), y4]], g8, some m), IntWalk.i64_in _ (by omega), ?_, ⟨by omega, ?_, ?_, ⟨z84, z814⟩, dm, fun a e => by cases e; exact ⟨bm, am⟩⟩, by simp only; omega⟩
      · have ht : List.take i (OV.cells eo) = OV.cells eo := List.take_of_length_le (by rw [cells_len]; omega)
        intro q_
        simp only [upd_get, oheap_some, onil_some, cells_snoc, ht, List.map_cons, List.map_nil, OV.val_v]
        grind
      · exact OR.snoc hor1 hlt oe
      · exact New.snoc hnew w8
  · obtain rfl : i = f.fOuts.length := by omega
    rw [List.take_of_length_le (Nat.le_refl _)] at hor1
    cases oo with
    | none =>
      rw [gside_none] at hs1
      subst hs1
      have := hf.2.2.1.1
      simp at heo
      omega
    | some m5 =>
      have hnew2 := gov_new (sz := 5) hnew hs1
      rw [gside_some] at hs1
      have hm5 := hon m5 rfl
      have hog := gov_os hor1 (sz := 5) (g := g1) (o := some m5) hs1
      simp only [oheap_some, onil_some, gov_some] at *
      have z4' : upd g1 m5 (.row 5 (OV.cells eo)) n4 = none := by rw [upd_ne _ _ _ _ fun e => hm5.1 e.symm]; exact z4
      have z14' : upd g1 m5 (.row 5 (OV.cells eo)) n14 = none := by rw [upd_ne _ _ _ _ fun e => hm5.2 e.symm]; exact z14
      generalize upd g1 m5 (.row 5 (OV.cells eo)) = g2 at *
      have hGg : ∀ q X, G q = some X → g2 q = some X := fun q X h => hnew2.keep h
      have hgm : ∀ m, o = some m → g2 m = some (.row 3 (OV.cells es)) := fun m e => hGg m _ (he4 m e)
      have hgo : Owns g2 (OV.rowsRows es) := fun q hq => hGg _ _ (howG q hq)
      have hfo : f.o [.v (.str f.fName), .v (I f.fParams), .sl m5 5 eo] := ⟨_, rfl, hog⟩
      have hor2 : OR DFunc.o (p.fFuncs.take (k + 1)) (es ++ [[.v (.str f.fName), .v (I f.fParams), .sl m5 5 eo]]) := OR.snoc hor hk (by rw [hfk]; exact hfo)
      have hl2 : (es ++ [([.v (.str f.fName), .v (I f.fParams), .sl m5 5 eo] : List OV)]).length = k + 1 := by rw [List.length_append, hesl]; rfl
      have hnew3 : New G (OV.rowsRow [.v (.str f.fName), .v (I f.fParams), .sl m5 5 eo]) g2 := by simpa only [OV.row_cons, OV.row_nil, OV.v_rows, List.nil_append, List.append_nil] using hnew2
      have hown2 : Owns g2 (OV.rowsRows (es ++ [[.v (.str f.fName), .v (I f.fParams), .sl m5 5 eo]])) := fun q hq => by
        rw [rowsRows_snoc] at hq
        rcases List.mem_append.1 hq with hq | hq
        · exact hgo q hq
        · exact hnew3.owns q hq
      have hVV := ValidProgram (p.upto (k + 1)) (by have := upto_s p (k + 1); omega)
      rw [decide_eq_true (ok_upto hp (k + 1))] at hVV
      simp (maxSteps := 1000000) -dsimp -implicitDefEqProofs only [go_sem, ↓reduceIte, keep19, ib19, mk19, Tryz.f19, e_n14_n4, e_n4_n14, upd_get, upd_ne, upd_upd, onil_flat, onil_cells, Nat.lt_irrefl]
      refine ⟨by decide, by decide, ?_, fun n19 q19 => ⟨by rw [if_neg (by grind)], ?_⟩⟩
      · refine HFnF.mkH (cloneFuncs hesl (by omega) ho hoN (fun m e => by have h1 := hgm m e; rw [upd_ne _ _ _ _ (fun q => by rw [q, z14'] at h1; cases h1), upd_ne _ _ _ _ (fun q => by rw [q, z4'] at h1; cases h1)]; exact h1)) ?_
        rintro r_ h' ⟨o', rfl, hoN', ho', rfl⟩
        cases o' with
        | none =>
          have := hoN' rfl
          subst this
          obtain rfl : k = 0 := hesl.symm
          simp only [oheap_none, onil_none]
          simp (maxSteps := 1000000) -dsimp -implicitDefEqProofs only [go_sem, ↓reduceIte, keep19, ib19, mk19, Tryz.f19, e_n14_n4, e_n4_n14, upd_get, upd_ne, upd_upd, protF]
          refine ⟨⟨by decide, fun m qm n19 q19 => ⟨by rw [if_neg (by grind), if_neg (by grind)], ?_⟩⟩, fun n19 q19 => ⟨by rw [if_neg (by grind)], by decide, fun m qm => ?_⟩⟩
          · have am : ¬ m = n14 := by grind
            have bm : ¬ m = n4 := by grind
            have zm : g2 m = none := by grind
            have an : ¬ n19 = n14 := by grind
            have bn : ¬ n19 = n4 := by grind
            have cn : ¬ n19 = m := by grind
            have zn : g2 n19 = none := by grind
            have d_m_n14 : ¬ m = n14 := am
            have d_n14_m : ¬ n14 = m := Ne.symm d_m_n14
            have e_m_n14 : (m = n14) = False := eq_false d_m_n14
            have e_n14_m : (n14 = m) = False := eq_false d_n14_m
            have d_m_n4 : ¬ m = n4 := bm
            have d_n4_m : ¬ n4 = m := Ne.symm d_m_n4
            have e_m_n4 : (m = n4) = False := eq_false d_m_n4
            have e_n4_m : (n4 = m) = False := eq_false d_n4_m
            have d_n19_n14 : ¬ n19 = n14 := an
            have d_n14_n19 : ¬ n14 = n19 := Ne.symm d_n19_n14
            have e_n19_n14 : (n19 = n14) = False := eq_false d_n19_n14
            have e_n14_n19 : (n14 = n19) = False := eq_false d_n14_n19
            have d_n19_n4 : ¬ n19 = n4 := bn
            have d_n4_n19 : ¬ n4 = n19 := Ne.symm d_n19_n4
            have e_n19_n4 : (n19 = n4) = False := eq_false d_n19_n4
            have e_n4_n19 : (n4 = n19) = False := eq_false d_n4_n19
            have d_n19_m : ¬ n19 = m := cn
            have d_m_n19 : ¬ m = n19 := Ne.symm d_n19_m
            have e_n19_m : (n19 = m) = False := eq_false d_n19_m
            have e_m_n19 : (m = n19) = False := eq_false d_m_n19
            try simp (maxSteps := 1000000) -dsimp -implicitDefEqProofs only [go_sem, ↓reduceIte, keep19, ib19, mk19, Tryz.f19, e_n14_n4, e_n14_m, e_n14_n19, e_n4_n14, e_n4_m, e_n4_n19, e_m_n14, e_m_n4, e_m_n19, e_n19_n14, e_n19_n4, e_n19_m, upd_get, upd_ne, upd_upd]
            refine HFnF.lend0 hVV (ViewL.cons (view_prog (o := some m) hor2 hl2 (fun e => by cases e) (owns_le hown2 (by intro q_; simp only [upd_get]; grind)) (fun m e => by cases e; simp only [upd_get, cells_one, cells_snoc, List.nil_append, List.map_cons, List.map_nil, OV.val_v, OV.val_sl, heo]; grind)) ViewL.nil) rfl ?_
            simp (maxSteps := 1000000) -dsimp -implicitDefEqProofs only [go_sem, ↓reduceIte, keep19, ib19, mk19, Tryz.f19, e_n14_n4, e_n14_m, e_n14_n19, e_n4_n14, e_n4_m, e_n4_n19, e_m_n14, e_m_n4, e_m_n19, e_n19_n14, e_n19_n4, e_n19_m, upd_get, upd_ne, upd_upd]
            refine ⟨upd g2 m (.row 3 (OV.cells ([[.v (.str f.fName), .v (I f.fParams), .sl m5 5 eo]]))), ?_, _, m, g2, hfo, rfl, hnew3, zm, rfl⟩
            intro q_
            simp only [upd_get, cells_one, cells_snoc, List.nil_append, List.map_cons, List.map_nil, OV.val_v, OV.val_sl, heo]
            grind
          · have am : ¬ m = n14 := by grind
            have bm : ¬ m = n4 := by grind
            have zm : g2 m = none := by grind
            have an : ¬ n19 = n14 := by grind
            have bn : ¬ n19 = n4 := by grind
            have cn : ¬ n19 = m := by grind
            have zn : g2 n19 = none := by grind
            have d_m_n14 : ¬ m = n14 := am
            have d_n14_m : ¬ n14 = m := Ne.symm d_m_n14
            have e_m_n14 : (m = n14) = False := eq_false d_m_n14
            have e_n14_m : (n14 = m) = False := eq_false d_n14_m
            have d_m_n4 : ¬ m = n4 := bm
            have d_n4_m : ¬ n4 = m := Ne.symm d_m_n4
            have e_m_n4 : (m = n4) = False := eq_false d_m_n4
            have e_n4_m : (n4 = m) = False := eq_false d_n4_m
            have d_n19_n14 : ¬ n19 = n14 := an
            have d_n14_n19 : ¬ n14 = n19 := Ne.symm d_n19_n14
            have e_n19_n14 : (n19 = n14) = False := eq_false d_n19_n14
            have e_n14_n19 : (n14 = n19) = False := eq_false d_n14_n19
            have d_n19_n4 : ¬ n19 = n4 := bn
            have d_n4_n19 : ¬ n4 = n19 := Ne.symm d_n19_n4
            have e_n19_n4 : (n19 = n4) = False := eq_false d_n19_n4
            have e_n4_n19 : (n4 = n19) = False := eq_false d_n4_n19
            have d_n19_m : ¬ n19 = m := cn
            have d_m_n19 : ¬ m = n19 := Ne.symm d_n19_m
            have e_n19_m : (n19 = m) = False := eq_false d_n19_m
            have e_m_n19 : (m = n19) = False := eq_false d_m_n19
            try simp (maxSteps := 1000000) -dsimp -implicitDefEqProofs only [go_sem, ↓reduceIte, keep19, ib19, mk19, Tryz.f19, e_n14_n4, e_n14_m, e_n14_n19, e_n4_n14, e_n4_m, e_n4_n19, e_m_n14, e_m_n4, e_m_n19, e_n19_n14, e_n19_n4, e_n19_m, upd_get, upd_ne, upd_upd]
            refine HFnF.lend0 hVV (ViewL.cons (view_prog (o := some m) hor2 hl2 (fun e => by cases e) (owns_le hown2 (by intro q_; simp only [upd_get]; grind)) (fun m e => by cases e; simp only [upd_get, cells_one, cells_snoc, List.nil_append, List.map_cons, List.map_nil, OV.val_v, OV.val_sl, heo]; grind)) ViewL.nil) rfl ?_
            simp (maxSteps := 1000000) -dsimp -implicitDefEqProofs only [go_sem, ↓reduceIte, keep19, ib19, mk19, Tryz.f19, e_n14_n4, e_n14_m, e_n14_n19, e_n4_n14, e_n4_m, e_n4_n19, e_m_n14, e_m_n4, e_m_n19, e_n19_n14, e_n19_n4, e_n19_m, upd_get, upd_ne, upd_upd]
            refine ⟨upd g2 m (.row 3 (OV.cells ([[.v (.str f.fName), .v (I f.fParams), .sl m5 5 eo]]))), ?_, _, m, g2, hfo, rfl, hnew3, zm, rfl⟩
            intro q_
            simp only [upd_get, cells_one, cells_snoc, List.nil_append, List.map_cons, List.map_nil, OV.val_v, OV.val_sl, heo]
            grind
        | some m1 =>
          have hm1 := ho' m1 rfl
          simp only [upd_get] at hm1
          simp only [oheap_some, onil_some]
          have htk : List.take k (OV.cells es) = OV.cells es := List.take_of_length_le (by rw [cells_len]; omega)
          have a1 : ¬ m1 = n14 := by grind
          have b1 : ¬ m1 = n4 := by grind
          have d_m1_n14 : ¬ m1 = n14 := a1
          have d_n14_m1 : ¬ n14 = m1 := Ne.symm d_m1_n14
          have e_m1_n14 : (m1 = n14) = False := eq_false d_m1_n14
          have e_n14_m1 : (n14 = m1) = False := eq_false d_n14_m1
          have d_m1_n4 : ¬ m1 = n4 := b1
          have d_n4_m1 : ¬ n4 = m1 := Ne.symm d_m1_n4
          have e_m1_n4 : (m1 = n4) = False := eq_false d_m1_n4
          have e_n4_m1 : (n4 = m1) = False := eq_false d_n4_m1
          simp (maxSteps := 1000000) -dsimp -implicitDefEqProofs only [go_sem, ↓reduceIte, keep19, ib19, mk19, Tryz.f19, e_n14_n4, e_n14_m1, e_n4_n14, e_n4_m1, e_m1_n14, e_m1_n4, upd_get, upd_ne, upd_upd, protF, htk]
          refine ⟨⟨by decide, by rw [cells_len]; omega, by omega, by omega, fun m qm n19 q19 => ⟨by rw [if_neg (by grind), if_neg (by grind)], ?_⟩⟩, fun n19 q19 => ⟨by rw [if_neg (by grind)], by decide, ?_⟩⟩
          · have am : ¬ m = n14 := by grind
            have bm : ¬ m = n4 := by grind
            have zm : g2 m = none := by grind
            have an : ¬ n19 = n14 := by grind
            have bn : ¬ n19 = n4 := by grind
            have cn : ¬ n19 = m := by grind
            have zn : g2 n19 = none := by grind
            have d_m_n14 : ¬ m = n14 := am
            have d_n14_m : ¬ n14 = m := Ne.symm d_m_n14
            have e_m_n14 : (m = n14) = False := eq_false d_m_n14
            have e_n14_m : (n14 = m) = False := eq_false d_n14_m
            have d_m_n4 : ¬ m = n4 := bm
            have d_n4_m : ¬ n4 = m := Ne.symm d_m_n4
            have e_m_n4 : (m = n4) = False := eq_false d_m_n4
            have e_n4_m : (n4 = m) = False := eq_false d_n4_m
            have d_n19_n14 : ¬ n19 = n14 := an
            have d_n14_n19 : ¬ n14 = n19 := Ne.symm d_n19_n14
            have e_n19_n14 : (n19 = n14) = False := eq_false d_n19_n14
            have e_n14_n19 : (n14 = n19) = False := eq_false d_n14_n19
            have d_n19_n4 : ¬ n19 = n4 := bn
            have d_n4_n19 : ¬ n4 = n19 := Ne.symm d_n19_n4
            have e_n19_n4 : (n19 = n4) = False := eq_false d_n19_n4
            have e_n4_n19 : (n4 = n19) = False := eq_false d_n4_n19
            have d_n19_m : ¬ n19 = m := cn
            have d_m_n19 : ¬ m = n19 := Ne.symm d_n19_m
            have e_n19_m : (n19 = m) = False := eq_false d_n19_m
            have e_m_n19 : (m = n19) = False := eq_false d_m_n19
            try simp (maxSteps := 1000000) -dsimp -implicitDefEqProofs only [go_sem, ↓reduceIte, keep19, ib19, mk19, Tryz.f19, e_n14_n4, e_n14_m, e_n14_n19, e_n4_n14, e_n4_m, e_n4_n19, e_m_n14, e_m_n4, e_m_n19, e_n19_n14, e_n19_n4, e_n19_m, e_m1_n14, e_m1_n4, e_n14_m1, e_n14_n4, e_n4_m1, e_n4_n14, upd_get, upd_ne, upd_upd]
            refine HFnF.lend0 hVV (ViewL.cons (view_prog (o := some m) hor2 hl2 (fun e => by cases e) (owns_le hown2 (by intro q_; simp only [upd_get]; grind)) (fun m e => by cases e; simp only [upd_get, cells_one, cells_snoc, List.nil_append, List.map_cons, List.map_nil, OV.val_v, OV.val_sl, heo]; grind)) ViewL.nil) rfl ?_
            simp (maxSteps := 1000000) -dsimp -implicitDefEqProofs only [go_sem, ↓reduceIte, keep19, ib19, mk19, Tryz.f19, e_n14_n4, e_n14_m, e_n14_n19, e_n4_n14, e_n4_m, e_n4_n19, e_m_n14, e_m_n4, e_m_n19, e_n19_n14, e_n19_n4, e_n19_m, e_m1_n14, e_m1_n4, e_n14_m1, e_n14_n4, e_n4_m1, e_n4_n14, upd_get, upd_ne, upd_upd]
            refine ⟨upd g2 m (.row 3 (OV.cells (es ++ [[.v (.str f.fName), .v (I f.fParams), .sl m5 5 eo]]))), ?_, _, m, g2, hfo, rfl, hnew3, zm, rfl⟩
            intro q_
            simp only [upd_get, cells_one, cells_snoc, List.nil_append, List.map_cons, List.map_nil, OV.val_v, OV.val_sl, heo]
            grind
          · have an : ¬ n19 = n14 := by grind
            have bn : ¬ n19 = n4 := by grind
            have d_n19_n14 : ¬ n19 = n14 := an
            have d_n14_n19 : ¬ n14 = n19 := Ne.symm d_n19_n14
            have e_n19_n14 : (n19 = n14) = False := eq_false d_n19_n14
            have e_n14_n19 : (n14 = n19) = False := eq_false d_n14_n19
            have d_n19_n4 : ¬ n19 = n4 := bn
            have d_n4_n19 : ¬ n4 = n19 := Ne.symm d_n19_n4
            have e_n19_n4 : (n19 = n4) = False := eq_false d_n19_n4
            have e_n4_n19 : (n4 = n19) = False := eq_false d_n4_n19
            have c1 : ¬ m1 = n19 := by grind
            have d_m1_n19 : ¬ m1 = n19 := c1
            have d_n19_m1 : ¬ n19 = m1 := Ne.symm d_m1_n19
            have e_m1_n19 : (m1 = n19) = False := eq_false d_m1_n19
            have e_n19_m1 : (n19 = m1) = False := eq_false d_n19_m1
            simp (maxSteps := 1000000) -dsimp -implicitDefEqProofs only [go_sem, ↓reduceIte, keep19, ib19, mk19, Tryz.f19, e_n14_n4, e_n14_m1, e_n14_n19, e_n4_n14, e_n4_m1, e_n4_n19, e_m1_n14, e_m1_n4, e_m1_n19, e_n19_n14, e_n19_n4, e_n19_m1, upd_get, upd_ne, upd_upd, htk]
            refine ⟨by rw [cells_len]; omega, by omega, by omega, fun m qm => ?_⟩
            have am : ¬ m = n14 := by grind
            have bm : ¬ m = n4 := by grind
            have zm : g2 m = none := by grind
            have an : ¬ n19 = n14 := by grind
            have bn : ¬ n19 = n4 := by grind
            have cn : ¬ n19 = m := by grind
            have zn : g2 n19 = none := by grind
            have d_m_n14 : ¬ m = n14 := am
            have d_n14_m : ¬ n14 = m := Ne.symm d_m_n14
            have e_m_n14 : (m = n14) = False := eq_false d_m_n14
            have e_n14_m : (n14 = m) = False := eq_false d_n14_m
            have d_m_n4 : ¬ m = n4 := bm
            have d_n4_m : ¬ n4 = m := Ne.symm d_m_n4
            have e_m_n4 : (m = n4) = False := eq_false d_m_n4
            have e_n4_m : (n4 = m) = False := eq_false d_n4_m
            have d_n19_n14 : ¬ n19 = n14 := an
            have d_n14_n19 : ¬ n14 = n19 := Ne.symm d_n19_n14
            have e_n19_n14 : (n19 = n14) = False := eq_false d_n19_n14
            have e_n14_n19 : (n14 = n19) = False := eq_false d_n14_n19
            have d_n19_n4 : ¬ n19 = n4 := bn
            have d_n4_n19 : ¬ n4 = n19 := Ne.symm d_n19_n4
            have e_n19_n4 : (n19 = n4) = False := eq_false d_n19_n4
            have e_n4_n19 : (n4 = n19) = False := eq_false d_n4_n19
            have d_n19_m : ¬ n19 = m := cn
            have d_m_n19 : ¬ m = n19 := Ne.symm d_n19_m
            have e_n19_m : (n19 = m) = False := eq_false d_n19_m
            have e_m_n19 : (m = n19) = False := eq_false d_m_n19
            try simp (maxSteps := 1000000) -dsimp -implicitDefEqProofs only [go_sem, ↓reduceIte, keep19, ib19, mk19, Tryz.f19, e_n14_n4, e_n14_m, e_n14_n19, e_n4_n14, e_n4_m, e_n4_n19, e_m_n14, e_m_n4, e_m_n19, e_n19_n14, e_n19_n4, e_n19_m, e_m1_n14, e_m1_n4, e_n14_m1, e_n14_n4, e_n4_m1, e_n4_n14, upd_get, upd_ne, upd_upd]
            refine HFnF.lend0 hVV (ViewL.cons (view_prog (o := some m) hor2 hl2 (fun e => by cases e) (owns_le hown2 (by intro q_; simp only [upd_get]; grind)) (fun m e => by cases e; simp only [upd_get, cells_one, cells_snoc, List.nil_append, List.map_cons, List.map_nil, OV.val_v, OV.val_sl, heo]; grind)) ViewL.nil) rfl ?_
            simp (maxSteps := 1000000) -dsimp -implicitDefEqProofs only [go_sem, ↓reduceIte, keep19, ib19, mk19, Tryz.f19, e_n14_n4, e_n14_m, e_n14_n19, e_n4_n14, e_n4_m, e_n4_n19, e_m_n14, e_m_n4, e_m_n19, e_n19_n14, e_n19_n4, e_n19_m, e_m1_n14, e_m1_n4, e_n14_m1, e_n14_n4, e_n4_m1, e_n4_n14, upd_get, upd_ne, upd_upd]
            refine ⟨upd g2 m (.row 3 (OV.cells (es ++ [[.v (.str f.fName), .v (I f.fParams), .sl m5 5 eo]]))), ?_, _, m, g2, hfo, rfl, hnew3, zm, rfl⟩
            intro q_
            simp only [upd_get, cells_one, cells_snoc, List.nil_append, List.map_cons, List.map_nil, OV.val_v, OV.val_sl, heo]
            grind
      · have an : ¬ n19 = n14 := by grind
        have bn : ¬ n19 = n4 := by grind
        have zn : g2 n19 = none := by grind
        refine HFnF.mkH (cloneFuncs hesl (by omega) ho hoN (fun m e => by have h1 := hgm m e; rw [upd_ne _ _ _ _ (fun q => by rw [q, zn] at h1; cases h1), upd_ne _ _ _ _ (fun q => by rw [q, z14'] at h1; cases h1), upd_ne _ _ _ _ (fun q => by rw [q, z4'] at h1; cases h1)]; exact h1)) ?_
        rintro r_ h' ⟨o', rfl, hoN', ho', rfl⟩
        have d_n19_n14 : ¬ n19 = n14 := an
        have d_n14_n19 : ¬ n14 = n19 := Ne.symm d_n19_n14
        have e_n19_n14 : (n19 = n14) = False := eq_false d_n19_n14
        have e_n14_n19 : (n14 = n19) = False := eq_false d_n14_n19
        have d_n19_n4 : ¬ n19 = n4 := bn
        have d_n4_n19 : ¬ n4 = n19 := Ne.symm d_n19_n4
        have e_n19_n4 : (n19 = n4) = False := eq_false d_n19_n4
        have e_n4_n19 : (n4 = n19) = False := eq_false d_n4_n19
        cases o' with
        | none =>
          have := hoN' rfl
          subst this
          obtain rfl : k = 0 := hesl.symm
          simp only [oheap_none, onil_none]
          simp (maxSteps := 1000000) -dsimp -implicitDefEqProofs only [go_sem, ↓reduceIte, keep19, ib19, mk19, Tryz.f19, e_n14_n4, e_n14_n19, e_n4_n14, e_n4_n19, e_n19_n14, e_n19_n4, upd_get, upd_ne, upd_upd, protF]
          refine ⟨by decide, fun m qm => ?_⟩
          have am : ¬ m = n14 := by grind
          have bm : ¬ m = n4 := by grind
          have zm : g2 m = none := by grind
          have an : ¬ n19 = n14 := by grind
          have bn : ¬ n19 = n4 := by grind
          have cn : ¬ n19 = m := by grind
          have zn : g2 n19 = none := by grind
          have d_m_n14 : ¬ m = n14 := am
          have d_n14_m : ¬ n14 = m := Ne.symm d_m_n14
          have e_m_n14 : (m = n14) = False := eq_false d_m_n14
          have e_n14_m : (n14 = m) = False := eq_false d_n14_m
          have d_m_n4 : ¬ m = n4 := bm
          have d_n4_m : ¬ n4 = m := Ne.symm d_m_n4
          have e_m_n4 : (m = n4) = False := eq_false d_m_n4
          have e_n4_m : (n4 = m) = False := eq_false d_n4_m
          have d_n19_n14 : ¬ n19 = n14 := an
          have d_n14_n19 : ¬ n14 = n19 := Ne.symm d_n19_n14
          have e_n19_n14 : (n19 = n14) = False := eq_false d_n19_n14
          have e_n14_n19 : (n14 = n19) = False := eq_false d_n14_n19
          have d_n19_n4 : ¬ n19 = n4 := bn
          have d_n4_n19 : ¬ n4 = n19 := Ne.symm d_n19_n4
          have e_n19_n4 : (n19 = n4) = False := eq_false d_n19_n4
          have e_n4_n19 : (n4 = n19) = False := eq_false d_n4_n19
          have d_n19_m : ¬ n19 = m := cn
          have d_m_n19 : ¬ m = n19 := Ne.symm d_n19_m
          have e_n19_m : (n19 = m) = False := eq_false d_n19_m
          have e_m_n19 : (m = n19) = False := eq_false d_m_n19
          try simp (maxSteps := 1000000) -dsimp -implicitDefEqProofs only [go_sem, ↓reduceIte, keep19, ib19, mk19, Tryz.f19, e_n14_n4, e_n14_m, e_n14_n19, e_n4_n14, e_n4_m, e_n4_n19, e_m_n14, e_m_n4, e_m_n19, e_n19_n14, e_n19_n4, e_n19_m, upd_get, upd_ne, upd_upd]
          refine HFnF.lend0 hVV (ViewL.cons (view_prog (o := some m) hor2 hl2 (fun e => by cases e) (owns_le hown2 (by intro q_; simp only [upd_get]; grind)) (fun m e => by cases e; simp only [upd_get, cells_one, cells_snoc, List.nil_append, List.map_cons, List.map_nil, OV.val_v, OV.val_sl, heo]; grind)) ViewL.nil) rfl ?_
          simp (maxSteps := 1000000) -dsimp -implicitDefEqProofs only [go_sem, ↓reduceIte, keep19, ib19, mk19, Tryz.f19, e_n14_n4, e_n14_m, e_n14_n19, e_n4_n14, e_n4_m, e_n4_n19, e_m_n14, e_m_n4, e_m_n19, e_n19_n14, e_n19_n4, e_n19_m, upd_get, upd_ne, upd_upd]
          refine ⟨upd g2 m (.row 3 (OV.cells ([[.v (.str f.fName), .v (I f.fParams), .sl m5 5 eo]]))), ?_, _, m, g2, hfo, rfl, hnew3, zm, rfl⟩
          intro q_
          simp only [upd_get, cells_one, cells_snoc, List.nil_append, List.map_cons, List.map_nil, OV.val_v, OV.val_sl, heo]
          grind
        | some m1 =>
          have hm1 := ho' m1 rfl
          simp only [upd_get] at hm1
          simp only [oheap_some, onil_some]
          have htk : List.take k (OV.cells es) = OV.cells es := List.take_of_length_le (by rw [cells_len]; omega)
          have a1 : ¬ m1 = n14 := by grind
          have b1 : ¬ m1 = n4 := by grind
          have c1 : ¬ m1 = n19 := by grind
          have d_m1_n14 : ¬ m1 = n14 := a1
          have d_n14_m1 : ¬ n14 = m1 := Ne.symm d_m1_n14
          have e_m1_n14 : (m1 = n14) = False := eq_false d_m1_n14
          have e_n14_m1 : (n14 = m1) = False := eq_false d_n14_m1
          have d_m1_n4 : ¬ m1 = n4 := b1
          have d_n4_m1 : ¬ n4 = m1 := Ne.symm d_m1_n4
          have e_m1_n4 : (m1 = n4) = False := eq_false d_m1_n4
          have e_n4_m1 : (n4 = m1) = False := eq_false d_n4_m1
          have d_m1_n19 : ¬ m1 = n19 := c1
          have d_n19_m1 : ¬ n19 = m1 := Ne.symm d_m1_n19
          have e_m1_n19 : (m1 = n19) = False := eq_false d_m1_n19
          have e_n19_m1 : (n19 = m1) = False := eq_false d_n19_m1
          simp (maxSteps := 1000000) -dsimp -implicitDefEqProofs only [go_sem, ↓reduceIte, keep19, ib19, mk19, Tryz.f19, e_n14_n4, e_n14_m1, e_n14_n19, e_n4_n14, e_n4_m1, e_n4_n19, e_m1_n14, e_m1_n4, e_m1_n19, e_n19_n14, e_n19_n4, e_n19_m1, upd_get, upd_ne, upd_upd, protF, htk]
          refine ⟨by decide, by rw [cells_len]; omega, by omega, by omega, fun m qm => ?_⟩
          have am : ¬ m = n14 := by grind
          have bm : ¬ m = n4 := by grind
          have zm : g2 m = none := by grind
          have an : ¬ n19 = n14 := by grind
          have bn : ¬ n19 = n4 := by grind
          have cn : ¬ n19 = m := by grind
          have zn : g2 n19 = none := by grind
          have d_m_n14 : ¬ m = n14 := am
          have d_n14_m : ¬ n14 = m := Ne.symm d_m_n14
          have e_m_n14 : (m = n14) = False := eq_false d_m_n14
          have e_n14_m : (n14 = m) = False := eq_false d_n14_m
          have d_m_n4 : ¬ m = n4 := bm
          have d_n4_m : ¬ n4 = m := Ne.symm d_m_n4
          have e_m_n4 : (m = n4) = False := eq_false d_m_n4
          have e_n4_m : (n4 = m) = False := eq_false d_n4_m
          have d_n19_n14 : ¬ n19 = n14 := an
          have d_n14_n19 : ¬ n14 = n19 := Ne.symm d_n19_n14
          have e_n19_n14 : (n19 = n14) = False := eq_false d_n19_n14
          have e_n14_n19 : (n14 = n19) = False := eq_false d_n14_n19
          have d_n19_n4 : ¬ n19 = n4 := bn
          have d_n4_n19 : ¬ n4 = n19 := Ne.symm d_n19_n4
          have e_n19_n4 : (n19 = n4) = False := eq_false d_n19_n4
          have e_n4_n19 : (n4 = n19) = False := eq_false d_n4_n19
          have d_n19_m : ¬ n19 = m := cn
          have d_m_n19 : ¬ m = n19 := Ne.symm d_n19_m
          have e_n19_m : (n19 = m) = False := eq_false d_n19_m
          have e_m_n19 : (m = n19) = False := eq_false d_m_n19
          try simp (maxSteps := 1000000) -dsimp -implicitDefEqProofs only [go_sem, ↓reduceIte, keep19, ib19, mk19, Tryz.f19, e_n14_n4, e_n14_m, e_n14_n19, e_n4_n14, e_n4_m, e_n4_n19, e_m_n14, e_m_n4, e_m_n19, e_n19_n14, e_n19_n4, e_n19_m, e_m1_n14, e_m1_n4, e_n14_m1, e_n14_n4, e_n4_m1, e_n4_n14, upd_get, upd_ne, upd_upd]
          refine HFnF.lend0 hVV (ViewL.cons (view_prog (o := some m) hor2 hl2 (fun e => by cases e) (owns_le hown2 (by intro q_; simp only [upd_get]; grind)) (fun m e => by cases e; simp only [upd_get, cells_one, cells_snoc, List.nil_append, List.map_cons, List.map_nil, OV.val_v, OV.val_sl, heo]; grind)) ViewL.nil) rfl ?_
          simp (maxSteps := 1000000) -dsimp -implicitDefEqProofs only [go_sem, ↓reduceIte, keep19, ib19, mk19, Tryz.f19, e_n14_n4, e_n14_m, e_n14_n19, e_n4_n14, e_n4_m, e_n4_n19, e_m_n14, e_m_n4, e_m_n19, e_n19_n14, e_n19_n4, e_n19_m, e_m1_n14, e_m1_n4, e_n14_m1, e_n14_n4, e_n4_m1, e_n4_n14, upd_get, upd_ne, upd_upd]
          refine ⟨upd g2 m (.row 3 (OV.cells (es ++ [[.v (.str f.fName), .v (I f.fParams), .sl m5 5 eo]]))), ?_, _, m, g2, hfo, rfl, hnew3, zm, rfl⟩
          intro q_
          simp only [upd_get, cells_one, cells_snoc, List.nil_append, List.map_cons, List.map_nil, OV.val_v, OV.val_sl, heo]
          grind
open Go.Proofs
set_option linter.unusedVariables false
set_option linter.unusedSimpArgs false
def zP : DProgram := ⟨[]⟩
theorem zP_z : ZeroO zP.o [.nilsl] := ⟨[.nil 3], ⟨_, rfl, OS.nil⟩, rfl, Sub.agg (.cons (Sub.nil 3 true) .nil)⟩
def keep7 : List Nat := [0, 2, 3, 4, 5, 6, 7, 8, 9, 10, 11, 14, 24, 25, 26, 27, 38, 48]
def ib7 : List Nat := []
def mk7 : Marks := fun _ => ([], .nil, [])
set_option maxRecDepth 100000 in
set_option maxHeartbeats 1000000 in
theorem ReadProgramN {p : DProgram} (hp : p.ok) (hps : p.s ≤ 1048576) {n : Nat} (hn : n ≤ p.fFuncs.length) {T last : List UInt8} (hT : T.length ≤ 20000) (hL : spB 10 T = (p.fFuncs.take n).map (lineT p) ++ [last]) :
    FnN Tryz.prog 7 [.str T] (QA (if last = [] then p.upto n else zP).o (fun y => .tup [y, I (if last = [] then 0 else n + 1), I (if last = [] then 0 else 5)])) := by
  have hsp := splitC T 10 (by omega)
  have hsl := spB_len 10 T
  have hn16 : n ≤ 16 := by have := hp.1; omega
  have hll : (spB 10 T).length = n + 1 := by rw [hL, List.length_append, List.length_map, List.length_take, Nat.min_eq_left hn]; rfl
  have hline : ∀ (k : Nat) (hk : k < n), (spB 10 T)[k]? = some (lineT p (p.fFuncs[k]'(Nat.lt_of_lt_of_le hk hn))) := fun k hk => by
    rw [hL, List.getElem?_append_left (by rw [List.length_map, List.length_take]; omega), List.getElem?_map, List.getElem?_take_of_lt hk, List.getElem?_eq_getElem (by omega)]; rfl
  have hlast : (spB 10 T)[n]? = some last := by
    rw [hL, List.getElem?_append_right (by rw [List.length_map, List.length_take]; omega), List.length_map, List.length_take, Nat.min_eq_left hn, Nat.sub_self]; rfl
  have hlen : ∀ (k : Nat) (hk : k < n), (lineT p (p.fFuncs[k]'(Nat.lt_of_lt_of_le hk hn))).length ≤ 20000 := fun k hk => by
    have := hsl.2 _ (List.mem_of_getElem? (hline k hk)); omega
  generalize spB 10 T = L at *
  have c0 : ((T.length : Int) > 20000) = False := eq_false (by omega)
  refine fnNF 53 keep7 ib7 mk7 mix Tryz.func7 rfl (by kernel_rfl) (by simp) fun h => ?_
  simp (maxSteps := 1000000) -dsimp -implicitDefEqProofs only [go_sem, ↓reduceIte, keep7, ib7, mk7, Tryz.f7, c0]
  intro n2 z2
  try simp (maxSteps := 1000000) -dsimp -implicitDefEqProofs only [go_sem, ↓reduceIte, keep7, ib7, mk7, Tryz.f7]
  intro _
  have ew : IntKind.i64.wrap (((n + 1 : Nat) : Int) - 1) = n := by rw [IntWalk.i64_in _ (by omega)]; omega
  first | refine HFnF.mk (hsp) ?_ | refine CallSF.mk (hsp) ?_ | refine HFnF.mkAt (hsp) ?_ | refine CallSF.mk (FnAt.fn0 (hsp)) ?_
  simp (maxSteps := 1000000) -dsimp -implicitDefEqProofs only [go_sem, ↓reduceIte, keep7, ib7, mk7, Tryz.f7]
  simp (maxSteps := 1000000) -dsimp -implicitDefEqProofs only [go_sem, ↓reduceIte, keep7, ib7, mk7, Tryz.f7, hll, ew]
  intro n6 q6
  have d_n6_n2 : ¬ n6 = n2 := q6.1
  have d_n2_n6 : ¬ n2 = n6 := Ne.symm d_n6_n2
  have e_n6_n2 : (n6 = n2) = False := eq_false d_n6_n2
  have e_n2_n6 : (n2 = n6) = False := eq_false d_n2_n6
  have z6 : h n6 = none := q6.2
  simp (maxSteps := 1000000) -dsimp -implicitDefEqProofs only [go_sem, ↓reduceIte, keep7, ib7, mk7, Tryz.f7, e_n6_n2, e_n2_n6, upd_get, upd_ne, upd_upd]
  have htl : (L.take n).length = n := by rw [List.length_take]; omega
  have hget : ∀ (k : Nat) (hk : k < n), (L.take n)[k]? = some (lineT p (p.fFuncs[k]'(Nat.lt_of_lt_of_le hk hn))) := fun k hk => by rw [List.getElem?_take_of_lt hk]; exact hline k hk
  rw [← List.map_take]
  refine fun _ => ⟨Nat.zero_le _, by omega, fun _ => ?_⟩
  refine loopF (keep := keep7) (ib := ib7) (mk := mk7) mix (by kernel_rfl) (fun x : Nat × List (List OV) × Heap × Option Nat => [(2, .op n2 1 0 0), (5, sls 1 (fun s => [.str s]) L), (6, .op n6 1 0 0), (7, I n), (24, .sl 1 ((L.take n).map fun s => [.str s]) false), (25, I n), (26, I x.1)]) (fun x => upd (upd (oheap x.2.2.1 (.row 3 (OV.cells x.2.1)) x.2.2.2) n2 (.row 1 [[.v .nilsl]])) n6 (.row 1 [[.v (onil 3 x.1 x.2.2.2)]])) (fun x => x.1 ≤ n ∧ OR DFunc.o (p.fFuncs.take x.1) x.2.1 ∧ New h (OV.rowsRows x.2.1) x.2.2.1 ∧ (x.2.2.1 n2 = none ∧ x.2.2.1 n6 = none) ∧ gside x.2.2.1 x.2.1 x.2.2.2 ∧ (∀ m, x.2.2.2 = some m → ¬ m = n2 ∧ ¬ m = n6) ∧ (∀ m, x.2.2.2 = some m → 0 < x.1)) (fun x => n - x.1) (0, [], h, none) ⟨by simp [SatL, tget]; omega, Heap.le_refl _, Nat.zero_le _, trivial, New.nil h, ⟨z2, z6⟩, rfl, by simp, by simp⟩ ?_
  rintro ⟨k, es, g, o⟩ ⟨hk, hor, hnew, ⟨z2g, z6g⟩, hs, hon, ho⟩
  simp only at hk hor hnew z2g z6g hs hon ho ⊢
  have hesl : es.length = k := by have := hor.length; rw [List.length_take] at this; omega
  have hoN : o = none → es = [] := fun e => by subst e; exact hs
  rcases Nat.lt_or_ge k n with hlt | hge
  · have hkl : k < p.fFuncs.length := by omega
    simp (maxSteps := 1000000) -dsimp -implicitDefEqProofs only [go_sem, ↓reduceIte, keep7, ib7, mk7, Tryz.f7, e_n6_n2, e_n2_n6, upd_get, upd_ne, upd_upd, hget k hlt, onil_flat, onil_cells]
    refine ⟨fun _ => ⟨by omega, ?_⟩, fun q => absurd hlt q⟩
    cases o with
    | none =>
      have := hoN rfl
      subst this
      obtain rfl : k = 0 := hesl.symm
      simp only [oheap_none, onil_none]
      refine HFnF.mkH (readFuncH hp hps hkl (hlen 0 hlt) (o := none) hor (fun q hq => by simp [OV.rowsRows] at hq) ho (fun _ => rfl) (by simp)) ?_
      rintro r_ h' ⟨ef, m, g9, hef, rfl, w9, zm, rfl⟩
      obtain ⟨g8, rfl, w8, z82, z86'⟩ := New.under2 z2g (by rw [upd_ne _ _ _ _ d_n6_n2]; exact z6g) w9
      have z86 := (upd_none.1 z86').2
      simp only [upd_get] at zm
      have am : ¬ m = n2 := by grind
      have bm : ¬ m = n6 := by grind
      have cm : g8 m = none := by grind
      have d_m_n2 : ¬ m = n2 := am
      have d_n2_m : ¬ n2 = m := Ne.symm d_m_n2
      have e_m_n2 : (m = n2) = False := eq_false d_m_n2
      have e_n2_m : (n2 = m) = False := eq_false d_n2_m
      have d_m_n6 : ¬ m = n6 := bm
      have d_n6_m : ¬ n6 = m := Ne.symm d_m_n6
      have e_m_n6 : (m = n6) = False := eq_false d_m_n6
      have e_n6_m : (n6 = m) = False := eq_false d_n6_m
      simp (maxSteps := 1000000) -dsimp -implicitDefEqProofs only [go_sem, ↓reduceIte, keep7, ib7, mk7, Tryz.f7, e_n6_n2, e_n6_m, e_n2_n6, e_n2_m, e_m_n6, e_m_n2, upd_get, upd_ne, upd_upd]
      intro n10 q10
      have a10 : ¬ n10 = n2 := by grind
      have b10 : ¬ n10 = n6 := by grind
      have c10 : ¬ n10 = m := by grind
      have d_n10_n2 : ¬ n10 = n2 := a10
      have d_n2_n10 : ¬ n2 = n10 := Ne.symm d_n10_n2
      have e_n10_n2 : (n10 = n2) = False := eq_false d_n10_n2
      have e_n2_n10 : (n2 = n10) = False := eq_false d_n2_n10
      have d_n10_n6 : ¬ n10 = n6 := b10
      have d_n6_n10 : ¬ n6 = n10 := Ne.symm d_n10_n6
      have e_n10_n6 : (n10 = n6) = False := eq_false d_n10_n6
      have e_n6_n10 : (n6 = n10) = False := eq_false d_n6_n10
      have d_n10_m : ¬ n10 = m := c10
      have d_m_n10 : ¬ m = n10 := Ne.symm d_n10_m
      have e_n10_m : (n10 = m) = False := eq_false d_n10_m
      have e_m_n10 : (m = n10) = False := eq_false d_m_n10
      simp (maxSteps := 1000000) -dsimp -implicitDefEqProofs only [go_sem, ↓reduceIte, keep7, ib7, mk7, Tryz.f7, e_n6_n2, e_n6_m, e_n6_n10, e_n2_n6, e_n2_m, e_n2_n10, e_m_n6, e_m_n2, e_m_n10, e_n10_n6, e_n10_n2, e_n10_m, upd_get, upd_ne, upd_upd]
      refine ⟨(0 + 1, ([] : List (List OV)) ++ [ef], g8, some m), IntWalk.i64_in _ (by omega), ?_, ⟨by omega, OR.snoc (k := 0) hor hkl hef, New.snoc hnew w8, ⟨z82, z86⟩, cm, fun a e => by cases e; exact ⟨am, bm⟩, fun _ _ => Nat.succ_pos _⟩, by simp only; omega⟩
      intro q_
      simp only [upd_get, oheap_some, onil_some, List.nil_append]
      grind
    | some m0 =>
      rw [gside_some] at hs
      have hm0 := hon m0 rfl
      have d_m0_n2 : ¬ m0 = n2 := hm0.1
      have d_n2_m0 : ¬ n2 = m0 := Ne.symm d_m0_n2
      have e_m0_n2 : (m0 = n2) = False := eq_false d_m0_n2
      have e_n2_m0 : (n2 = m0) = False := eq_false d_n2_m0
      have d_m0_n6 : ¬ m0 = n6 := hm0.2
      have d_n6_m0 : ¬ n6 = m0 := Ne.symm d_m0_n6
      have e_m0_n6 : (m0 = n6) = False := eq_false d_m0_n6
      have e_n6_m0 : (n6 = m0) = False := eq_false d_n6_m0
      have hk0 := ho m0 rfl
      simp only [oheap_some, onil_some]
      refine HFnF.mkH (readFuncH hp hps hkl (hlen k hlt) (o := some m0) hor (((hnew.owns.up hs).up (by rw [upd_ne _ _ _ _ d_n2_m0]; exact z2g)).up (by rw [upd_ne _ _ _ _ d_n6_n2, upd_ne _ _ _ _ d_n6_m0]; exact z6g)) ho hoN (fun m e => by cases e; rw [upd_ne _ _ _ _ d_m0_n6, upd_ne _ _ _ _ d_m0_n2, upd_same])) ?_
      rintro r_ h' ⟨ef, m, g9, hef, rfl, w9, zm, rfl⟩
      obtain ⟨g8, rfl, w8, z80, z82', z86'⟩ := New.under3 hs (by rw [upd_ne _ _ _ _ d_n2_m0]; exact z2g) (by rw [upd_ne _ _ _ _ d_n6_n2, upd_ne _ _ _ _ d_n6_m0]; exact z6g) w9
      have z82 := (upd_none.1 z82').2
      have z86 := (upd_none.1 (upd_none.1 z86').2).2
      simp only [upd_get] at zm
      have am : ¬ m = n2 := by grind
      have bm : ¬ m = n6 := by grind
      have dm : ¬ m = m0 := by grind
      have cm : g8 m = none := by grind
      have d_m_n2 : ¬ m = n2 := am
      have d_n2_m : ¬ n2 = m := Ne.symm d_m_n2
      have e_m_n2 : (m = n2) = False := eq_false d_m_n2
      have e_n2_m : (n2 = m) = False := eq_false d_n2_m
      have d_m_n6 : ¬ m = n6 := bm
      have d_n6_m : ¬ n6 = m := Ne.symm d_m_n6
      have e_m_n6 : (m = n6) = False := eq_false d_m_n6
      have e_n6_m : (n6 = m) = False := eq_false d_n6_m
      have d_m_m0 : ¬ m = m0 := dm
      have d_m0_m : ¬ m0 = m := Ne.symm d_m_m0
      have e_m_m0 : (m = m0) = False := eq_false d_m_m0
      have e_m0_m : (m0 = m) = False := eq_false d_m0_m
      simp (maxSteps := 1000000) -dsimp -implicitDefEqProofs only [go_sem, ↓reduceIte, keep7, ib7, mk7, Tryz.f7, e_n6_n2, e_n6_m, e_n6_m0, e_n2_n6, e_n2_m, e_n2_m0, e_m_n6, e_m_n2, e_m_m0, e_m0_n6, e_m0_n2, e_m0_m, upd_get, upd_ne, upd_upd]
      intro n10 q10
      have a10 : ¬ n10 = n2 := by grind
      have b10 : ¬ n10 = n6 := by grind
      have c10 : ¬ n10 = m := by grind
      have d_n10_n2 : ¬ n10 = n2 := a10
      have d_n2_n10 : ¬ n2 = n10 := Ne.symm d_n10_n2
      have e_n10_n2 : (n10 = n2) = False := eq_false d_n10_n2
      have e_n2_n10 : (n2 = n10) = False := eq_false d_n2_n10
      have d_n10_n6 : ¬ n10 = n6 := b10
      have d_n6_n10 : ¬ n6 = n10 := Ne.symm d_n10_n6
      have e_n10_n6 : (n10 = n6) = False := eq_false d_n10_n6
      have e_n6_n10 : (n6 = n10) = False := eq_false d_n6_n10
      have d_n10_m : ¬ n10 = m := c10
      have d_m_n10 : ¬ m = n10 := Ne.symm d_n10_m
      have e_n10_m : (n10 = m) = False := eq_false d_n10_m
      have e_m_n10 : (m = n10) = False := eq_false d_m_n10
      simp (maxSteps := 1000000) -dsimp -implicitDefEqProofs only [go_sem, ↓reduceIte, keep7, ib7, mk7, Tryz.f7, e_n6_n2, e_n6_m, e_n6_n10, e_n2_n6, e_n2_m, e_n2_n10, e_m_n6, e_m_n2, e_m_n10, e_n10_n6, e_n10_n2, e_n10_m, e_m0_n6, e_m0_n2, e_m0_m, e_n6_m0, e_n6_n2, e_n6_m, e_n2_m0, e_n2_n6, e_n2_m, e_m_m0, e_m_n6, e_m_n2, upd_get, upd_ne, upd_upd]
      refine ⟨(k + 1, es ++ [ef], g8, some m), IntWalk.i64_in _ (by omega), ?_, ⟨by omega, OR.snoc (k := k) hor hkl hef, New.snoc hnew w8, ⟨z82, z86⟩, cm, fun a e => by cases e; exact ⟨am, bm⟩, fun _ _ => Nat.succ_pos _⟩, by simp only; omega⟩
      intro q_
      simp only [upd_get, oheap_some, onil_some, List.nil_append]
      grind
  · obtain rfl : k = n := by omega
    simp (maxSteps := 1000000) -dsimp -implicitDefEqProofs only [go_sem, ↓reduceIte, keep7, ib7, mk7, Tryz.f7, e_n6_n2, e_n2_n6, upd_get, upd_ne, upd_upd, hlast, onil_flat, onil_cells, Nat.lt_irrefl]
    refine ⟨by omega, fun hl => ?_, fun hl => ?_⟩
    · rw [if_neg hl, if_neg hl, if_neg hl, IntWalk.i64_in _ (by omega)]
      have hle : h.le (oheap g (.row 3 (OV.cells es)) o) := by
        cases o with
        | none => exact hnew.le
        | some m => rw [gside_some] at hs; exact (le_upd (Heap.le_none hnew.le hs)).2 hnew.le
      refine own_zero zP_z (wsub_tup [] [_, _]) ?_
      exact Heap.le_upd z2 (Heap.le_upd z6 (Heap.le_upd z2 hle))
    · rw [if_pos hl, if_pos hl, if_pos hl]
      cases o with
      | none =>
        have := hoN rfl
        subst this
        obtain rfl : k = 0 := hesl.symm
        exact own_zero (R := (p.upto 0).o) ⟨[.nil 3], ⟨_, rfl, OS.nil⟩, rfl, Sub.agg (.cons (Sub.nil 3 true) .nil)⟩ (wsub_tup [] [_, _]) (Heap.le_upd z2 (Heap.le_upd z6 (Heap.le_upd z2 hnew.le)))
      | some m =>
        rw [gside_some] at hs
        have hm := hon m rfl
        simp only [oheap_some, onil_some]
        rw [← hesl]
        refine own_end (e := [.sl m 3 es]) (w := fun y => .tup [y, I 0, I 0]) (g := upd g m (.row 3 (OV.cells es))) ⟨_, rfl, OS.mk (by rw [hesl]; exact hor)⟩ ?_ ?_
        · simpa only [OV.rowsRow, OV.sl_rows, List.append_nil] using hnew.row hs
        · intro q_
          simp only [upd_get]
          grind
open Go.Proofs
set_option linter.unusedVariables false
set_option linter.unusedSimpArgs false
theorem drawn_s {fs : List DFunc} (h : Drawn fs) (hl : fs.length ≤ 3) : (⟨fs⟩ : DProgram).s ≤ 1000 := by
  have h1 : ∀ f ∈ fs, f.s ≤ 140 := fun f hf => by
    obtain ⟨j, -, ej, hg⟩ := h.get hf
    have hnm := ((h.good hl).1.2 j f ej).1.2.1
    rw [DFunc.s_eq, szs_eq]
    have h2 : ∀ l : List DExpr, (∀ e ∈ l, e.s ≤ 39) → (l.map DExpr.s).sum ≤ 39 * l.length := fun l => by
      induction l with
      | nil => intro _; simp
      | cons x l ih =>
        intro hx
        have := hx x (.head _)
        have := ih fun e he => hx e (.tail _ he)
        simp only [List.map_cons, List.sum_cons, List.length_cons]
        omega
    have h3 := h2 f.fOuts fun e he => (hg.2.2.2 e he).1
    have := hg.2.2.1.2
    omega
  rw [DProgram.s_eq, szs_eq]
  have h2 : ∀ l : List DFunc, (∀ e ∈ l, e.s ≤ 140) → (l.map DFunc.s).sum ≤ 140 * l.length := fun l => by
    induction l with
    | nil => intro _; simp
    | cons x l ih =>
      intro hx
      have := hx x (.head _)
      have := ih fun e he => hx e (.tail _ he)
      simp only [List.map_cons, List.sum_cons, List.length_cons]
      omega
  have h3 := h2 fs h1
  simp only [DProgram.fFuncs]
  omega
def keep3 : List Nat := [0, 1, 4, 5, 6, 7, 8, 9, 11, 12, 13, 14, 15, 18, 45, 64, 69, 89]
def ib3 : List Nat := []
def mk3 : Marks := fun id => match id with | 14 => ([0, 2, 6, 7], (.op 1 (.op 3 (.op 0 (.op 2 (.op 4 (.op 5 (.op 6 (.op 7 (.op 8 (.op 9 (.op 10 (.op 11 (.op 12 .nil))))))))))))), []) | _ => ([], .nil, [])
set_option maxRecDepth 100000 in
set_option maxHeartbeats 4000000 in
theorem lawPT {c : List Int} (hc : ∀ x ∈ c, InB x) {d : List Int} : Fn0 Tryz.prog 3 [.sl 1 (c.map fun n => [.int .u8 n]) false, .sl 1 (d.map fun n => [.int .u8 n]) false] (.bool true) := by
  have hlong := a2Long c d
  refine fn0F 90 keep3 ib3 mk3 mix Tryz.func3 rfl (by kernel_rfl) (by simp) fun h => ?_
  simp (maxSteps := 1000000) -dsimp -implicitDefEqProofs only [go_sem, ↓reduceIte, keep3, ib3, mk3, Tryz.f3]
  first | refine HFnF.mk (hlong) ?_ | refine CallSF.mk (hlong) ?_ | refine HFnF.mkAt (hlong) ?_ | refine CallSF.mk (FnAt.fn0 (hlong)) ?_
  simp (maxSteps := 1000000) -dsimp -implicitDefEqProofs only [go_sem, ↓reduceIte, keep3, ib3, mk3, Tryz.f3]
  intro hs
  have hl : c.length ≤ 4096 := by omega
  refine HFnF.mkH (A2Program hc hl h) ?_
  rintro r_ h' ⟨l_, ⟨fs, hfl, hdr, ⟨e, he, rfl, rfl⟩⟩, hnew⟩
  have hps := drawn_s hdr hfl.2
  obtain ⟨hok, hsm⟩ := hdr.good hfl.2
  have htl := small_txt hok hsm
  have hown := hnew.owns
  have hdat := DProgram.o_dat he
  obtain ⟨y, rfl, hy⟩ := id he
  simp (maxSteps := 1000000) -dsimp -implicitDefEqProofs only [go_sem, ↓reduceIte, keep3, ib3, mk3, Tryz.f3, OV.map_val, OV.map_val_nil, hy.flat, hy.one]
  intro n5 q5
  have hne : fs ≠ [] := fun e => by rw [e] at hfl; simp at hfl
  have hle5 : ∀ Y, h'.le (upd h' n5 Y) := fun Y => Heap.le_upd q5 (Heap.le_refl _)
  have hvw : ∀ H : Heap, h'.le H → View H (.agg [y.val]) (.agg (⟨fs⟩ : DProgram).c) := fun H hH => View.aggD [y] hdat fun q hq => Heap.le_get hH (hown q hq)
  rw [upd_upd]
  have hup : (⟨fs⟩ : DProgram).upto fs.length = ⟨fs⟩ := by simp [DProgram.upto, DProgram.fFuncs]
  have hR1 := ReadProgramN hok (by omega) (n := fs.length) (Nat.le_refl _) (T := progTxt ⟨fs⟩) (last := []) (by omega) (by rw [spB_prog hok]; simp only [DProgram.fFuncs]; rw [List.take_of_length_le (Nat.le_refl _)])
  rw [if_pos rfl, if_pos rfl, if_pos rfl, hup] at hR1
  obtain ⟨last, hlast, hsh⟩ : ∃ last, ¬ last = [] ∧ spB 10 ((progTxt ⟨fs⟩).take ((progTxt ⟨fs⟩).length - 1)) = ((⟨fs⟩ : DProgram).fFuncs.take (fs.length - 1)).map (lineT ⟨fs⟩) ++ [last] := by
    have hk : fs.length - 1 < fs.length := by omega
    refine ⟨lineT ⟨fs⟩ (fs[fs.length - 1]), fun q => ?_, ?_⟩
    · have h1 := ((hok.2 (fs.length - 1) _ (List.getElem?_eq_getElem hk)).1).1
      have h2 := congrArg List.length q
      rw [lineT, headF] at h2
      simp only [List.length_append, List.length_cons, List.length_nil] at h2
      omega
    · rw [spB_short hok hne]
      have h3 := List.take_succ_eq_append_getElem hk
      rw [show fs.length - 1 + 1 = fs.length from by omega, List.take_of_length_le (Nat.le_refl _)] at h3
      have h4 : ∀ g : DFunc → List UInt8, fs.map g = (fs.take (fs.length - 1)).map g ++ [g fs[fs.length - 1]] := fun g => by
        conv => lhs; rw [h3]
        rw [List.map_append]; rfl
      exact h4 _
  have hR2 := ReadProgramN hok (by omega) (n := fs.length - 1) (by simp only [DProgram.fFuncs]; omega) (T := (progTxt ⟨fs⟩).take ((progTxt ⟨fs⟩).length - 1)) (last := last) (by rw [List.length_take]; omega) hsh
  rw [if_neg hlast, if_neg hlast, if_neg hlast] at hR2
  have hT1 : 1 ≤ (progTxt ⟨fs⟩).length := by
    rcases Nat.eq_zero_or_pos (progTxt ⟨fs⟩).length with q | q
    · have h1 := spB_prog hok
      rw [List.length_eq_zero_iff.1 q] at h1
      rw [spB_nil] at h1
      have h2 := congrArg List.length h1
      rw [List.length_append, List.length_map] at h2
      simp only [DProgram.fFuncs, List.length_cons, List.length_nil] at h2
      omega
    · exact q
  refine HFnF.lend0 (ProgramTextI ⟨fs⟩ (by omega)) (ViewL.cons (hvw _ (hle5 _)) ViewL.nil) rfl ?_
  generalize progTxt ⟨fs⟩ = T at *
  simp (maxSteps := 1000000) -dsimp -implicitDefEqProofs only [go_sem, ↓reduceIte, keep3, ib3, mk3, Tryz.f3, upd_get]
  refine HFnF.mkH (hR1 _) ?_
  rintro r_ g2 ⟨l2, ⟨e2, he2, rfl, rfl⟩, hnew2⟩
  have hdat2 := DProgram.o_dat he2
  have hown2 := hnew2.owns
  obtain ⟨y2, rfl, hy2⟩ := id he2
  have hg5 := hnew2.keep (upd_same ..)
  simp (maxSteps := 1000000) -dsimp -implicitDefEqProofs only [go_sem, ↓reduceIte, keep3, ib3, mk3, Tryz.f3, OV.map_val, OV.map_val_nil, hy2.flat, hy2.one]
  intro n7 q7
  have d57 : ¬ n7 = n5 := fun e => by rw [e, hg5] at q7; cases q7
  have d_n7_n5 : ¬ n7 = n5 := d57
  have d_n5_n7 : ¬ n5 = n7 := Ne.symm d_n7_n5
  have e_n7_n5 : (n7 = n5) = False := eq_false d_n7_n5
  have e_n5_n7 : (n5 = n7) = False := eq_false d_n5_n7
  refine fun _ => ⟨fun _ => ?_, fun q => absurd q (by omega)⟩
  rw [upd_upd]
  have hle7 : ∀ Y, h'.le (upd g2 n7 Y) := fun Y => Heap.le_upd (by
    cases hb : h' n7 with
    | none => rfl
    | some v =>
      have := Heap.le_get hnew2.le (Heap.le_get (hle5 _) hb)
      rw [q7] at this; cases this) (Heap.le_trans (hle5 _) hnew2.le)
  have hle72 : ∀ Y, g2.le (upd g2 n7 Y) := fun Y => Heap.le_upd q7 (Heap.le_refl _)
  simp (maxSteps := 1000000) -dsimp -implicitDefEqProofs only [go_sem, ↓reduceIte, keep3, ib3, mk3, Tryz.f3, e_n7_n5, e_n5_n7, upd_ne, upd_get, hg5]
  refine HFnF.lend0 (specSameProgram ⟨fs⟩ ⟨fs⟩) (ViewL.cons (hvw _ (hle7 _)) (ViewL.cons (View.aggD [y2] hdat2 fun q hq => Heap.le_get (hle72 _) (hown2 q hq)) ViewL.nil)) rfl ?_
  rw [decide_eq_true rfl]
  simp (maxSteps := 1000000) -dsimp -implicitDefEqProofs only [go_sem, ↓reduceIte, keep3, ib3, mk3, Tryz.f3, e_n7_n5, e_n5_n7, upd_ne, upd_get, hg5, Option.toArray_none, Option.toArray_some, List.filterMap_cons, List.filterMap_nil, List.elem_cons_self, List.nil_append, List.append_nil, List.toList_toArray]
  have wl : IntKind.i64.wrap ((T.length : Int) - 1) = ((T.length - 1 : Nat) : Int) := by rw [IntWalk.i64_in _ (by omega)]; omega
  refine fun _ => ⟨by rw [wl]; omega, by rw [wl]; omega, ?_⟩
  rw [wl, Int.toNat_natCast]
  refine HFnF.mkH (hR2 _) ?_
  rintro r_ g3 ⟨l3, ⟨e3, he3, rfl, rfl⟩, hnew3⟩
  obtain ⟨y3, rfl, hy3⟩ := id he3
  have hle3 : h'.le g3 := Heap.le_trans (hle7 _) hnew3.le
  have hg53 := hnew3.keep (show upd g2 n7 (HObj.row 1 [[Cell.v y2.val]]) n5 = some (HObj.row 1 [[Cell.v y.val]]) by rw [upd_ne _ _ _ _ d_n5_n7]; exact hg5)
  obtain ⟨m, es, rfl, hor⟩ := hy.some (by simp only [DProgram.fFuncs]; omega)
  have hes : es.length = fs.length := hor.length.symm
  have hgm := Heap.le_get hle3 (hown (m, .row 3 (OV.cells es)) (by simp only [OV.row_cons, OV.row_nil, OV.sl_rows, List.append_nil]; exact .head _))
  simp (maxSteps := 1000000) -dsimp -implicitDefEqProofs only [go_sem, ↓reduceIte, keep3, ib3, mk3, Tryz.f3, OV.map_val, OV.map_val_nil, hy3.flat, hy3.one, OV.val_sl, hg53, upd_get, upd_ne, cells_len]
  intro n10 q10
  have d5 : ¬ n10 = n5 := fun e => by rw [e, hg53] at q10; cases q10
  have dm : ¬ n10 = m := fun e => by rw [e, hgm] at q10; cases q10
  have d_n10_n5 : ¬ n10 = n5 := d5
  have d_n5_n10 : ¬ n5 = n10 := Ne.symm d_n10_n5
  have e_n10_n5 : (n10 = n5) = False := eq_false d_n10_n5
  have e_n5_n10 : (n5 = n10) = False := eq_false d_n5_n10
  have d_n10_m : ¬ n10 = m := dm
  have d_m_n10 : ¬ m = n10 := Ne.symm d_n10_m
  have e_n10_m : (n10 = m) = False := eq_false d_n10_m
  have e_m_n10 : (m = n10) = False := eq_false d_m_n10
  have wf : ((fs.length - 1 : Nat) : Int) + 1 = fs.length := by omega
  simp (maxSteps := 1000000) -dsimp -implicitDefEqProofs only [go_sem, ↓reduceIte, keep3, ib3, mk3, Tryz.f3, e_n10_n5, e_n5_n10, e_n10_m, e_m_n10, upd_ne, upd_get, hg53, hgm, Option.toArray_none, Option.toArray_some, List.filterMap_cons, List.filterMap_nil, List.elem_cons_self, List.nil_append, List.append_nil, List.toList_toArray, OV.val_sl, cells_len, hes, wf]
  have hend : h.le (upd g3 n10 (.row 1 [[.v y3.val]])) := Heap.le_trans (Heap.le_trans hnew.le hle3) (Heap.le_upd q10 (Heap.le_refl _))
  refine fun _ => ?_
  rw [upd_upd]
  refine loopF (keep := keep3) (ib := ib3) (mk := mk3) mix (by kernel_rfl) (fun i : Nat => [(5, .op n5 1 0 0), (13, I i)]) (fun _ => upd g3 n10 (.row 1 [[.v y3.val]])) (fun i => i ≤ fs.length) (fun i => fs.length - i) 0 ⟨by simp [SatL, tget], Heap.le_refl _, Nat.zero_le _⟩ ?_
  intro i hi
  rcases Nat.lt_or_ge i fs.length with hlt | hge
  · obtain ⟨f, hf⟩ : ∃ f, fs[i]? = some f := ⟨fs[i], List.getElem?_eq_getElem hlt⟩
    obtain ⟨ef, hef, hfo⟩ := hor.getE i f hf
    obtain ⟨yf, rfl, -⟩ := id hfo
    have hcell := cells_get hef
    simp only [List.map_cons, List.map_nil, OV.val_v] at hcell
    simp (maxSteps := 1000000) -dsimp -implicitDefEqProofs only [go_sem, ↓reduceIte, keep3, ib3, mk3, Tryz.f3, e_n10_n5, e_n5_n10, e_n10_m, e_m_n10, upd_ne, upd_get, hg53, hgm, Option.toArray_none, Option.toArray_some, List.filterMap_cons, List.filterMap_nil, List.elem_cons_self, List.nil_append, List.append_nil, List.toList_toArray, OV.val_sl, cells_len, hes, hcell]
    have hat : atF ⟨fs⟩ f.fName = i := name_ix hok hf
    have hFN := FuncNamed hok (by omega) f.fName
    rw [hat, if_neg (by omega), if_neg (by omega)] at hFN
    refine fun _ => ⟨fun _ => ⟨hlt, ?_⟩, fun q => absurd hlt q⟩
    refine HFnF.lend0 hFN (ViewL.cons (by rw [← hes]; exact hvw _ (Heap.le_trans hle3 (Heap.le_upd q10 (Heap.le_refl _)))) (ViewL.cons (View.same _ _) ViewL.nil)) rfl ?_
    simp (maxSteps := 1000000) -dsimp -implicitDefEqProofs only [go_sem, ↓reduceIte, keep3, ib3, mk3, Tryz.f3, Option.toArray_none, Option.toArray_some, List.filterMap_cons, List.filterMap_nil, List.elem_cons_self, List.nil_append, List.append_nil, List.toList_toArray]
    exact ⟨i + 1, IntWalk.i64_in _ (by omega), hlt, by omega⟩
  · obtain rfl : i = fs.length := by omega
    simp (maxSteps := 1000000) -dsimp -implicitDefEqProofs only [go_sem, ↓reduceIte, keep3, ib3, mk3, Tryz.f3, e_n10_n5, e_n5_n10, e_n10_m, e_m_n10, upd_ne, upd_get, hg53, hgm, Option.toArray_none, Option.toArray_some, List.filterMap_cons, List.filterMap_nil, List.elem_cons_self, List.nil_append, List.append_nil, List.toList_toArray, OV.val_sl, cells_len, hes, Nat.lt_irrefl]
    exact fun _ => hend
open Go.Proofs
set_option linter.unusedVariables false
set_option linter.unusedSimpArgs false
theorem dat_u8 {P : Program} {n : Nat} {t : TypeId} {xs : List HVal} (hu : P.underlying t = some (.int .u8)) (h : Dat P n t xs) : ∃ i : Int, xs = [.int .u8 i] ∧ InB i := by
  match n, h with
  | 0, h => exact h.elim
  | n + 1, h =>
    simp only [Dat, hu] at h
    obtain ⟨i, rfl, hw⟩ := h
    refine ⟨i, rfl, ?_⟩
    have h1 : IntKind.min .u8 = 0 := by decide
    have h2 : IntKind.max .u8 = 255 := by decide
    simp [Lit.wf, IntKind.has, h1, h2] at hw
    unfold InB
    omega
theorem list_of {α : Type} {c : α → List HVal} {w : α → Prop} : ∀ {es : List (List HVal)}, (∀ y ∈ es, ∃ x, y = c x ∧ w x) → ∃ l : List α, es = l.map c ∧ ∀ x ∈ l, w x
  | [], _ => ⟨[], rfl, by simp⟩
  | e :: es, h => by
    obtain ⟨x, rfl, hx⟩ := h _ List.mem_cons_self
    obtain ⟨l, rfl, hl⟩ := list_of fun y hy => h y (List.mem_cons_of_mem _ hy)
    refine ⟨x :: l, rfl, fun y hy => ?_⟩
    rcases List.mem_cons.1 hy with rfl | hy
    · exact hx
    · exact hl y hy
theorem dat_slice {P : Program} {n sz : Nat} {t e : TypeId} {α : Type} {c : α → List HVal} {w : α → Prop} {xs : List HVal} (hu : P.underlying t = some (.slice e)) (hc : P.cellsOf e = sz) (h : Dat P n t xs)
    (hx : ∀ m y, m < n → Dat P m e y → ∃ x, y = c x ∧ w x) : ∃ l : List α, xs = [sls sz c l] ∧ ∀ x ∈ l, w x := by
  match n, h with
  | 0, h => exact h.elim
  | n + 1, h =>
    simp only [Dat, hu] at h
    obtain ⟨es, rfl, hes⟩ := h
    obtain ⟨l, rfl, hl⟩ := list_of fun y hy => hx n y (by omega) (hes y hy)
    exact ⟨l, by rw [hc], hl⟩
theorem cells5 : Tryz.prog.cellsOf 5 = 1 := by kernel_rfl
def datT : List TypeId := [5, 22]
theorem datT_ok : datB Tryz.prog datT = true := by kernel_rfl

end Go.Hl

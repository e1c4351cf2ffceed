/-
  Contracts of functions and laws of the layer over the walk.
-/
import Derived.Test.YtenkidkcfjbcgaaDoorVvA
import Derived.Test.YtenkidkcfjbcgaaDoorHlD
namespace Go.Hl
open Go.Proofs
set_option linter.unusedVariables false
set_option linter.unusedSimpArgs false
theorem laid_int {E : Env} {h : Heap} {w : World} (x : LaidIn E h w) : ∃ m, w.cell? ⟨1, 0, none⟩ = some (.int .i64 m) := by
  obtain ⟨cs, h1, m, h2⟩ := x.cell (g := 1) (Q := fun cs => ∃ m, cs[0]? = some (.int .i64 m)) (by unfold laidBlocks; exact List.mem_cons_of_mem _ (List.mem_cons_of_mem _ (List.mem_cons_of_mem _ List.mem_cons_self)))
  exact ⟨m, (h1 0).trans h2⟩
theorem laid_syn {E : Env} {h : Heap} {w : World} (x : LaidIn E h w) : ∃ v, w.cell? ⟨6, 0, none⟩ = some v ∧ (v = .nilIface ∨ ∃ te pe, v = .iface te pe) := by
  obtain ⟨cs, h1, v, h2, h3⟩ := x.cell (g := 6) (Q := fun cs => ∃ v, cs[0]? = some v ∧ (v = .nilIface ∨ ∃ te pe, v = .iface te pe)) (by unfold laidBlocks; exact List.mem_cons_of_mem _ List.mem_cons_self)
  exact ⟨v, (h1 0).trans h2, h3⟩
theorem laid_ran {E : Env} {h : Heap} {w : World} (x : LaidIn E h w) : ∃ v, w.cell? ⟨7, 0, none⟩ = some v ∧ (v = .nilIface ∨ ∃ te pe, v = .iface te pe) := by
  obtain ⟨cs, h1, v, h2, h3⟩ := x.cell (g := 7) (Q := fun cs => ∃ v, cs[0]? = some v ∧ (v = .nilIface ∨ ∃ te pe, v = .iface te pe)) (by unfold laidBlocks; exact List.mem_cons_of_mem _ (List.mem_cons_of_mem _ List.mem_cons_self))
  exact ⟨v, (h1 0).trans h2, h3⟩
theorem below_drewN (B : Nat) (w : World) (n : Nat) : Go.RowKit.Below B w (w.drewN n) := ⟨rfl, rfl, rfl, Nat.le_refl _, fun _ _ => rfl⟩
theorem cut_len (a sep : List UInt8) : (Go.Lib.cut a sep).1.length ≤ a.length ∧ (Go.Lib.cut a sep).2.1.length ≤ a.length := by
  unfold Go.Lib.cut
  split
  · simp only [List.length_take, List.length_drop]; omega
  · simp
theorem RepL.tup {E : Env} {h : Heap} {w : World} {xs : List HVal} {vs : List Value} (r : RepL E h w xs vs) : Rep E h w (.tup xs) (.tuple vs.toArray) := .tup _ _ r.length r.get
theorem cutC (a sep : List UInt8) (ha : a.length < 4294967281) : Fn0 Tryd.prog 81 [.str a, .str sep] (.tup [.str (Go.Lib.cut a sep).1, .str (Go.Lib.cut a sep).2.1, .bool (Go.Lib.cut a sep).2.2]) :=
  fn0_below (by kernel_rfl) fun E h w vs R rl => by
    match vs, rl with
    | [v0, v1], rl =>
      obtain ⟨r0, r1, _⟩ := rl
      obtain ⟨rfl, h0⟩ := rep_str r0
      obtain ⟨rfl, h1⟩ := rep_str r1
      obtain ⟨m, hm⟩ := laid_int R.laid
      have hl := cut_len a sep
      refine (Go.Proofs.Tryd.strings_Cut ⟨a.toArray⟩ ⟨sep.toArray⟩ m w (by simpa [ByteArray.size] using ha) hm).mono fun e w' ⟨he, n, hw⟩ => ⟨_, he, fun E' h' w' => ?_, hw ▸ below_drewN _ w n⟩
      exact RepL.tup (xs := [_, _, _]) (vs := [_, _, _]) ⟨.str _ (by simp only [maxLen]; omega), .str _ (by simp only [maxLen]; omega), .bool _, trivial⟩
/-- The error of strconv.ParseInt. -/
def errV (s : List UInt8) : HVal := match Go.Lib.parseIntB 64 s with | .ok _ => .nilif | _ => .iface 182 .any
theorem parseInt (s : List UInt8) (hs : s.length ≤ 281474976710656) : Fn0 Tryd.prog 115 [.str s, I 10, I 64] (.tup [I (rdN s), errV s]) :=
  fn0_below (by kernel_rfl) fun E h w vs R rl => by
    match vs, rl with
    | [v0, v1, v2], rl =>
      obtain ⟨r0, r1, r2, _⟩ := rl
      obtain ⟨rfl, h0⟩ := rep_str r0
      rw [rep_int r1, rep_int r2]
      have hz : (⟨s.toArray⟩ : ByteArray).size ≤ 281474976710656 := by simpa [ByteArray.size] using hs
      unfold rdN errV
      cases e : Go.Lib.parseIntB 64 s with
      | ok v =>
        refine (Go.Proofs.Tryd.strconv_ParseInt_10_at64_ok ⟨s.toArray⟩ (by omega) v e w).mono fun e w' ⟨he, hw⟩ => ⟨_, he, fun E' h' w' => RepL.tup (xs := [_, _]) (vs := [_, _]) ⟨.int _ _, .nilif, trivial⟩, ?_⟩
        rcases hw with rfl | ⟨t, rfl⟩
        · exact Go.RowKit.Below.refl _ _
        · exact ⟨rfl, rfl, rfl, by rw [Go.Lib.bytesWorld_size]; omega, fun j hj => Go.Lib.bytesWorld_at_old w _ t j hj⟩
      | range =>
        obtain ⟨ev, hv, hev⟩ := laid_ran R.laid
        exact (Go.Proofs.Tryd.strconv_ParseInt_10_at64_range ⟨s.toArray⟩ hz e _ w hv hev).mono fun e w' ⟨N, he, _, _, hw⟩ => ⟨_, he, fun E' h' w' => RepL.tup (xs := [_, _]) (vs := [_, _]) ⟨.int _ _, .iface _ _ _ (.any _), trivial⟩, hw⟩
      | _ =>
        obtain ⟨ev, hv, hev⟩ := laid_syn R.laid
        exact (Go.Proofs.Tryd.strconv_ParseInt_10_at64_syntax ⟨s.toArray⟩ hz e _ w hv hev).mono fun e w' ⟨N, he, _, _, hw⟩ => ⟨_, he, fun E' h' w' => RepL.tup (xs := [_, _]) (vs := [_, _]) ⟨.int _ _, .iface _ _ _ (.any _), trivial⟩, hw⟩
theorem fn0_strs {P : Program} {f : FuncId} {args : List HVal} {l : List (List UInt8)} (hc : callable P f = true) (hlen : l.length ≤ maxLen) (hs : ∀ s ∈ l, s.length ≤ maxLen)
    (H : ∀ E h w vs, Rel E h w → RepL E h w args vs → Calls P f vs.toArray w fun e w' => ∃ t, e = .returned (.slice (some ⟨w.heap.size, 0, none⟩) l.length l.length) ∧ w' = w.alloc (.cells (l.map fun s => Value.string ⟨s.toArray⟩).toArray t)) : Fn0 P f args (sls 1 (fun s => [.str s]) l) := fun h =>
  ⟨hc, fun E w vs R rl => (H E h w vs R rl).mono fun e w' q => by
    obtain ⟨t, rfl, rfl⟩ := q
    have bel : Go.RowKit.Below w.heap.size w (w.alloc (.cells (l.map fun s => Value.string ⟨s.toArray⟩).toArray t)) := (Go.RowKit.Below.refl _ w).alloc (Nat.le_refl _) _
    have hb : (w.alloc (.cells (l.map fun s => Value.string ⟨s.toArray⟩).toArray t)).heap[w.heap.size]? = some (.cells (l.map fun s => Value.string ⟨s.toArray⟩).toArray t) := by
      show (w.heap.push _)[w.heap.size]? = _
      simp
    refine ⟨_, h, E, ⟨rfl, rfl⟩, ev_below bel, rel_below R bel, ?_⟩
    have hat : ∀ (i j : Nat) (x : HVal), at2 (l.map fun s => [HVal.str s]) i j = some x → ∃ s, l[i]? = some s ∧ j = 0 ∧ x = .str s := fun i j x hx => by
      obtain ⟨e, he, hj⟩ := at2_some hx
      rw [List.getElem?_map] at he
      obtain ⟨s, hs, rfl⟩ := Option.map_eq_some_iff.1 he
      cases j with
      | zero => exact ⟨s, hs, rfl, (Option.some.inj hj).symm⟩
      | succ j => simp at hj
    have := Rep.sl (E := E) (h := h) (w := w.alloc (.cells (l.map fun s => Value.string ⟨s.toArray⟩).toArray t)) 1 (l.map fun s => [HVal.str s]) false w.heap.size 0 l.length (fun i _ => ((l.map fun s => Value.string ⟨s.toArray⟩)[i]?).getD .nilFunc) ⟨by show _ < (w.heap.push _).size; simp, fun n o hn ho hf => Nat.lt_irrefl _ (R.lt n o _ hn ho hf)⟩ (by simp) hlen (fun q => by cases q) (fun e he => by obtain ⟨s, _, rfl⟩ := List.mem_map.1 he; rfl)
      (fun i j x hx => by
        obtain ⟨s, h1, rfl, rfl⟩ := hat i j x hx
        simp only [World.cell?, hb]
        simp [h1])
      (fun i j x hx => by
        obtain ⟨s, h1, rfl, rfl⟩ := hat i j x hx
        simp [h1, Value.oneCell'])
      (fun i j x hx => by
        obtain ⟨s, h1, rfl, rfl⟩ := hat i j x hx
        simp only [List.getElem?_map, h1, Option.map_some, Option.getD_some]
        exact .str s (hs s (List.mem_of_getElem? h1)))
    rw [List.length_map] at this
    exact this⟩
theorem spB_len (c : UInt8) (a : List UInt8) : (spB c a).length ≤ a.length + 1 ∧ ∀ s ∈ spB c a, s.length ≤ a.length := by
  induction hn : a.length using Nat.strongRecOn generalizing a with
  | _ n ih =>
    rcases spB_cases c a with h | ⟨p, r, h1, rfl⟩
    · rw [spB_one a h]; exact ⟨by simp, fun s hs => by rw [List.mem_singleton.1 hs]; omega⟩
    · rw [spB_pre p r h1]
      obtain ⟨h2, h3⟩ := ih r.length (by rw [← hn]; simp; omega) r rfl
      simp only [List.length_append, List.length_cons] at hn
      refine ⟨by simp only [List.length_cons]; omega, fun s hs => ?_⟩
      rcases List.mem_cons.1 hs with rfl | hs
      · omega
      · have := h3 s hs; omega
theorem splitB_strs (a : List UInt8) (c : UInt8) : (Go.Lib.splitB ⟨[c].toArray⟩ 0 (Go.Lib.countB ⟨a.toArray⟩ ⟨[c].toArray⟩) ⟨a.toArray⟩).map Value.string = (spB c a).map fun s => Value.string ⟨s.toArray⟩ := by
  have h1 := Go.Lib.splitB_data ⟨[c].toArray⟩ 0 (Go.Lib.countB ⟨a.toArray⟩ ⟨[c].toArray⟩) ⟨a.toArray⟩
  have h2 : Go.Lib.splitK [c] 0 (Go.Lib.countB ⟨a.toArray⟩ ⟨[c].toArray⟩) a = spB c a := split_spB c a
  rw [← h2, ← h1, List.map_map]
  refine List.map_congr_left fun b _ => ?_
  simp
theorem splitC (a : List UInt8) (c : UInt8) (ha : a.length < 4294967281) : Fn0 Tryd.prog 42 [.str a, .str [c]] (sls 1 (fun s => [.str s]) (spB c a)) := by
  have hl := spB_len c a
  refine fn0_strs (by kernel_rfl) (by simp only [maxLen]; omega) (fun s hs => by have := hl.2 s hs; simp only [maxLen]; omega) fun E h w vs R rl => ?_
  match vs, rl with
  | [v0, v1], rl =>
    obtain ⟨r0, r1, _⟩ := rl
    obtain ⟨rfl, h0⟩ := rep_str r0
    obtain ⟨rfl, h1⟩ := rep_str r1
    obtain ⟨m, hm⟩ := laid_int R.laid
    have hn : Go.Lib.countB ⟨a.toArray⟩ ⟨[c].toArray⟩ + 1 = (spB c a).length := by
      have h2 := Go.Lib.splitB_all ⟨[c].toArray⟩ (by show 1 ≤ [c].length; simp) 0 _ ⟨a.toArray⟩ rfl
      have h3 := congrArg List.length (splitB_strs a c)
      rw [List.length_map, List.length_map] at h3
      rw [← h3]; exact h2.symm
    refine (Go.Proofs.Tryd.strings_Split ⟨a.toArray⟩ ⟨[c].toArray⟩ m w (by simpa [ByteArray.size] using ha) hm (by show 1 ≤ [c].length; simp)).mono fun e w' ⟨he, hw⟩ => ⟨9, ?_, ?_⟩
    · rw [he, hn]
    · rw [hw, splitB_strs]
theorem indexS (l : List (List UInt8)) (t : Bool) (x : List UInt8) (hl : l.length ≤ 1048576) : Fn0 Tryd.prog 83 [.sl 1 (l.map fun s => [.str s]) t, .str x] (I (Go.Lib.idxOfS (l.map fun s => ⟨s.toArray⟩) ⟨x.toArray⟩)) :=
  fn0_below (by kernel_rfl) fun E h w vs R rl => by
    match vs, rl with
    | [v0, v1], rl =>
      obtain ⟨r0, r1, _⟩ := rl
      obtain ⟨rfl, h1⟩ := rep_str r1
      rcases rep_sl r0 with ⟨e, a, cap, rfl⟩ | ⟨b, o, cap, rfl, hb, hcap, hcs⟩
      · have e : l = [] := by simpa using e
        subst e
        exact (Go.Proofs.Tryd.slices_Index_string_empty a cap ⟨x.toArray⟩ w).mono fun e w' ⟨he, hw⟩ => ⟨_, he, fun _ _ _ => .int _ _, hw ▸ Go.RowKit.Below.refl _ _⟩
      · rw [List.length_map] at hcap ⊢
        have := Go.Proofs.Tryd.slices_Index_string b o l.length cap (l.map fun s => (⟨s.toArray⟩ : ByteArray)) ⟨x.toArray⟩ w (by simp) (by omega) (fun j hj => by
          rw [List.length_map] at hj
          obtain ⟨c, h1, h2⟩ := hcs j 0 (.str l[j]) (by simp [at2, List.getElem?_eq_getElem hj])
          rw [(rep_str h2).1] at h1
          rw [List.getD_eq_getElem?_getD, List.getElem?_map, List.getElem?_eq_getElem hj]
          simpa using h1)
        rw [show (l.map fun s => (⟨s.toArray⟩ : ByteArray)).take l.length = l.map fun s => (⟨s.toArray⟩ : ByteArray) from List.take_of_length_le (by simp)] at this
        exact this.mono fun e w' ⟨he, hw⟩ => ⟨_, he, fun _ _ _ => .int _ _, hw ▸ Go.RowKit.Below.refl _ _⟩
theorem spB_step {c : UInt8} {s : List UInt8} {f i : Nat} (hf : f ≤ i) (hi : s[i]? = some c) (hn : c ∉ (s.drop f).take (i - f)) : spB c (s.drop f) = (s.drop f).take (i - f) :: spB c (s.drop (i + 1)) := by
  have h1 : s.drop f = (s.drop f).take (i - f) ++ c :: s.drop (i + 1) := by
    have h2 := (List.take_append_drop (i - f) (s.drop f)).symm
    rw [List.drop_drop, show f + (i - f) = i by omega] at h2
    have h3 : i < s.length := (List.getElem?_eq_some_iff.1 hi).1
    rw [List.drop_eq_getElem_cons h3] at h2
    rw [List.getElem?_eq_getElem h3] at hi
    rw [Option.some.inj hi] at h2
    exact h2
  exact (congrArg (spB c) h1).trans (spB_pre _ _ hn)
theorem notin_next {c : UInt8} {s : List UInt8} {f i : Nat} {x : UInt8} (hf : f ≤ i) (hi : s[i]? = some x) (hx : ¬ x = c) (hn : c ∉ (s.drop f).take (i - f)) : c ∉ (s.drop f).take (i + 1 - f) := by
  rw [show i + 1 - f = (i - f) + 1 by omega, List.take_add_one]
  rw [List.getElem?_drop, show f + (i - f) = i by omega, hi]
  simp only [List.mem_append, not_or]
  exact ⟨hn, by simp only [Option.toList_some, List.mem_singleton]; exact fun q => hx q.symm⟩
open Go.Proofs
set_option linter.unusedVariables false
set_option linter.unusedSimpArgs false
theorem own_rowW {α : Type} {c : α → HVal} {l : List α} {sz n len : Nat} {h h' : Heap} (w : HVal → HVal) (hn : h n = none) (hl : (upd h n (.row sz ((l.map fun x => [c x]).map (List.map .v)))).le h') (e : len = l.length) :
    ∃ r1 g l1, Shift (w (.os n sz 0 len)) h' r1 g ∧ QS (OS (oP c) sz l) w r1 l1 ∧ New h l1 g := by
  subst e
  refine ⟨w (OV.sl n sz (l.map fun x => [.v (c x)])).val, upd h n (.row sz ((l.map fun x => [c x]).map (List.map .v))), _, ?_, ⟨_, OS.mk (OR_map l), rfl, rfl⟩, ?_⟩
  · rw [OV.val_prim]; exact Shift.of (Sub.refl _) hl
  · rw [OV.sl_rows, rows_map, cells_map]; exact New.one hn
theorem own_empW {α : Type} {c : α → HVal} {l : List α} {sz : Nat} {h h' : Heap} {x : HVal} (w : HVal → HVal) (hw : WSub w) (hx : Sub x (.sl sz [] true)) (hl : h.le h') (e : l = []) :
    ∃ r1 g l1, Shift (w x) h' r1 g ∧ QS (OS (oP c) sz l) w r1 l1 ∧ New h l1 g := by
  subst e
  refine ⟨w (OV.nil sz).val, h, _, Shift.of (hw _ _ hx) hl, ⟨_, OS.nil, rfl, rfl⟩, ?_⟩
  rw [OV.nil_rows]; exact New.nil h
def keep39 : List Nat := [0, 1, 4, 5, 6, 7, 12, 19]
def ib39 : List Nat := [8, 25, 33]
def mk39 : Marks := fun _ => ([], .nil, [])
set_option maxRecDepth 100000 in
theorem l01SplitN (s : List UInt8) (c : UInt8) (hs : s.length ≤ 1048600) : FnN Tryd.prog 39 [.str s, .int .u8 c.toNat] (QS (OS (oP .str) 1 (spB c s))) := by
  refine fnNF 35 keep39 ib39 mk39 mix Tryd.func39 rfl (by kernel_rfl) (by simp) fun h => ?_
  simp (maxSteps := 1000000) -dsimp -implicitDefEqProofs only [go_sem, ↓reduceIte, keep39, ib39, mk39, Tryd.f39]
  repeat' (with_reducible first | intro _ | refine And.intro ?_ ?_)
  all_goals try (first | omega | decide)
  refine loopF (keep := keep39) (ib := ib39) (mk := mk39) mix (by kernel_rfl) (fun x : Nat × Nat × List (List UInt8) × Option Nat => [(0, .str s), (1, .int .u8 c.toNat), (5, oval 1 x.2.2.1.length x.2.2.2), (6, I x.2.1), (7, I x.1)]) (fun x => oheap h (.row 1 ((x.2.2.1.map fun n => [.str n]).map (List.map .v))) x.2.2.2) (fun x => (x.2.1 ≤ x.1 ∧ x.1 ≤ s.length) ∧ oside h x.2.2.1 x.2.2.2 ∧ spB c s = x.2.2.1 ++ spB c (s.drop x.2.1) ∧ c ∉ (s.drop x.2.1).take (x.1 - x.2.1)) (fun x => s.length - x.1) (0, 0, [], none) (by simp [SatL, tget, Heap.le_refl, oval, oheap, oside]) ?_
  rintro ⟨k, f, out, o⟩ ⟨⟨hf, hk⟩, ho, he, hn⟩
  simp only at hf hk ho he hn ⊢
  have hol : out.length ≤ s.length := by
    have h1 := (spB_len c s).1
    have h2 := congrArg List.length he
    have h3 := List.length_pos_iff.2 (spB_ne c (s.drop f))
    rw [List.length_append] at h2; omega
  rcases Nat.lt_or_ge k s.length with hlt | hge
  · have ea : s[k]? = some s[k] := List.getElem?_eq_getElem hlt
    have hc : s[k].toNat = c.toNat → s[k]? = some c := fun q => by rw [ea]; congr 1; exact UInt8.toNat.inj q
    have hd : ¬ s[k].toNat = c.toNat → ¬ s[k] = c := fun q e => q (by rw [e])
    have hy : ∀ q : s[k].toNat = c.toNat, spB c s = (out ++ [List.drop f (List.take k s)]) ++ spB c (s.drop (k + 1)) := fun q => by
      rw [he, spB_step hf (hc q) hn, List.append_assoc, List.drop_take]; rfl
    cases o with
    | none =>
      rw [oside_none] at ho
      subst ho
      simp (maxSteps := 1000000) -dsimp -implicitDefEqProofs only [go_sem, ↓reduceIte, keep39, ib39, mk39, Tryd.f39, oval_none, oheap_none, ea]
      intro _
      refine ⟨fun _ => ⟨fun q => ⟨hf, hk, by decide, by decide, by decide, fun n hn2 => ⟨(k + 1, k + 1, [List.drop f (List.take k s)], some n), ?_⟩⟩, fun q => ⟨(k + 1, f, [], none), ?_⟩⟩, fun q => absurd hlt q⟩
      · simp only [oheap_some, oval_some, oside_some]
        exact ⟨⟨rfl, IntWalk.i64_in _ (by omega), IntWalk.i64_in _ (by omega)⟩, Heap.le_refl _, ⟨⟨Nat.le_refl _, hlt⟩, hn2, hy q, by simp⟩, by omega⟩
      · simp only [oheap_none, oval_none, oside_none]
        exact ⟨⟨trivial, trivial, IntWalk.i64_in _ (by omega)⟩, Heap.le_refl _, ⟨⟨by omega, hlt⟩, trivial, he, notin_next hf ea (hd q) hn⟩, by omega⟩
    | some n =>
      rw [oside_some] at ho
      simp (maxSteps := 1000000) -dsimp -implicitDefEqProofs only [go_sem, ↓reduceIte, keep39, ib39, mk39, Tryd.f39, oval_some, oheap_some, ea]
      intro _
      refine ⟨fun _ => ⟨fun q => ⟨hf, hk, by decide, by decide, by decide, Nat.le_refl _, by omega, by omega, fun b hb => ⟨(k + 1, k + 1, out ++ [List.drop f (List.take k s)], some b), ?_⟩⟩, fun q => ⟨(k + 1, f, out, some n), ?_⟩⟩, fun q => absurd hlt q⟩
      · simp only [oheap_some, oval_some, oside_some]
        refine ⟨⟨by rw [List.length_append]; rfl, IntWalk.i64_in _ (by omega), IntWalk.i64_in _ (by omega)⟩, ?_, ⟨⟨Nat.le_refl _, hlt⟩, hb.2, hy q, by simp⟩, by omega⟩
        rw [grow_row]; exact le_app ho
      · simp only [oheap_some, oval_some, oside_some]
        exact ⟨⟨trivial, trivial, IntWalk.i64_in _ (by omega)⟩, Heap.le_refl _, ⟨⟨by omega, hlt⟩, ho, he, notin_next hf ea (hd q) hn⟩, by omega⟩
  · have hk' : k = s.length := by omega
    subst hk'
    have hy : spB c s = out ++ [List.drop f (List.take s.length s)] := by
      rw [he, List.take_length]
      rw [← List.length_drop, List.take_length] at hn
      rw [spB_one _ hn]
    cases o with
    | none =>
      rw [oside_none] at ho
      subst ho
      simp (maxSteps := 1000000) -dsimp -implicitDefEqProofs only [go_sem, ↓reduceIte, keep39, ib39, mk39, Tryd.f39, Nat.lt_irrefl, oval_none, oheap_none]
      intro _
      refine ⟨hf, Nat.le_refl _, by decide, by decide, by decide, fun n hn2 => ?_⟩
      rw [hy]
      exact own_row (l := [List.drop f (List.take s.length s)]) hn2
    | some n =>
      rw [oside_some] at ho
      simp (maxSteps := 1000000) -dsimp -implicitDefEqProofs only [go_sem, ↓reduceIte, keep39, ib39, mk39, Tryd.f39, Nat.lt_irrefl, oval_some, oheap_some]
      intro _
      refine ⟨hf, Nat.le_refl _, by decide, by decide, by decide, Nat.le_refl _, by omega, by omega, fun b hb => ?_⟩
      rw [hy, grow_row]
      exact own_rowW (fun x => x) hb.2 (le_app ho) (by simp)
theorem l01Split (s : List UInt8) (c : UInt8) (hs : s.length ≤ 1048600) : Fn0 Tryd.prog 39 [.str s, .int .u8 c.toNat] (sls 1 (fun s => [.str s]) (spB c s)) := QS.fn0 (l01SplitN s c hs) fun y hy => OS.dat (c := fun n => [.str n]) (fun _ _ q => oP_dat q) hy
open Go.Proofs
set_option linter.unusedVariables false
set_option linter.unusedSimpArgs false
theorem decimalI (n : Int) (h0 : -9223372036854775808 ≤ n) (h1 : n ≤ 9223372036854775807) : Fn0 Tryd.prog 35 [I n] (.str (Go.Lib.itoa n)) := by
  refine fn0F 5 keep35 ib35 mk35 mix Tryd.func35 rfl (by kernel_rfl) (by simp) fun h => ?_
  simp (maxSteps := 1000000) -dsimp -implicitDefEqProofs only [go_sem, ↓reduceIte, keep35, ib35, mk35, Tryd.f35]
  first | refine HFnF.mk (formatInt n h0 h1) ?_ | refine CallSF.mk (formatInt n h0 h1) ?_ | refine HFnF.mkAt (formatInt n h0 h1) ?_ | refine CallSF.mk (FnAt.fn0 (formatInt n h0 h1)) ?_
  simp (maxSteps := 1000000) -dsimp -implicitDefEqProofs only [go_sem, ↓reduceIte, keep35, ib35, mk35, Tryd.f35]
theorem parseI_range {s : List UInt8} {v : Int} (h : Go.Lib.parseIntB 64 s = .ok v) : -9223372036854775808 ≤ v ∧ v ≤ 9223372036854775807 := by
  unfold Go.Lib.parseIntB at h
  split at h
  · cases h
  · simp only at h
    split at h
    · cases h
    · cases h
    · rename_i u hu
      split at h
      · cases h
      · split at h
        · cases h
        · rename_i h1 h2
          have := Go.Lib.NumEnd.ok.inj h
          subst this
          simp only [Nat.reducePow, Nat.reduceSub] at h1 h2
          split
          · have : u ≤ 9223372036854775808 := by
              rename_i q
              exact Nat.le_of_not_lt fun z => h2 ⟨q, z⟩
            omega
          · have : u < 9223372036854775808 := by
              rename_i q
              exact Nat.lt_of_not_le fun z => h1 ⟨q, z⟩
            omega
theorem rdOK_parse {hi : Int} (hhi : hi ≤ 9223372036854775807) {s : List UInt8} (h : rdOK hi s) : Go.Lib.parseIntB 64 s = .ok (rdN s) := by
  have h1 := h.2.2
  have := parseI_itoa h.1 (by have := h.2.1; omega)
  rw [← h1] at this
  exact this
theorem ifc_err : isIfc Tryd.prog 76 = true := by kernel_rfl
def keep104 : List Nat := [0, 1, 2, 6, 7, 8, 9]
def ib104 : List Nat := []
def mk104 : Marks := fun _ => ([], .nil, [])
set_option maxRecDepth 100000 in
theorem readDecimal (s : List UInt8) (hi : Int) (hs : s.length ≤ 1048600) (hhi : hi ≤ 1000000001) : Fn0 Tryd.prog 104 [.str s, I 0, I hi] (.tup [I (rdN s), .bool (decide (rdOK hi s))]) := by
  have hp := parseInt s (by omega)
  have hr := rdOK_parse (hi := hi) (s := s) (by omega)
  cases e : Go.Lib.parseIntB 64 s with
  | ok v =>
    have hv := parseI_range e
    have hn : rdN s = v := by rw [rdN, e]
    have he : errV s = .nilif := by rw [errV, e]
    have hl := itoa_len64 hv.1 hv.2
    rw [he, hn] at hp
    rw [hn]
    refine fn0F 30 keep104 ib104 mk104 mix Tryd.func104 rfl (by kernel_rfl) (by simp) fun h => ?_
    simp (maxSteps := 1000000) -dsimp -implicitDefEqProofs only [go_sem, ↓reduceIte, keep104, ib104, mk104, Tryd.f104]
    first | refine HFnF.mk (hp) ?_ | refine CallSF.mk (hp) ?_ | refine HFnF.mkAt (hp) ?_ | refine CallSF.mk (FnAt.fn0 (hp)) ?_
    simp (maxSteps := 1000000) -dsimp -implicitDefEqProofs only [go_sem, ↓reduceIte, keep104, ib104, mk104, Tryd.f104]
    simp (maxSteps := 1000000) -dsimp -implicitDefEqProofs only [go_sem, ↓reduceIte, keep104, ib104, mk104, Tryd.f104, ifc_err]
    first | refine HFnF.mk (decimalI v hv.1 hv.2) ?_ | refine CallSF.mk (decimalI v hv.1 hv.2) ?_ | refine HFnF.mkAt (decimalI v hv.1 hv.2) ?_ | refine CallSF.mk (FnAt.fn0 (decimalI v hv.1 hv.2)) ?_
    simp (maxSteps := 1000000) -dsimp -implicitDefEqProofs only [go_sem, ↓reduceIte, keep104, ib104, mk104, Tryd.f104]
    have hq : rdOK hi s ↔ (Go.Lib.itoa v = s ∧ (0 ≤ v ∧ v ≤ hi)) := by rw [rdOK, hn]; exact ⟨fun q => ⟨q.2.2.symm, q.1, q.2.1⟩, fun q => ⟨q.2.1, q.2.2, q.1.symm⟩⟩
    refine ⟨fun q => ?_, fun q => ?_⟩
    · first | refine HFnF.mk (within v 0 hi) ?_ | refine CallSF.mk (within v 0 hi) ?_ | refine HFnF.mkAt (within v 0 hi) ?_ | refine CallSF.mk (FnAt.fn0 (within v 0 hi)) ?_
      simp (maxSteps := 1000000) -dsimp -implicitDefEqProofs only [go_sem, ↓reduceIte, keep104, ib104, mk104, Tryd.f104]
      exact congrArg (fun b => HVal.tup [I v, .bool b]) (decide_eq_decide.2 ⟨fun z => hq.2 ⟨q, z⟩, fun z => (hq.1 z).2⟩)
    · exact congrArg (fun b => HVal.tup [I v, .bool b]) (decide_eq_false fun z => q (hq.1 z).1).symm
  | range =>
    have hn : ¬ rdOK hi s := fun q => by rw [hr q] at e; cases e
    have he : errV s = .iface 182 .any := by rw [errV, e]
    rw [he] at hp
    rw [decide_eq_false hn]
    refine fn0F 30 keep104 ib104 mk104 mix Tryd.func104 rfl (by kernel_rfl) (by simp) fun h => ?_
    simp (maxSteps := 1000000) -dsimp -implicitDefEqProofs only [go_sem, ↓reduceIte, keep104, ib104, mk104, Tryd.f104]
    first | refine HFnF.mk (hp) ?_ | refine CallSF.mk (hp) ?_ | refine HFnF.mkAt (hp) ?_ | refine CallSF.mk (FnAt.fn0 (hp)) ?_
    simp (maxSteps := 1000000) -dsimp -implicitDefEqProofs only [go_sem, ↓reduceIte, keep104, ib104, mk104, Tryd.f104]
    simp (maxSteps := 1000000) -dsimp -implicitDefEqProofs only [go_sem, ↓reduceIte, keep104, ib104, mk104, Tryd.f104, ifc_err]
  | _ =>
    have hn : ¬ rdOK hi s := fun q => by rw [hr q] at e; cases e
    have he : errV s = .iface 182 .any := by rw [errV, e]
    rw [he] at hp
    rw [decide_eq_false hn]
    refine fn0F 30 keep104 ib104 mk104 mix Tryd.func104 rfl (by kernel_rfl) (by simp) fun h => ?_
    simp (maxSteps := 1000000) -dsimp -implicitDefEqProofs only [go_sem, ↓reduceIte, keep104, ib104, mk104, Tryd.f104]
    first | refine HFnF.mk (hp) ?_ | refine CallSF.mk (hp) ?_ | refine HFnF.mkAt (hp) ?_ | refine CallSF.mk (FnAt.fn0 (hp)) ?_
    simp (maxSteps := 1000000) -dsimp -implicitDefEqProofs only [go_sem, ↓reduceIte, keep104, ib104, mk104, Tryd.f104]
    simp (maxSteps := 1000000) -dsimp -implicitDefEqProofs only [go_sem, ↓reduceIte, keep104, ib104, mk104, Tryd.f104, ifc_err]
def keep82 : List Nat := [0, 1, 2, 3, 4, 10, 11, 12, 14, 15, 16, 19, 23, 24, 25, 26, 43]
def ib82 : List Nat := [17, 46]
def mk82 : Marks := fun _ => ([], .nil, [])
set_option maxRecDepth 100000 in
theorem readListN (text : List UInt8) (most : Nat) (hi : Int) (hs : text.length ≤ 1048600) (hhi : hi ≤ 1000000001) (hm : most ≤ 1048600) : FnN Tryd.prog 82 [.str text, .str [32], I most, I 0, I hi] (QS (OS (oP I) 1 ((readL most hi text).getD [])) (fun y => .tup [y, .bool (readL most hi text).isSome])) := by
  have hsl := spB_len 32 text
  have hsp := splitC text 32 (by omega)
  refine fnNF 50 keep82 ib82 mk82 mix Tryd.func82 rfl (by kernel_rfl) (by simp) fun h => ?_
  simp (maxSteps := 1000000) -dsimp -implicitDefEqProofs only [go_sem, ↓reduceIte, keep82, ib82, mk82, Tryd.f82]
  repeat' (with_reducible first | intro _ | refine And.intro ?_ ?_)
  all_goals try (first | omega | decide)
  · have h1 : readL most hi text = some [] := by rw [readL, if_pos (by assumption)]
    rw [h1]
    exact own_empW (fun y => .tup [y, .bool true]) (wsub_tup [] [_]) (Sub.refl _) (Heap.le_refl _) rfl
  · rename_i hne
    first | refine HFnF.mk (hsp) ?_ | refine CallSF.mk (hsp) ?_ | refine HFnF.mkAt (hsp) ?_ | refine CallSF.mk (FnAt.fn0 (hsp)) ?_
    simp (maxSteps := 1000000) -dsimp -implicitDefEqProofs only [go_sem, ↓reduceIte, keep82, ib82, mk82, Tryd.f82]
    repeat' (with_reducible first | intro _ | refine And.intro ?_ ?_)
    refine loopF (keep := keep82) (ib := ib82) (mk := mk82) mix (by kernel_rfl) (fun x : Nat × Option Nat => [(2, I most), (3, I 0), (4, I hi), (12, oval 1 x.1 x.2), (23, sls 1 (fun s => [.str s]) (spB 32 text)), (24, I (spB 32 text).length), (25, I x.1)]) (fun x => oheap h (.row 1 (((((spB 32 text).take x.1).map rdN).map fun n => [I n]).map (List.map .v))) x.2) (fun x => (x.1 ≤ (spB 32 text).length ∧ x.1 ≤ most) ∧ oside h ((spB 32 text).take x.1) x.2 ∧ ∀ p ∈ (spB 32 text).take x.1, rdOK hi p) (fun x => (spB 32 text).length - x.1) (0, none) (by simp [SatL, tget, Heap.le_refl, oval, oheap, oside]) ?_
    rintro ⟨k, o⟩ ⟨⟨hk, hkm⟩, ho, hok⟩
    simp only at hk hkm ho hok ⊢
    rcases Nat.lt_or_ge k (spB 32 text).length with hlt | hge
    · have ea : (spB 32 text)[k]? = some (spB 32 text)[k] := List.getElem?_eq_getElem hlt
      have hpl := hsl.2 _ (List.getElem_mem hlt)
      have hrd := readDecimal (spB 32 text)[k] hi (by omega) hhi
      have hnone : ¬ (rdOK hi (spB 32 text)[k] ∧ ¬ k = most) → readL most hi text = none := fun q => by
        rw [readL, if_neg hne]
        split
        · rw [toNums, if_neg]
          intro z
          exact q ⟨z _ (List.getElem_mem hlt), by omega⟩
        · rfl
      have hok2 : rdOK hi (spB 32 text)[k] → ∀ p ∈ (spB 32 text).take (k + 1), rdOK hi p := fun q p hp => by
        rw [List.take_succ_eq_append_getElem hlt] at hp
        rcases List.mem_append.1 hp with hp | hp
        · exact hok p hp
        · rw [List.mem_singleton.1 hp]; exact q
      have hmap : ((spB 32 text).take (k + 1)).map rdN = ((spB 32 text).take k).map rdN ++ [rdN (spB 32 text)[k]] := by
        rw [List.take_succ_eq_append_getElem hlt, List.map_append]; rfl
      cases o with
      | none =>
        simp (maxSteps := 1000000) -dsimp -implicitDefEqProofs only [go_sem, ↓reduceIte, keep82, ib82, mk82, Tryd.f82, oval_none, oheap_none, ea]
        refine ⟨fun _ => ⟨hlt, ?_⟩, fun q => absurd hlt q⟩
        first | refine HFnF.mk (hrd) ?_ | refine CallSF.mk (hrd) ?_ | refine HFnF.mkAt (hrd) ?_ | refine CallSF.mk (FnAt.fn0 (hrd)) ?_
        simp (maxSteps := 1000000) -dsimp -implicitDefEqProofs only [go_sem, ↓reduceIte, keep82, ib82, mk82, Tryd.f82]
        rw [oside_none] at ho
        have hk0 : k = 0 := by
          have := congrArg List.length ho
          rw [List.length_take, List.length_nil] at this
          omega
        subst hk0
        refine ⟨fun hq => ⟨fun h0 => ?_, fun h0 => ⟨by decide, by decide, by decide, fun n hn => ⟨(0 + 1, some n), ?_⟩⟩⟩, fun hq => ?_⟩
        · rw [hnone fun z => z.2 (by omega)]
          exact own_empW (fun y => .tup [y, .bool false]) (wsub_tup [] [_]) (Sub.nil 1 true) (Heap.le_refl _) rfl
        · simp only [oheap_some, oval_some, oside_some]
          rw [hmap, ho]
          exact ⟨⟨trivial, rfl⟩, Heap.le_refl _, ⟨⟨by omega, by omega⟩, hn, hok2 hq⟩, by omega⟩
        · rw [hnone fun z => hq z.1]
          exact own_empW (fun y => .tup [y, .bool false]) (wsub_tup [] [_]) (Sub.nil 1 true) (Heap.le_refl _) rfl
      | some n =>
        simp (maxSteps := 1000000) -dsimp -implicitDefEqProofs only [go_sem, ↓reduceIte, keep82, ib82, mk82, Tryd.f82, oval_some, oheap_some, ea]
        refine ⟨fun _ => ⟨hlt, ?_⟩, fun q => absurd hlt q⟩
        first | refine HFnF.mk (hrd) ?_ | refine CallSF.mk (hrd) ?_ | refine HFnF.mkAt (hrd) ?_ | refine CallSF.mk (FnAt.fn0 (hrd)) ?_
        simp (maxSteps := 1000000) -dsimp -implicitDefEqProofs only [go_sem, ↓reduceIte, keep82, ib82, mk82, Tryd.f82]
        rw [oside_some] at ho
        have hle : h.le (upd h n (.row 1 (((((spB 32 text).take k).map rdN).map fun n => [I n]).map (List.map .v)))) := Heap.le_upd ho (Heap.le_refl _)
        refine ⟨fun hq _ => ⟨fun h0 => ?_, fun h0 => ⟨by decide, by decide, by decide, by rw [List.length_take]; omega, by omega, by omega, fun b hb => ⟨(k + 1, some b), ?_⟩⟩⟩, fun hq => ?_⟩
        · rw [hnone fun z => z.2 (by omega)]
          exact own_empW (fun y => .tup [y, .bool false]) (wsub_tup [] [_]) (Sub.nil 1 true) hle rfl
        · simp only [oheap_some, oval_some, oside_some, hmap]
          refine ⟨⟨trivial, IntWalk.i64_in _ (by omega)⟩, ?_, ⟨⟨by omega, by omega⟩, hb.2, hok2 hq⟩, by omega⟩
          have hg := grow_row I (((spB 32 text).take k).map rdN) (rdN (spB 32 text)[k])
          rw [List.length_map, List.length_take, Nat.min_eq_left hk] at hg
          rw [hg]; exact le_app ho
        · rw [hnone fun z => hq z.1]
          exact own_empW (fun y => .tup [y, .bool false]) (wsub_tup [] [_]) (Sub.nil 1 true) hle rfl
    · have hk' : k = (spB 32 text).length := by omega
      have hR : readL most hi text = some ((spB 32 text).map rdN) := by
        rw [readL, if_neg hne, if_pos (by omega), toNums, if_pos]
        intro p hp
        rw [hk', List.take_length] at hok
        exact hok p hp
      rw [hR]
      rw [hk'] at ho ⊢
      rw [List.take_length] at ho ⊢
      cases o with
      | none =>
        simp (maxSteps := 1000000) -dsimp -implicitDefEqProofs only [go_sem, ↓reduceIte, keep82, ib82, mk82, Tryd.f82, oval_none, oheap_none, Nat.lt_irrefl]
        exact own_empW (fun y => .tup [y, .bool true]) (wsub_tup [] [_]) (Sub.refl _) (Heap.le_refl _) (by rw [oside_none] at ho; rw [ho]; rfl)
      | some n =>
        simp (maxSteps := 1000000) -dsimp -implicitDefEqProofs only [go_sem, ↓reduceIte, keep82, ib82, mk82, Tryd.f82, oval_some, oheap_some, Nat.lt_irrefl]
        rw [oside_some] at ho
        exact own_rowW (fun y => .tup [y, .bool true]) ho (Heap.le_refl _) (by simp)
theorem readList (text : List UInt8) (most : Nat) (hi : Int) (hs : text.length ≤ 1048600) (hhi : hi ≤ 1000000001) (hm : most ≤ 1048600) : Fn0 Tryd.prog 82 [.str text, .str [32], I most, I 0, I hi] (.tup [sls 1 (fun n => [I n]) ((readL most hi text).getD []), .bool (readL most hi text).isSome]) :=
  QS.fn0W (w := fun y => .tup [y, .bool (readL most hi text).isSome]) (readListN text most hi hs hhi hm) (fun y hy => OS.dat (c := fun n => [I n]) (fun _ _ q => oP_dat q) hy) (wrap_tup [] [_])
open Go.Proofs
set_option linter.unusedVariables false
set_option linter.unusedSimpArgs false
theorem decV_bound : ∀ (l : List UInt8), (∀ c ∈ l, 48 ≤ c.toNat ∧ c.toNat ≤ 57) → decV l < 10 ^ l.length := by
  intro l
  induction hn : l.length using Nat.strongRecOn generalizing l with
  | _ n ih =>
    intro h
    rcases List.eq_nil_or_concat l with e | ⟨l', c, e⟩
    · subst e; subst hn; decide
    · rw [List.concat_eq_append] at e
      subst e
      have hc := h c (by simp)
      have h2 := ih l'.length (by rw [← hn]; simp) l' rfl fun x hx => h x (by simp [hx])
      rw [decV_snoc, ← hn, List.length_append, List.length_singleton, Nat.pow_succ]
      omega
theorem rdI_no {s : List UInt8} (h : ¬ rdOK 999999999 s) : HVal.tup [I 0, .bool false] = .tup [I (if rdOK 999999999 s then rdN s else 0), .bool (decide (rdOK 999999999 s))] := by rw [if_neg h, decide_eq_false h]
theorem pow_le9 {k : Nat} (h : k ≤ 9) : 10 ^ k ≤ 1000000000 := by
  have := Nat.pow_le_pow_right (n := 10) (by decide) h
  omega
def keep97 : List Nat := [0, 2, 3, 4, 5, 23, 27, 39]
def ib97 : List Nat := []
def mk97 : Marks := fun _ => ([], .nil, [])
set_option maxRecDepth 100000 in
theorem specReadDecimal (s : List UInt8) (hs : s.length ≤ 1048600) : Fn0 Tryd.prog 97 [.str s] (.tup [I (if rdOK 999999999 s then rdN s else 0), .bool (decide (rdOK 999999999 s))]) := by
  have hiff := digs_rd s
  cases s with
  | nil =>
    have hn : ¬ rdOK 999999999 [] := fun q => (hiff.2 q).1.1 rfl
    have := rdI_no hn
    refine fn0F 49 keep97 ib97 mk97 mix Tryd.func97 rfl (by kernel_rfl) (by simp) fun h => ?_
    simp (maxSteps := 1000000) -dsimp -implicitDefEqProofs only [go_sem, ↓reduceIte, keep97, ib97, mk97, Tryd.f97]
    simpa using this
  | cons c r =>
    have len : (c :: r).length = r.length + 1 := rfl
    have h0 : (c :: r)[Int.toNat 0]? = some c := rfl
    have h00 : (c :: r)[0]? = some c := rfl
    generalize (c :: r) = s at *
    by_cases h9 : 9 < s.length
    · have hn : ¬ rdOK 999999999 s := fun q => by have := (hiff.2 q).2; omega
      have := rdI_no hn
      refine fn0F 49 keep97 ib97 mk97 mix Tryd.func97 rfl (by kernel_rfl) (by simp) fun h => ?_
      simp (maxSteps := 1000000) -dsimp -implicitDefEqProofs only [go_sem, ↓reduceIte, keep97, ib97, mk97, Tryd.f97]
      repeat' (with_reducible first | intro _ | refine And.intro ?_ ?_)
      all_goals first | omega | exact this
    by_cases hz : 1 < s.length ∧ c = 48
    · have hn : ¬ rdOK 999999999 s := fun q => (hiff.2 q).1.2.2 hz.1 (by rw [h00, hz.2])
      have := rdI_no hn
      have h1 := hz.1
      refine fn0F 49 keep97 ib97 mk97 mix Tryd.func97 rfl (by kernel_rfl) (by simp) fun h => ?_
      simp (maxSteps := 1000000) -dsimp -implicitDefEqProofs only [go_sem, ↓reduceIte, keep97, ib97, mk97, Tryd.f97, h0]
      repeat' (with_reducible first | intro _ | refine And.intro ?_ ?_)
      all_goals first | omega | exact this | (exfalso; have e48 : c.toNat = 48 := by rw [hz.2]; rfl
                                              omega)
    · refine fn0F 49 keep97 ib97 mk97 mix Tryd.func97 rfl (by kernel_rfl) (by simp) fun h => ?_
      simp (maxSteps := 1000000) -dsimp -implicitDefEqProofs only [go_sem, ↓reduceIte, keep97, ib97, mk97, Tryd.f97, h0]
      repeat' (with_reducible first | intro _ | refine And.intro ?_ ?_)
      all_goals try omega
      all_goals try (exfalso; exact hz ⟨by omega, UInt8.toNat.inj (by show c.toNat = 48; omega)⟩)
      all_goals
        refine loopF (keep := keep97) (ib := ib97) (mk := mk97) mix (by kernel_rfl) (fun k : Nat => [(0, .str s), (4, I (decV (s.take k))), (5, I k)]) (fun _ => h) (fun k => k ≤ s.length ∧ ∀ x ∈ s.take k, 48 ≤ x.toNat ∧ x.toNat ≤ 57) (fun k => s.length - k) 0 (by simp [SatL, tget, Heap.le_refl, decV]) ?_
      all_goals
        rintro k ⟨hk, hd⟩
        rcases Nat.lt_or_ge k s.length with hlt | hge
        · have ea : s[k]? = some s[k] := List.getElem?_eq_getElem hlt
          have hb := decV_bound _ hd
          rw [List.length_take, Nat.min_eq_left hk] at hb
          have hp := pow_le9 (k := k) (by omega)
          have hsn : decV (s.take (k + 1)) = 10 * decV (s.take k) + (s[k].toNat - 48) := by rw [List.take_succ_eq_append_getElem hlt, decV_snoc]
          have hno : ¬ (48 ≤ s[k].toNat ∧ s[k].toNat ≤ 57) → ¬ rdOK 999999999 s := fun q z => q ((hiff.2 z).1.2.1 _ (List.getElem_mem hlt))
          have hyes : 48 ≤ s[k].toNat ∧ s[k].toNat ≤ 57 → ∀ x ∈ s.take (k + 1), 48 ≤ x.toNat ∧ x.toNat ≤ 57 := fun q x hx => by
            rw [List.take_succ_eq_append_getElem hlt] at hx
            rcases List.mem_append.1 hx with hx | hx
            · exact hd x hx
            · rw [List.mem_singleton.1 hx]; exact q
          simp (maxSteps := 1000000) -dsimp -implicitDefEqProofs only [go_sem, ↓reduceIte, keep97, ib97, mk97, Tryd.f97, ea]
          repeat' (with_reducible first | intro _ | refine And.intro ?_ ?_)
          all_goals try omega
          all_goals try (exact rdI_no (hno (by omega)))
          refine ⟨k + 1, ⟨?_, IntWalk.i64_in _ (by omega)⟩, ⟨hlt, hyes (by omega)⟩, by omega⟩
          rw [IntWalk.u8_in _ (by omega), IntWalk.i64_in ((s[k].toNat : Int) - 48) (by omega), IntWalk.i64_in (10 * (decV (List.take k s) : Int)) (by omega), IntWalk.i64_in _ (by omega), hsn]
          omega
        · have hk' : k = s.length := by omega
          rw [hk', List.take_length] at hd
          have hok : rdOK 999999999 s := by
            refine hiff.1 ⟨⟨fun e => by rw [e] at len; simp at len, hd, fun h1 q => ?_⟩, by omega⟩
            rw [h00] at q
            exact hz ⟨h1, Option.some.inj q⟩
          rw [hk', List.take_length]
          simp (maxSteps := 1000000) -dsimp -implicitDefEqProofs only [go_sem, ↓reduceIte, keep97, ib97, mk97, Tryd.f97, Nat.lt_irrefl, Int.lt_irrefl]
          repeat' (with_reducible first | intro _ | refine And.intro ?_ ?_)
          rw [if_pos hok, decide_eq_true hok, decV_rd hok]
open Go.Proofs
set_option linter.unusedVariables false
set_option linter.unusedSimpArgs false









open Go.Proofs
set_option linter.unusedVariables false
set_option linter.unusedSimpArgs false

def keep88 : List Nat := [0, 1, 2, 3, 4, 9, 14, 19, 24]
def ib88 : List Nat := [2, 3]
def mk88 : Marks := fun _ => ([], .nil, [])
set_option maxRecDepth 100000 in
theorem eq_Instr (a b : DInstr) : Fn0 Tryd.prog 88 [.agg a.c, .agg b.c] (.bool (decide (a = b))) := by
  simp only [DInstr.c_eq]
  refine fn0F 25 keep88 ib88 mk88 mix Tryd.func88 rfl (by kernel_rfl) (by simp) fun h => ?_
  simp -dsimp -implicitDefEqProofs only [go_sem, Tryd.f88, ↓reduceIte, keep88, ib88, mk88]
  refine ⟨fun hn => (decide_eq_false fun e => hn (by rw [e])).symm, fun efOp => ?_⟩
  refine ⟨fun hn => (decide_eq_false fun e => hn (by rw [e])).symm, fun efA => ?_⟩
  refine ⟨fun hn => (decide_eq_false fun e => hn (by rw [e])).symm, fun efB => ?_⟩
  refine ⟨fun hn => (decide_eq_false fun e => hn (by rw [e])).symm, fun efNum => ?_⟩
  exact (decide_eq_true (DInstr.eq_iff.2 ⟨efOp, efA, efB, efNum⟩)).symm

def keep45 : List Nat := [0, 1, 4, 5, 10, 14, 26]
def ib45 : List Nat := []
def mk45 : Marks := fun id => match id with | 6 => ([], (.op 0 (.op 1 (.op 2 (.op 3 (.op 4 (.op 5 (.op 6 (.op 7 (.op 8 (.op 9 .nil)))))))))), []) | _ => ([], .nil, [])
set_option maxRecDepth 100000 in
theorem eq_InstrS (a b : List DInstr) (hc : ∀ x ∈ a, ∀ y, Fn0 Tryd.prog 88 [(.agg (DInstr.c x)), (.agg (DInstr.c y))] (.bool (decide (x = y)))) : Fn0 Tryd.prog 45 [(sls 4 DInstr.c a), (sls 4 DInstr.c b)] (.bool (decide (a = b))) := by
  refine fn0F 27 keep45 ib45 mk45 mix Tryd.func45 rfl (by kernel_rfl) (by simp) fun h => ?_
  simp -dsimp -implicitDefEqProofs only [go_sem, Tryd.f45, ↓reduceIte, keep45, ib45, mk45]
  refine fun _ _ => ⟨fun hne => ?_, fun heq => ?_⟩
  · exact (decide_eq_false fun e => hne (by rw [e])).symm
  · refine loopF (keep := keep45) (ib := ib45) (mk := mk45) mix (by kernel_rfl) (fun k : Nat => [(0, (sls 4 DInstr.c a)), (1, (sls 4 DInstr.c b)), (5, I k)]) (fun _ => h) (fun k => k ≤ a.length ∧ a.take k = b.take k) (fun k => a.length - k) 0 (by simp [SatL, tget, Heap.le_refl]) ?_
    intro k ⟨hk, hp⟩
    rcases Nat.lt_or_ge k a.length with hlt | hge
    · have hlb : k < b.length := by omega
      have ea : a[k]? = some a[k] := List.getElem?_eq_getElem hlt
      have eb : b[k]? = some b[k] := List.getElem?_eq_getElem hlb
      simp -dsimp -implicitDefEqProofs only [go_sem, ↓reduceIte, keep45, ib45, mk45, Tryd.f45, ea, eb, DInstr.c_eq]
      refine fun _ => ⟨fun _ => ⟨hlt, hlb, ?_⟩, fun hn => absurd hlt hn⟩
      have hx := hc a[k] (List.getElem_mem hlt) b[k]
      simp only [DInstr.c_eq] at hx
      refine CallSF.mk hx ?_
      by_cases he : a[k] = b[k]
      · have d := decide_eq_true he
        simp -dsimp -implicitDefEqProofs only [go_sem, ↓reduceIte, keep45, ib45, mk45, Tryd.f45, d]
        exact ⟨k + 1, by rw [IntWalk.i64_in _ (by omega)]; rfl, ⟨by omega, take_step hlt hlb hp he⟩, by omega⟩
      · have d := decide_eq_false he
        simp -dsimp -implicitDefEqProofs only [go_sem, ↓reduceIte, keep45, ib45, mk45, Tryd.f45, d]
        exact (decide_eq_false fun e => he (getElem_of_eq e hlt)).symm
    · have hk' : k = a.length := by omega
      subst hk'
      simp -dsimp -implicitDefEqProofs only [go_sem, ↓reduceIte, keep45, ib45, mk45, Tryd.f45, Nat.lt_irrefl]
      exact fun _ => (decide_eq_true (eq_of_take heq hp)).symm


def keep89 : List Nat := [0, 1, 2, 3, 4, 9, 14]
def ib89 : List Nat := [2, 3]
def mk89 : Marks := fun _ => ([], .nil, [])
set_option maxRecDepth 100000 in
theorem eq_Guard (a b : DGuard) : Fn0 Tryd.prog 89 [.agg a.c, .agg b.c] (.bool (decide (a = b))) := by
  simp only [DGuard.c_eq]
  refine fn0F 15 keep89 ib89 mk89 mix Tryd.func89 rfl (by kernel_rfl) (by simp) fun h => ?_
  simp -dsimp -implicitDefEqProofs only [go_sem, Tryd.f89, ↓reduceIte, keep89, ib89, mk89]
  refine ⟨fun hn => (decide_eq_false fun e => hn (by rw [e])).symm, fun efReg => ?_⟩
  refine ⟨fun hn => (decide_eq_false fun e => by rw [e] at hn; simp at hn).symm, fun efZero => ?_⟩
  have efZero : a.fZero = b.fZero := by simpa using efZero
  exact (decide_eq_true (DGuard.eq_iff.2 ⟨efReg, efZero⟩)).symm

def keep46 : List Nat := [0, 1, 4, 5, 10, 14, 26]
def ib46 : List Nat := []
def mk46 : Marks := fun id => match id with | 6 => ([], (.op 0 (.op 1 (.op 2 (.op 3 (.op 4 (.op 5 (.op 6 (.op 7 (.op 8 (.op 9 .nil)))))))))), []) | _ => ([], .nil, [])
set_option maxRecDepth 100000 in
theorem eq_GuardS (a b : List DGuard) (hc : ∀ x ∈ a, ∀ y, Fn0 Tryd.prog 89 [(.agg (DGuard.c x)), (.agg (DGuard.c y))] (.bool (decide (x = y)))) : Fn0 Tryd.prog 46 [(sls 2 DGuard.c a), (sls 2 DGuard.c b)] (.bool (decide (a = b))) := by
  refine fn0F 27 keep46 ib46 mk46 mix Tryd.func46 rfl (by kernel_rfl) (by simp) fun h => ?_
  simp -dsimp -implicitDefEqProofs only [go_sem, Tryd.f46, ↓reduceIte, keep46, ib46, mk46]
  refine fun _ _ => ⟨fun hne => ?_, fun heq => ?_⟩
  · exact (decide_eq_false fun e => hne (by rw [e])).symm
  · refine loopF (keep := keep46) (ib := ib46) (mk := mk46) mix (by kernel_rfl) (fun k : Nat => [(0, (sls 2 DGuard.c a)), (1, (sls 2 DGuard.c b)), (5, I k)]) (fun _ => h) (fun k => k ≤ a.length ∧ a.take k = b.take k) (fun k => a.length - k) 0 (by simp [SatL, tget, Heap.le_refl]) ?_
    intro k ⟨hk, hp⟩
    rcases Nat.lt_or_ge k a.length with hlt | hge
    · have hlb : k < b.length := by omega
      have ea : a[k]? = some a[k] := List.getElem?_eq_getElem hlt
      have eb : b[k]? = some b[k] := List.getElem?_eq_getElem hlb
      simp -dsimp -implicitDefEqProofs only [go_sem, ↓reduceIte, keep46, ib46, mk46, Tryd.f46, ea, eb, DGuard.c_eq]
      refine fun _ => ⟨fun _ => ⟨hlt, hlb, ?_⟩, fun hn => absurd hlt hn⟩
      have hx := hc a[k] (List.getElem_mem hlt) b[k]
      simp only [DGuard.c_eq] at hx
      refine CallSF.mk hx ?_
      by_cases he : a[k] = b[k]
      · have d := decide_eq_true he
        simp -dsimp -implicitDefEqProofs only [go_sem, ↓reduceIte, keep46, ib46, mk46, Tryd.f46, d]
        exact ⟨k + 1, by rw [IntWalk.i64_in _ (by omega)]; rfl, ⟨by omega, take_step hlt hlb hp he⟩, by omega⟩
      · have d := decide_eq_false he
        simp -dsimp -implicitDefEqProofs only [go_sem, ↓reduceIte, keep46, ib46, mk46, Tryd.f46, d]
        exact (decide_eq_false fun e => he (getElem_of_eq e hlt)).symm
    · have hk' : k = a.length := by omega
      subst hk'
      simp -dsimp -implicitDefEqProofs only [go_sem, ↓reduceIte, keep46, ib46, mk46, Tryd.f46, Nat.lt_irrefl]
      exact fun _ => (decide_eq_true (eq_of_take heq hp)).symm

def keep47 : List Nat := [0, 1, 4, 5, 10, 14, 25]
def ib47 : List Nat := []
def mk47 : Marks := fun id => match id with | 6 => ([], (.op 0 (.op 1 (.op 2 (.op 3 (.op 4 (.op 5 (.op 6 (.op 7 (.op 8 .nil))))))))), []) | _ => ([], .nil, [])
set_option maxRecDepth 100000 in
theorem eq_Int64S (a b : List Int) : Fn0 Tryd.prog 47 [(sls 1 (fun n => [I n]) a), (sls 1 (fun n => [I n]) b)] (.bool (decide (a = b))) := by
  refine fn0F 26 keep47 ib47 mk47 mix Tryd.func47 rfl (by kernel_rfl) (by simp) fun h => ?_
  simp -dsimp -implicitDefEqProofs only [go_sem, Tryd.f47, ↓reduceIte, keep47, ib47, mk47]
  refine fun _ _ => ⟨fun hne => ?_, fun heq => ?_⟩
  · exact (decide_eq_false fun e => hne (by rw [e])).symm
  · refine loopF (keep := keep47) (ib := ib47) (mk := mk47) mix (by kernel_rfl) (fun k : Nat => [(0, (sls 1 (fun n => [I n]) a)), (1, (sls 1 (fun n => [I n]) b)), (5, I k)]) (fun _ => h) (fun k => k ≤ a.length ∧ a.take k = b.take k) (fun k => a.length - k) 0 (by simp [SatL, tget, Heap.le_refl]) ?_
    intro k ⟨hk, hp⟩
    rcases Nat.lt_or_ge k a.length with hlt | hge
    · have hlb : k < b.length := by omega
      have ea : a[k]? = some a[k] := List.getElem?_eq_getElem hlt
      have eb : b[k]? = some b[k] := List.getElem?_eq_getElem hlb
      simp -dsimp -implicitDefEqProofs only [go_sem, ↓reduceIte, keep47, ib47, mk47, Tryd.f47, ea, eb]
      refine fun _ => ⟨fun _ => ⟨hlt, hlb, fun hne => ?_, fun he => ?_⟩, fun hn => absurd hlt hn⟩
      · first
          | exact (decide_eq_false fun e => hne (getElem_of_eq e hlt)).symm
          | exact (decide_eq_false fun e => by have := getElem_of_eq e hlt (hb := hlb); rw [this] at hne; simp at hne).symm
      · exact ⟨k + 1, by rw [IntWalk.i64_in _ (by omega)]; rfl, ⟨by omega, take_step hlt hlb hp (by first | exact he | simpa using he)⟩, by omega⟩
    · have hk' : k = a.length := by omega
      subst hk'
      simp -dsimp -implicitDefEqProofs only [go_sem, ↓reduceIte, keep47, ib47, mk47, Tryd.f47, Nat.lt_irrefl]
      exact fun _ => (decide_eq_true (eq_of_take heq hp)).symm

def keep18 : List Nat := [0, 1, 2, 3, 4, 9, 15, 21, 27]
def ib18 : List Nat := [2, 3]
def mk18 : Marks := fun _ => ([], .nil, [])
set_option maxRecDepth 100000 in
theorem eq_Tape (a b : DTape) : Fn0 Tryd.prog 18 [.agg a.c, .agg b.c] (.bool (decide (a = b))) := by
  simp only [DTape.c_eq]
  refine fn0F 28 keep18 ib18 mk18 mix Tryd.func18 rfl (by kernel_rfl) (by simp) fun h => ?_
  simp -dsimp -implicitDefEqProofs only [go_sem, Tryd.f18, ↓reduceIte, keep18, ib18, mk18]
  refine ⟨fun hn => (decide_eq_false fun e => hn (by rw [e])).symm, fun efInputs => ?_⟩
  refine HFnF.mk (eq_InstrS a.fCode b.fCode (fun x _ y => (eq_Instr x y))) ?_
  by_cases efCode : a.fCode = b.fCode
  case neg =>
    have d := decide_eq_false efCode
    simp -dsimp -implicitDefEqProofs only [go_sem, ↓reduceIte, keep18, ib18, mk18, Tryd.f18, d]
    exact (decide_eq_false fun e => efCode (by rw [e])).symm
  have dfCode := decide_eq_true efCode
  simp -dsimp -implicitDefEqProofs only [go_sem, ↓reduceIte, keep18, ib18, mk18, Tryd.f18, dfCode]
  refine HFnF.mk (eq_GuardS a.fGuards b.fGuards (fun x _ y => (eq_Guard x y))) ?_
  by_cases efGuards : a.fGuards = b.fGuards
  case neg =>
    have d := decide_eq_false efGuards
    simp -dsimp -implicitDefEqProofs only [go_sem, ↓reduceIte, keep18, ib18, mk18, Tryd.f18, d]
    exact (decide_eq_false fun e => efGuards (by rw [e])).symm
  have dfGuards := decide_eq_true efGuards
  simp -dsimp -implicitDefEqProofs only [go_sem, ↓reduceIte, keep18, ib18, mk18, Tryd.f18, dfGuards]
  refine HFnF.mk (eq_Int64S a.fOuts b.fOuts) ?_
  by_cases efOuts : a.fOuts = b.fOuts
  case neg =>
    have d := decide_eq_false efOuts
    simp -dsimp -implicitDefEqProofs only [go_sem, ↓reduceIte, keep18, ib18, mk18, Tryd.f18, d]
    exact (decide_eq_false fun e => efOuts (by rw [e])).symm
  have dfOuts := decide_eq_true efOuts
  simp -dsimp -implicitDefEqProofs only [go_sem, ↓reduceIte, keep18, ib18, mk18, Tryd.f18, dfOuts]
  exact (decide_eq_true (DTape.eq_iff.2 ⟨efInputs, efCode, efGuards, efOuts⟩)).symm


open Go.Proofs
set_option linter.unusedVariables false
set_option linter.unusedSimpArgs false
theorem bytes_injT {a b : List UInt8} : ((⟨a.toArray⟩ : ByteArray) = ⟨b.toArray⟩) ↔ a = b := by simp
/-- What a reader of a tape has read; the stage is 0 ahead of the first line, 1 among instructions, 2 among guards, 3 behind the last line. -/
structure TSt where
  inp : Int
  code : List DInstr
  guards : List DGuard
  outs : List Int
  stage : Int
def tapWl : List (List UInt8) := [[105, 110], [110, 117, 109], [97, 100, 100], [115, 117, 98], [109, 117, 108], [100, 105, 118], [110, 101, 103]]
def tapWord (k : Int) : List UInt8 := tapWl.getD (k - 1).toNat []
/-- The operation with a word, 0 if there is none. -/
def opOf (w : List UInt8) : Int := Go.Lib.idxOfS (tapWl.map fun s => (⟨s.toArray⟩ : ByteArray)) ⟨w.toArray⟩ + 1
theorem opOf_cases (w : List UInt8) : (opOf w = 0 ∧ ∀ k : Int, 1 ≤ k → k ≤ 7 → ¬ tapWord k = w) ∨ (1 ≤ opOf w ∧ opOf w ≤ 7 ∧ w = tapWord (opOf w)) := by
  by_cases h : ∃ k : Int, (1 ≤ k ∧ k ≤ 7) ∧ tapWord k = w
  · obtain ⟨k, hk, rfl⟩ := h
    right
    have : opOf (tapWord k) = k := by
      rcases (by omega : k = 1 ∨ k = 2 ∨ k = 3 ∨ k = 4 ∨ k = 5 ∨ k = 6 ∨ k = 7) with rfl | rfl | rfl | rfl | rfl | rfl | rfl
      all_goals decide
    rw [this]; exact ⟨hk.1, hk.2, rfl⟩
  · left
    have q : ∀ k : Int, 1 ≤ k → k ≤ 7 → ¬ tapWord k = w := fun k h1 h2 h3 => h ⟨k, ⟨h1, h2⟩, h3⟩
    refine ⟨?_, q⟩
    have h1 : ¬ [105, 110] = w := q 1 (by decide) (by decide)
    have h2 : ¬ [110, 117, 109] = w := q 2 (by decide) (by decide)
    have h3 : ¬ [97, 100, 100] = w := q 3 (by decide) (by decide)
    have h4 : ¬ [115, 117, 98] = w := q 4 (by decide) (by decide)
    have h5 : ¬ [109, 117, 108] = w := q 5 (by decide) (by decide)
    have h6 : ¬ [100, 105, 118] = w := q 6 (by decide) (by decide)
    have h7 : ¬ [110, 101, 103] = w := q 7 (by decide) (by decide)
    simp only [opOf, tapWl, List.map_cons, List.map_nil, Go.Lib.idxOfS, Go.Lib.idxFromS, bytes_injT]
    rw [if_neg h1, if_neg h2, if_neg h3, if_neg h4, if_neg h5, if_neg h6, if_neg h7]
    rfl
def wTape : List UInt8 := [116, 97, 112, 101]
def wZero : List UInt8 := [122, 101, 114, 111]
def wOther : List UInt8 := [111, 116, 104, 101, 114]
def wOut : List UInt8 := [111, 117, 116]
/-- The instruction of an operation and numbers; nothing if there are too few or too many. -/
def instrT (op : Int) (n : List Int) : Option DInstr :=
  if op ≤ 2 then (if n.length = 1 then some ⟨op, 0, 0, n.getD 0 0⟩ else none)
  else if op = 7 then (if n.length = 1 then some ⟨op, n.getD 0 0, 0, 0⟩ else none)
  else if n.length = 2 then some ⟨op, n.getD 0 0, n.getD 1 0, 0⟩ else none
/-- What a line with a word and numbers does to what has been read; nothing if it may not stand there. -/
def wordT (w : List UInt8) (n : List Int) (S : TSt) : Option TSt :=
  if w = wTape then (if S.stage = 0 ∧ n.length = 1 then some { S with inp := n.getD 0 0, stage := 1 } else none)
  else if w = wZero ∨ w = wOther then
    (if n.length = 1 ∧ (S.stage = 1 ∨ S.stage = 2) then some { S with guards := S.guards ++ [⟨n.getD 0 0, decide (w = wZero)⟩], stage := 2 } else none)
  else if w = wOut then (if S.stage = 1 ∨ S.stage = 2 then some { S with outs := n, stage := 3 } else none)
  else if opOf w = 0 then none
  else match instrT (opOf w) n with
    | none => none
    | some x => if S.stage = 1 then some { S with code := S.code ++ [x] } else none
/-- A line of a tape. -/
def lineT (s : List UInt8) (S : TSt) : Option TSt := match toNums 999999999 (spB 32 s).tail with
  | none => none
  | some n => if n = [] then none else wordT ((spB 32 s).headD []) n S
/-- impl cuts a line at its first space; what it finds is what spec finds. -/
theorem line_cut (s : List UInt8) (hs : s.length ≤ 50000) :
    (∃ w r, Go.Lib.cut s [32] = (w, r, true) ∧ (spB 32 s).headD [] = w ∧ ((toNums 999999999 (spB 32 s).tail = none ∧ (readL 100000 999999999 r = none ∨ readL 100000 999999999 r = some [])) ∨ ∃ n, ¬ n = [] ∧ toNums 999999999 (spB 32 s).tail = some n ∧ readL 100000 999999999 r = some n)) ∨
    ((Go.Lib.cut s [32]).2.2 = false ∧ (toNums 999999999 (spB 32 s).tail) = some []) := by
  rcases spB_cases 32 s with h | ⟨w, r, hw, rfl⟩
  · right
    rw [cut_miss 32 s h, spB_one s h]
    exact ⟨rfl, rfl⟩
  · left
    refine ⟨w, r, cut_hit 32 w r hw, ?_, ?_⟩
    · rw [spB_pre w r hw]; rfl
    · rw [spB_pre w r hw, List.tail_cons]
      rw [List.length_append, List.length_cons] at hs
      have hl := (spB_len 32 r).1
      by_cases hr : r = []
      · left
        subst hr
        refine ⟨?_, .inr (readL_nil.2 rfl)⟩
        rw [spB_nil, toNums, if_neg]
        intro q
        exact absurd (q [] (by simp)).2.2 (fun e => itoa_ne (q [] (by simp)).1 e.symm)
      · have e : readL 100000 999999999 r = toNums 999999999 (spB 32 r) := by
          rw [readL, if_neg hr, if_pos (by omega)]
        rw [e]
        cases hn : toNums 999999999 (spB 32 r) with
        | none => exact .inl ⟨rfl, .inl rfl⟩
        | some n =>
          refine .inr ⟨n, fun q => ?_, rfl, rfl⟩
          rw [q] at hn
          exact hr (readL_nil.1 (e.trans hn))
/-- The stage tells whether guards stand there. -/
def TSt.fit (S : TSt) : Prop := 0 ≤ S.stage ∧ S.stage ≤ 3 ∧ (S.stage ≤ 1 → S.guards = []) ∧ (S.stage = 2 → ¬ S.guards = [])
def TSt.none : TSt := ⟨0, [], [], [], 0⟩
theorem TSt.fit_none : TSt.none.fit := ⟨by decide, by decide, fun _ => rfl, fun q => absurd q (by decide)⟩
theorem wordT_fit {w : List UInt8} {n : List Int} {S S' : TSt} (h : S.fit) (e : wordT w n S = some S') : S'.fit := by
  obtain ⟨h0, h1, h2, h3⟩ := h
  unfold wordT at e
  split at e
  · split at e
    · rename_i q
      cases e; exact ⟨by simp, by simp, fun _ => h2 (by omega), fun z => by simp at z⟩
    · cases e
  · split at e
    · split at e
      · cases e; exact ⟨by simp, by simp, fun z => by simp at z, fun _ => by simp⟩
      · cases e
    · split at e
      · split at e
        · cases e; exact ⟨by simp, by simp, fun z => by simp at z, fun z => by simp at z⟩
        · cases e
      · split at e
        · cases e
        · split at e
          · cases e
          · split at e
            · cases e; exact ⟨h0, h1, h2, h3⟩
            · cases e
theorem lineT_fit {s : List UInt8} {S S' : TSt} (h : S.fit) (e : lineT s S = some S') : S'.fit := by
  unfold lineT at e
  split at e
  · cases e
  · split at e
    · cases e
    · exact wordT_fit h e
open Go.Proofs
set_option linter.unusedVariables false
set_option linter.unusedSimpArgs false
/-- What has been written: instructions, numbers, guards. -/
structure RSt where
  code : List DInstr
  vals : List Int
  guards : List DGuard
def RSt.guard (S : RSt) (g : DGuard) : RSt := ⟨S.code, S.vals, S.guards ++ [g]⟩
def RSt.addc (S : RSt) (c : DInstr) : RSt := ⟨S.code ++ [c], S.vals, S.guards⟩
/-- An own row, or nothing. -/
def oRow (h : Heap) (sz : Nat) (rows : List (List Cell)) : Option Nat → Prop
  | none => rows = []
  | some m => rows ≠ [] ∧ h m = some (.row sz rows)
def rowsOf {α : Type} (c : α → List HVal) (l : List α) : List (List Cell) := (l.map c).map (List.map .v)
theorem rowsOf_len {α : Type} (c : α → List HVal) (l : List α) : (rowsOf c l).length = l.length := by simp [rowsOf]
theorem rowsOf_snoc {α : Type} (c : α → List HVal) (l : List α) (x : α) : rowsOf c (l ++ [x]) = rowsOf c l ++ [(c x).map .v] := by simp [rowsOf]
theorem rowsOf_nil {α : Type} {c : α → List HVal} {l : List α} : rowsOf c l = [] ↔ l = [] := by simp [rowsOf]
/-- The recorder in memory: its box and what it has written; bx tells what the box holds. -/
structure RecG (bx : RSt → Option Nat → Option Nat → Option Nat → HObj) (h0 : Heap) (nb : Nat) (S : RSt) (om og ov : Option Nat) (h : Heap) : Prop where
  box : h nb = some (bx S om og ov)
  odd : ∀ S om og ov, ∃ sz cs, bx S om og ov = .row sz cs ∧ ¬ sz = 1 ∧ ¬ sz = 2 ∧ ¬ sz = 4
  code : oRow h 4 (rowsOf DInstr.c S.code) om
  gds : oRow h 2 (rowsOf DGuard.c S.guards) og
  vals : oRow h 1 (rowsOf (fun n => [I n]) S.vals) ov
  fresh : ∀ n, n = nb ∨ some n = om ∨ some n = og ∨ some n = ov → h0 n = none
  upto : ∀ n, ¬ n = nb → ¬ some n = om → ¬ some n = og → ¬ some n = ov → h n = h0 n
def RecInG (bx : RSt → Option Nat → Option Nat → Option Nat → HObj) (h0 : Heap) (nb : Nat) (S : RSt) (h : Heap) : Prop := ∃ om og ov, RecG bx h0 nb S om og ov h
theorem RecG.kinds {h0 h : Heap} {nb : Nat} {bx : RSt → Option Nat → Option Nat → Option Nat → HObj} {S : RSt} {om og ov : Option Nat} (H : RecG bx h0 nb S om og ov h) (n : Nat) :
    (n = nb → h n = some (bx S om og ov)) ∧ (some n = om → h n = some (.row 4 (rowsOf DInstr.c S.code))) ∧ (some n = og → h n = some (.row 2 (rowsOf DGuard.c S.guards))) ∧ (some n = ov → h n = some (.row 1 (rowsOf (fun n => [I n]) S.vals))) :=
  ⟨fun e => e ▸ H.box, fun e => by have := H.code; rw [← e] at this; exact this.2, fun e => by have := H.gds; rw [← e] at this; exact this.2, fun e => by have := H.vals; rw [← e] at this; exact this.2⟩
/-- No name stands for two rows. -/
theorem RecG.apart {h0 h : Heap} {nb : Nat} {bx : RSt → Option Nat → Option Nat → Option Nat → HObj} {S : RSt} {om og ov : Option Nat} (H : RecG bx h0 nb S om og ov h) (n : Nat) :
    (n = nb → ¬ some n = om ∧ ¬ some n = og ∧ ¬ some n = ov) ∧ (some n = om → ¬ some n = og ∧ ¬ some n = ov) ∧ (some n = og → ¬ some n = ov) ∧ (h n = none → ¬ n = nb ∧ ¬ some n = om ∧ ¬ some n = og ∧ ¬ some n = ov) := by
  obtain ⟨k1, k2, k3, k4⟩ := H.kinds n
  obtain ⟨sz, cs, hB, o1, o2, o4⟩ := H.odd S om og ov
  rw [hB] at k1
  refine ⟨fun e => ⟨fun q => ?_, fun q => ?_, fun q => ?_⟩, fun e => ⟨fun q => ?_, fun q => ?_⟩, fun e q => ?_, fun e => ⟨fun q => ?_, fun q => ?_, fun q => ?_, fun q => ?_⟩⟩
  · have := (k1 e).symm.trans (k2 q); simp at this; exact o4 this.1
  · have := (k1 e).symm.trans (k3 q); simp at this; exact o2 this.1
  · have := (k1 e).symm.trans (k4 q); simp at this; exact o1 this.1
  · have := (k2 e).symm.trans (k3 q); simp at this
  · have := (k2 e).symm.trans (k4 q); simp at this
  · have := (k3 e).symm.trans (k4 q); simp at this
  · have := (k1 q); rw [e] at this; cases this
  · have := (k2 q); rw [e] at this; cases this
  · have := (k3 q); rw [e] at this; cases this
  · have := (k4 q); rw [e] at this; cases this
theorem RecG.base {h0 h : Heap} {nb : Nat} {bx : RSt → Option Nat → Option Nat → Option Nat → HObj} {S : RSt} {om og ov : Option Nat} {m : Nat} {o : HObj} (H : RecG bx (upd h0 m o) nb S om og ov h) (hm : h0 m = none) : ∃ g, h = upd g m o ∧ g m = none ∧ RecG bx h0 nb S om og ov g := by
  have hne : ∀ n, (n = nb ∨ some n = om ∨ some n = og ∨ some n = ov) → ¬ n = m := fun n hn e => by
    have := H.fresh n hn
    rw [e, upd_same] at this; cases this
  have hmo : h m = some o := (H.upto m (fun e => hne m (.inl e) rfl) (fun e => hne m (.inr (.inl e)) rfl) (fun e => hne m (.inr (.inr (.inl e))) rfl) (fun e => hne m (.inr (.inr (.inr e))) rfl)).trans (upd_same _ _ _)
  have get : ∀ n, ¬ n = m → (fun n => if n = m then none else h n) n = h n := fun n hn => if_neg hn
  have hr : ∀ (q : Option Nat) (sz : Nat) (rows : List (List Cell)), (∀ n, some n = q → ¬ n = m) → oRow h sz rows q → oRow (fun n => if n = m then none else h n) sz rows q := fun q sz rows hn ho => by
    cases q with
    | none => exact ho
    | some k => exact ⟨ho.1, (get k (hn k rfl)).trans ho.2⟩
  refine ⟨fun n => if n = m then none else h n, ?_, if_pos rfl, (get nb (hne nb (.inl rfl))).trans H.box, H.odd, hr _ _ _ (fun n e => hne n (.inr (.inl e))) H.code, hr _ _ _ (fun n e => hne n (.inr (.inr (.inl e)))) H.gds, hr _ _ _ (fun n e => hne n (.inr (.inr (.inr e)))) H.vals, fun n hn => ?_, fun n h1 h2 h3 h4 => ?_⟩
  · funext n
    by_cases e : n = m
    · rw [e, upd_same, hmo]
    · rw [upd_ne _ _ _ _ e]; exact (get n e).symm
  · have := H.fresh n hn
    rwa [upd_ne _ _ _ _ (hne n hn)] at this
  · by_cases e : n = m
    · subst e; exact (if_pos rfl).trans hm.symm
    · have := H.upto n h1 h2 h3 h4
      rw [upd_ne _ _ _ _ e] at this
      exact (get n e).trans this
theorem RecInG.none {h0 h : Heap} {nb : Nat} {bx : RSt → Option Nat → Option Nat → Option Nat → HObj} {S : RSt} (H : RecInG bx h0 nb S h) {m : Nat} (hm : h m = none) : h0 m = none := by
  obtain ⟨om, og, ov, H⟩ := H
  have a := (H.apart m).2.2.2 hm
  exact (H.upto m a.1 a.2.1 a.2.2.1 a.2.2.2).symm.trans hm
/-- What has been written changes: some rows are new, some are given up. -/
theorem RecG.move {h0 h F : Heap} {nb : Nat} {bx bx' : RSt → Option Nat → Option Nat → Option Nat → HObj} {S S' : RSt} {om og ov om' og' ov' : Option Nat} (H : RecG bx h0 nb S om og ov h)
    (odd' : ∀ S om og ov, ∃ sz cs, bx' S om og ov = .row sz cs ∧ ¬ sz = 1 ∧ ¬ sz = 2 ∧ ¬ sz = 4)
    (f1 : F nb = some (bx' S' om' og' ov')) (c1 : oRow F 4 (rowsOf DInstr.c S'.code) om') (c2 : oRow F 2 (rowsOf DGuard.c S'.guards) og') (c3 : oRow F 1 (rowsOf (fun n => [I n]) S'.vals) ov')
    (nw : ∀ n, (some n = om' ∨ some n = og' ∨ some n = ov') → (some n = om ∨ some n = og ∨ some n = ov) ∨ h n = none)
    (f4 : ∀ n, ¬ n = nb → ¬ (some n = om ∨ some n = og ∨ some n = ov) → ¬ (some n = om' ∨ some n = og' ∨ some n = ov') → F n = h n) : ∃ g : Heap, g.le F ∧ RecG bx' h0 nb S' om' og' ov' g := by
  have a1 := (H.apart nb).1 rfl
  have gN : ∀ n, (some n = om' ∨ some n = og' ∨ some n = ov') → (fun n => if (some n = om ∨ some n = og ∨ some n = ov) ∧ ¬ (some n = om' ∨ some n = og' ∨ some n = ov') then none else F n) n = F n := fun n hn => if_neg fun q => q.2 hn
  have gO : ∀ n, ¬ (some n = om ∨ some n = og ∨ some n = ov) → (fun n => if (some n = om ∨ some n = og ∨ some n = ov) ∧ ¬ (some n = om' ∨ some n = og' ∨ some n = ov') then none else F n) n = F n := fun n hn => if_neg fun q => hn q.1
  have hr : ∀ (q : Option Nat) (sz : Nat) (rows : List (List Cell)), (∀ n, some n = q → some n = om' ∨ some n = og' ∨ some n = ov') → oRow F sz rows q → oRow (fun n => if (some n = om ∨ some n = og ∨ some n = ov) ∧ ¬ (some n = om' ∨ some n = og' ∨ some n = ov') then none else F n) sz rows q := fun q sz rows hn ho => by
    cases q with
    | none => exact ho
    | some k => exact ⟨ho.1, (gN k (hn k rfl)).trans ho.2⟩
  have hO : ∀ n, (some n = om ∨ some n = og ∨ some n = ov) → h0 n = none := fun n hn => H.fresh n (.inr hn)
  refine ⟨fun n => if (some n = om ∨ some n = og ∨ some n = ov) ∧ ¬ (some n = om' ∨ some n = og' ∨ some n = ov') then none else F n, fun n => ?_, ⟨?_, odd', hr _ _ _ (fun n e => .inl e) c1, hr _ _ _ (fun n e => .inr (.inl e)) c2, hr _ _ _ (fun n e => .inr (.inr e)) c3, fun n hn => ?_, fun n h1 h2 h3 h4 => ?_⟩⟩
  · by_cases e : (some n = om ∨ some n = og ∨ some n = ov) ∧ ¬ (some n = om' ∨ some n = og' ∨ some n = ov')
    · exact .inl (if_pos e)
    · exact .inr (if_neg e)
  · exact (gO nb (by rintro (q | q | q); exact a1.1 q; exact a1.2.1 q; exact a1.2.2 q)).trans f1
  · rcases hn with rfl | hn
    · exact H.fresh _ (.inl rfl)
    · rcases nw n hn with q | q
      · exact hO n q
      · exact RecInG.none ⟨om, og, ov, H⟩ q
  · have hN : ¬ (some n = om' ∨ some n = og' ∨ some n = ov') := by rintro (q | q | q); exact h2 q; exact h3 q; exact h4 q
    by_cases e : some n = om ∨ some n = og ∨ some n = ov
    · exact (if_pos ⟨e, hN⟩).trans (hO n e).symm
    · exact ((gO n e).trans (f4 n h1 e hN)).trans (H.upto n h1 (fun q => e (.inl q)) (fun q => e (.inr (.inl q))) (fun q => e (.inr (.inr q))))
theorem RecG.re {h0 h : Heap} {nb : Nat} {bx bx' : RSt → Option Nat → Option Nat → Option Nat → HObj} {S : RSt} {om og ov : Option Nat} (H : RecG bx h0 nb S om og ov h) (odd' : ∀ S om og ov, ∃ sz cs, bx' S om og ov = .row sz cs ∧ ¬ sz = 1 ∧ ¬ sz = 2 ∧ ¬ sz = 4) : RecG bx' h0 nb S om og ov (upd h nb (bx' S om og ov)) := by
  have a1 := (H.apart nb).1 rfl
  have hr : ∀ (o : Option Nat) (sz : Nat) (rows : List (List Cell)), ¬ some nb = o → oRow h sz rows o → oRow (upd h nb (bx' S om og ov)) sz rows o := fun o sz rows hn ho => by
    cases o with
    | none => exact ho
    | some m => exact ⟨ho.1, (upd_ne _ _ _ _ fun q => hn (by rw [q])).trans ho.2⟩
  exact ⟨upd_same _ _ _, odd', hr _ _ _ a1.1 H.code, hr _ _ _ a1.2.1 H.gds, hr _ _ _ a1.2.2 H.vals, H.fresh, fun n h1 h2 h3 h4 => (upd_ne _ _ _ _ h1).trans (H.upto n h1 h2 h3 h4)⟩
theorem RecInG.le {h0 h : Heap} {nb : Nat} {bx : RSt → Option Nat → Option Nat → Option Nat → HObj} {S : RSt} (H : RecInG bx h0 nb S h) : h0.le h := fun n => by
  obtain ⟨om, og, ov, H⟩ := H
  by_cases e : n = nb ∨ some n = om ∨ some n = og ∨ some n = ov
  · exact .inl (H.fresh n e)
  · exact .inr (H.upto n (fun q => e (.inl q)) (fun q => e (.inr (.inl q))) (fun q => e (.inr (.inr (.inl q)))) (fun q => e (.inr (.inr (.inr q))))).symm
theorem RecG.addg {h0 h F : Heap} {nb : Nat} {bx bx' : RSt → Option Nat → Option Nat → Option Nat → HObj} {S : RSt} {om og ov : Option Nat} (H : RecG bx h0 nb S om og ov h) (x : DGuard) {b : Nat} (hb : h b = none)
    (odd' : ∀ S om og ov, ∃ sz cs, bx' S om og ov = .row sz cs ∧ ¬ sz = 1 ∧ ¬ sz = 2 ∧ ¬ sz = 4)
    (f1 : F nb = some (bx' (S.guard x) om (some b) ov)) (f2 : F b = some (.row 2 (rowsOf DGuard.c (S.guards ++ [x]))))
    (f4 : ∀ n, ¬ n = nb → ¬ n = b → ¬ some n = og → F n = h n) : ∃ g : Heap, g.le F ∧ RecG bx' h0 nb (S.guard x) om (some b) ov g := by
  have keep : ∀ (q : Option Nat) (sz : Nat) (rows : List (List Cell)), (∀ k, some k = q → ¬ k = nb ∧ ¬ some k = og) → oRow h sz rows q → oRow F sz rows q := fun q sz rows hn ho => by
    cases q with
    | none => exact ho
    | some k => exact ⟨ho.1, (f4 k (hn k rfl).1 (fun e => by rw [← e, ho.2] at hb; cases hb) (hn k rfl).2).trans ho.2⟩
  refine H.move odd' f1 (keep om 4 _ (fun k e => ⟨fun q => ((H.apart k).1 q).1 e, ((H.apart k).2.1 e).1⟩) H.code) ⟨by simp [rowsOf, RSt.guard], f2⟩ (keep ov 1 _ (fun k e => ⟨fun q => ((H.apart k).1 q).2.2 e, fun q => (H.apart k).2.2.1 q e⟩) H.vals) (fun n hn => ?_) fun n h1 hO hN => f4 n h1 (fun e => hN (.inr (.inl (by rw [e])))) (fun e => hO (.inr (.inl e)))
  rcases hn with q | q | q
  · exact .inl (.inl q)
  · obtain rfl := Option.some.inj q; exact .inr hb
  · exact .inl (.inr (.inr q))
theorem RecG.addc {h0 h F : Heap} {nb : Nat} {bx bx' : RSt → Option Nat → Option Nat → Option Nat → HObj} {S : RSt} {om og ov : Option Nat} (H : RecG bx h0 nb S om og ov h) (x : DInstr) {b : Nat} (hb : h b = none)
    (odd' : ∀ S om og ov, ∃ sz cs, bx' S om og ov = .row sz cs ∧ ¬ sz = 1 ∧ ¬ sz = 2 ∧ ¬ sz = 4)
    (f1 : F nb = some (bx' (S.addc x) (some b) og ov)) (f2 : F b = some (.row 4 (rowsOf DInstr.c (S.code ++ [x]))))
    (f4 : ∀ n, ¬ n = nb → ¬ n = b → ¬ some n = om → F n = h n) : ∃ g : Heap, g.le F ∧ RecG bx' h0 nb (S.addc x) (some b) og ov g := by
  have keep : ∀ (q : Option Nat) (sz : Nat) (rows : List (List Cell)), (∀ k, some k = q → ¬ k = nb ∧ ¬ some k = om) → oRow h sz rows q → oRow F sz rows q := fun q sz rows hn ho => by
    cases q with
    | none => exact ho
    | some k => exact ⟨ho.1, (f4 k (hn k rfl).1 (fun e => by rw [← e, ho.2] at hb; cases hb) (hn k rfl).2).trans ho.2⟩
  refine H.move odd' f1 ⟨by simp [rowsOf, RSt.addc], f2⟩ (keep og 2 _ (fun k e => ⟨fun q => ((H.apart k).1 q).2.1 e, fun q => ((H.apart k).2.1 q).1 e⟩) H.gds) (keep ov 1 _ (fun k e => ⟨fun q => ((H.apart k).1 q).2.2 e, fun q => ((H.apart k).2.1 q).2 e⟩) H.vals) (fun n hn => ?_) fun n h1 hO hN => f4 n h1 (fun e => hN (.inl (by rw [e]))) (fun e => hO (.inl e))
  rcases hn with q | q | q
  · obtain rfl := Option.some.inj q; exact .inr hb
  · exact .inl (.inr (.inl q))
  · exact .inl (.inr (.inr q))
theorem RecG.seto {h0 h F : Heap} {nb : Nat} {bx bx' : RSt → Option Nat → Option Nat → Option Nat → HObj} {S : RSt} {om og ov : Option Nat} (H : RecG bx h0 nb S om og ov h) (l : List Int) {b : Nat} (hb : h b = none) (hl : ¬ l = [])
    (odd' : ∀ S om og ov, ∃ sz cs, bx' S om og ov = .row sz cs ∧ ¬ sz = 1 ∧ ¬ sz = 2 ∧ ¬ sz = 4)
    (f1 : F nb = some (bx' ⟨S.code, l, S.guards⟩ om og (some b))) (f2 : F b = some (.row 1 (rowsOf (fun n => [I n]) l)))
    (f4 : ∀ n, ¬ n = nb → ¬ n = b → ¬ some n = ov → F n = h n) : ∃ g : Heap, g.le F ∧ RecG bx' h0 nb ⟨S.code, l, S.guards⟩ om og (some b) g := by
  have keep : ∀ (q : Option Nat) (sz : Nat) (rows : List (List Cell)), (∀ k, some k = q → ¬ k = nb ∧ ¬ some k = ov) → oRow h sz rows q → oRow F sz rows q := fun q sz rows hn ho => by
    cases q with
    | none => exact ho
    | some k => exact ⟨ho.1, (f4 k (hn k rfl).1 (fun e => by rw [← e, ho.2] at hb; cases hb) (hn k rfl).2).trans ho.2⟩
  refine H.move odd' f1 (keep om 4 _ (fun k e => ⟨fun q => ((H.apart k).1 q).1 e, ((H.apart k).2.1 e).2⟩) H.code) (keep og 2 _ (fun k e => ⟨fun q => ((H.apart k).1 q).2.1 e, (H.apart k).2.2.1 e⟩) H.gds) ⟨fun q => hl (rowsOf_nil.1 q), f2⟩ (fun n hn => ?_) fun n h1 hO hN => f4 n h1 (fun e => hN (.inr (.inr (by rw [e])))) (fun e => hO (.inr (.inr e)))
  rcases hn with q | q | q
  · exact .inl (.inl q)
  · exact .inl (.inr (.inl q))
  · obtain rfl := Option.some.inj q; exact .inr hb
/-- impl's reader: a tape's four cells, whether it has begun, whether it has ended. -/
def tapBox (inp : Int) (b e : Bool) (S : RSt) (om og ov : Option Nat) : HObj :=
  .row 6 [[.v (I inp), .v (onil 4 S.code.length om), .v (onil 2 S.guards.length og), .v (onil 1 S.vals.length ov), .v (.bool b), .v (.bool e)]]
theorem tapBox_odd (inp : Int) (b e : Bool) : ∀ S om og ov, ∃ sz cs, tapBox inp b e S om og ov = .row sz cs ∧ ¬ sz = 1 ∧ ¬ sz = 2 ∧ ¬ sz = 4 := fun S om og ov => ⟨6, _, rfl, by decide, by decide, by decide⟩
/-- spec's reader: a tape's four cells, and the stage. -/
def stgBox (inp : Int) (st : Int) (S : RSt) (om og ov : Option Nat) : HObj :=
  .row 5 [[.v (I inp), .v (onil 4 S.code.length om), .v (onil 2 S.guards.length og), .v (onil 1 S.vals.length ov), .v (I st)]]
theorem stgBox_odd (inp : Int) (st : Int) : ∀ S om og ov, ∃ sz cs, stgBox inp st S om og ov = .row sz cs ∧ ¬ sz = 1 ∧ ¬ sz = 2 ∧ ¬ sz = 4 := fun S om og ov => ⟨5, _, rfl, by decide, by decide, by decide⟩
def TSt.r (S : TSt) : RSt := ⟨S.code, S.outs, S.guards⟩
abbrev TapIn (h0 : Heap) (nb : Nat) (S : TSt) (h : Heap) : Prop := RecInG (tapBox S.inp (decide (1 ≤ S.stage)) (decide (S.stage = 3))) h0 nb S.r h
abbrev StgIn (h0 : Heap) (nb : Nat) (S : TSt) (h : Heap) : Prop := RecInG (stgBox S.inp S.stage) h0 nb S.r h
end Go.Hl

/-
  Contracts of functions and laws of the layer over the walk.
-/
import Derived.Test.YtpnelljgohjjdaaDoorVvA
import Derived.Test.YtpnelljgohjjdaaDoorHlD
namespace Go.Hl
open Go.Proofs
set_option linter.unusedVariables false
set_option linter.unusedSimpArgs false
theorem uU {E : Env} {h : Heap} {w : World} (x : LaidIn E h w) : ∃ m, w.cell? ⟨0, 0, none⟩ = some (.int .i64 m) := by
 obtain ⟨cs, h1, m, h2⟩ := x.cell (g := 0) (Q := fun cs => ∃ m, cs[0]? = some (.int .i64 m)) (by unfold c7; exact List.mem_cons_of_mem _ (List.mem_cons_of_mem _ (List.mem_cons_of_mem _ List.mem_cons_self)))
 exact ⟨m, (h1 0).trans h2⟩
theorem zP {E : Env} {h : Heap} {w : World} (x : LaidIn E h w) : ∃ v, w.cell? ⟨1, 0, none⟩ = some v ∧ (v = .nilIface ∨ ∃ te pe, v = .iface te pe) := by
 obtain ⟨cs, h1, v, h2, h3⟩ := x.cell (g := 1) (Q := fun cs => ∃ v, cs[0]? = some v ∧ (v = .nilIface ∨ ∃ te pe, v = .iface te pe)) (by unfold c7; exact List.mem_cons_of_mem _ List.mem_cons_self)
 exact ⟨v, (h1 0).trans h2, h3⟩
theorem zQ {E : Env} {h : Heap} {w : World} (x : LaidIn E h w) : ∃ v, w.cell? ⟨2, 0, none⟩ = some v ∧ (v = .nilIface ∨ ∃ te pe, v = .iface te pe) := by
 obtain ⟨cs, h1, v, h2, h3⟩ := x.cell (g := 2) (Q := fun cs => ∃ v, cs[0]? = some v ∧ (v = .nilIface ∨ ∃ te pe, v = .iface te pe)) (by unfold c7; exact List.mem_cons_of_mem _ (List.mem_cons_of_mem _ List.mem_cons_self))
 exact ⟨v, (h1 0).trans h2, h3⟩
theorem uV (B : Nat) (w : World) (n : Nat) : Go.RowKit.Below B w (w.drewN n) := ⟨rfl, rfl, rfl, Nat.le_refl _, fun _ _ => rfl⟩
theorem w2 (a sep : List UInt8) : (Go.Lib.cut a sep).1.length ≤ a.length ∧ (Go.Lib.cut a sep).2.1.length ≤ a.length := by
 unfold Go.Lib.cut
 split
 ·simp only [List.length_take, List.length_drop]; omega
 ·simp
theorem aP.bY {E : Env} {h : Heap} {w : World} {xs : List aA} {vs : List Value} (r : aP E h w xs vs) : aZ E h w (.bY xs) (.tuple vs.toArray) := .bY _ _ r.length r.get
theorem aMN (a sep : List UInt8) (ha : a.length < 4294967281) : dV Tryd.prog 22 [.str a, .str sep] (.bY [.str (Go.Lib.cut a sep).1, .str (Go.Lib.cut a sep).2.1, .bool (Go.Lib.cut a sep).2.2]) :=
 kY (by kernel_rfl) fun E h w vs R rl => by
  match vs, rl with
  | [v0, v1], rl =>
   obtain ⟨r0, r1, _⟩ := rl
   obtain ⟨rfl, h0⟩ := cP r0
   obtain ⟨rfl, h1⟩ := cP r1
   obtain ⟨m, hm⟩ := uU R.laid
   have hl := w2 a sep
   refine (Go.Proofs.Tryd.strings_Cut ⟨a.toArray⟩ ⟨sep.toArray⟩ m w (by simpa [ByteArray.size] using ha) hm).mono fun e w' ⟨he, n, hw⟩ => ⟨_, he, fun E' h' w' => ?_, hw ▸ uV _ w n⟩
   exact aP.bY (xs := [_, _, _]) (vs := [_, _, _]) ⟨.str _ (by simp only [maxLen]; omega), .str _ (by simp only [maxLen]; omega), .bool _, trivial⟩
def uW (s : List UInt8) : aA := match Go.Lib.parseIntB 64 s with | .ok _ => .cK | _ => .iface 119 .any
theorem zR (s : List UInt8) (hs : s.length ≤ 281474976710656) : dV Tryd.prog 64 [.str s, I 10, I 64] (.bY [I (k5 s), uW s]) :=
 kY (by kernel_rfl) fun E h w vs R rl => by
  match vs, rl with
  | [v0, v1, v2], rl =>
   obtain ⟨r0, r1, r2, _⟩ := rl
   obtain ⟨rfl, h0⟩ := cP r0
   rw [bP r1, bP r2]
   have hz : (⟨s.toArray⟩ : ByteArray).size ≤ 281474976710656 := by simpa [ByteArray.size] using hs
   unfold k5 uW
   cases e : Go.Lib.parseIntB 64 s with
   |ok v =>
    refine (Go.Proofs.Tryd.strconv_ParseInt_10_at64_ok ⟨s.toArray⟩ (by omega) v e w).mono fun e w' ⟨he, hw⟩ => ⟨_, he, fun E' h' w' => aP.bY (xs := [_, _]) (vs := [_, _]) ⟨.int _ _, .cK, trivial⟩, ?_⟩
    rcases hw with rfl | ⟨t, rfl⟩
    ·exact Go.RowKit.Below.refl _ _
    ·exact ⟨rfl, rfl, rfl, by rw [Go.Lib.bytesWorld_size]; omega, fun j hj => Go.Lib.bytesWorld_at_old w _ t j hj⟩
   | «syntax» =>
    obtain ⟨ev, hv, nK⟩ := zP R.laid
    exact (Go.Proofs.Tryd.strconv_ParseInt_10_at64_syntax ⟨s.toArray⟩ hz e _ w hv nK).mono fun e w' ⟨N, he, _, _, hw⟩ => ⟨_, he, fun E' h' w' => aP.bY (xs := [_, _]) (vs := [_, _]) ⟨.int _ _, .iface _ _ _ (.any _), trivial⟩, hw⟩
   |range =>
    obtain ⟨ev, hv, nK⟩ := zQ R.laid
    exact (Go.Proofs.Tryd.strconv_ParseInt_10_at64_range ⟨s.toArray⟩ hz e _ w hv nK).mono fun e w' ⟨N, he, _, _, hw⟩ => ⟨_, he, fun E' h' w' => aP.bY (xs := [_, _]) (vs := [_, _]) ⟨.int _ _, .iface _ _ _ (.any _), trivial⟩, hw⟩
theorem zS {P : Program} {f : FuncId} {args : List aA} {l : List (List UInt8)} (hc : dG P f = true) (hlen : l.length ≤ maxLen) (hs : ∀ s ∈ l, s.length ≤ maxLen)
  (H : ∀ E h w vs, Rel E h w → aP E h w args vs → Calls P f vs.toArray w fun e w' => ∃ t, e = .returned (.slice (some ⟨w.heap.size, 0, none⟩) l.length l.length) ∧ w' = w.alloc (.cells (l.map fun s => Value.string ⟨s.toArray⟩).toArray t)) : dV P f args (lN 1 (fun s => [.str s]) l) := fun h =>
 ⟨hc, fun E w vs R rl => (H E h w vs R rl).mono fun e w' q => by
  obtain ⟨t, rfl, rfl⟩ := q
  have bel : Go.RowKit.Below w.heap.size w (w.alloc (.cells (l.map fun s => Value.string ⟨s.toArray⟩).toArray t)) := (Go.RowKit.Below.refl _ w).alloc (Nat.le_refl _) _
  have hb : (w.alloc (.cells (l.map fun s => Value.string ⟨s.toArray⟩).toArray t)).heap[w.heap.size]? = some (.cells (l.map fun s => Value.string ⟨s.toArray⟩).toArray t) := by
   show (w.heap.push _)[w.heap.size]? = _
   simp
  refine ⟨_, h, E, ⟨rfl, rfl⟩, p1 bel, rH R bel, ?_⟩
  have hat : ∀ (i j : Nat) (x : aA), b9 (l.map fun s => [aA.str s]) i j = some x → ∃ s, l[i]? = some s ∧ j = 0 ∧ x = .str s := fun i j x hx => by
   obtain ⟨e, he, hj⟩ := dF hx
   rw [List.getElem?_map] at he
   obtain ⟨s, hs, rfl⟩ := Option.map_eq_some_iff.1 he
   cases j with
   |zero => exact ⟨s, hs, rfl, (Option.some.inj hj).symm⟩
   |succ j => simp at hj
  have := aZ.sl (E := E) (h := h) (w := w.alloc (.cells (l.map fun s => Value.string ⟨s.toArray⟩).toArray t)) 1 (l.map fun s => [aA.str s]) false w.heap.size 0 l.length (fun i _ => ((l.map fun s => Value.string ⟨s.toArray⟩)[i]?).getD .nilFunc) ⟨by show _ < (w.heap.push _).size; simp, fun n o hn ho hf => Nat.lt_irrefl _ (R.lt n o _ hn ho hf)⟩ (by simp) hlen (fun q => by cases q) (fun e he => by obtain ⟨s, _, rfl⟩ := List.mem_map.1 he; rfl)
   (fun i j x hx => by
    obtain ⟨s, h1, rfl, rfl⟩ := hat i j x hx
    simp only [World.cell?, hb]
    simp [h1])
   (fun i j x hx => by
    obtain ⟨s, h1, rfl, rfl⟩ := hat i j x hx
    simp [h1, Value.oneCell'])
   (fun i j x hx => by
    obtain ⟨s, h1, rfl, rfl⟩ := hat i j x hx
    simp only [List.getElem?_map, h1, Option.map_some, Option.getD_some]
    exact .str s (hs s (List.mem_of_getElem? h1)))
  rw [List.length_map] at this
  exact this⟩
theorem oF (c : UInt8) (a : List UInt8) : (dT c a).length ≤ a.length + 1 ∧ ∀ s ∈ dT c a, s.length ≤ a.length := by
 induction hn : a.length using Nat.strongRecOn generalizing a with
 | _ n ih =>
  rcases iW c a with h | ⟨p, r, h1, rfl⟩
  ·rw [jM a h]; exact ⟨by simp, fun s hs => by rw [List.mem_singleton.1 hs]; omega⟩
  ·rw [kZ p r h1]
   obtain ⟨h2, h3⟩ := ih r.length (by rw [← hn]; simp; omega) r rfl
   simp only [List.length_append, List.length_cons] at hn
   refine ⟨by simp only [List.length_cons]; omega, fun s hs => ?_⟩
   rcases List.mem_cons.1 hs with rfl | hs
   ·omega
   ·have := h3 s hs; omega
theorem nX (a : List UInt8) (c : UInt8) : (Go.Lib.splitB ⟨[c].toArray⟩ 0 (Go.Lib.countB ⟨a.toArray⟩ ⟨[c].toArray⟩) ⟨a.toArray⟩).map Value.string = (dT c a).map fun s => Value.string ⟨s.toArray⟩ := by
 have h1 := Go.Lib.splitB_data ⟨[c].toArray⟩ 0 (Go.Lib.countB ⟨a.toArray⟩ ⟨[c].toArray⟩) ⟨a.toArray⟩
 have h2 : Go.Lib.splitK [c] 0 (Go.Lib.countB ⟨a.toArray⟩ ⟨[c].toArray⟩) a = dT c a := xS c a
 rw [← h2, ← h1, List.map_map]
 refine List.map_congr_left fun b _ => ?_
 simp
theorem aEM (a : List UInt8) (c : UInt8) (ha : a.length < 4294967281) : dV Tryd.prog 33 [.str a, .str [c]] (lN 1 (fun s => [.str s]) (dT c a)) := by
 have hl := oF c a
 refine zS (by kernel_rfl) (by simp only [maxLen]; omega) (fun s hs => by have := hl.2 s hs; simp only [maxLen]; omega) fun E h w vs R rl => ?_
 match vs, rl with
 | [v0, v1], rl =>
  obtain ⟨r0, r1, _⟩ := rl
  obtain ⟨rfl, h0⟩ := cP r0
  obtain ⟨rfl, h1⟩ := cP r1
  obtain ⟨m, hm⟩ := uU R.laid
  have hn : Go.Lib.countB ⟨a.toArray⟩ ⟨[c].toArray⟩ + 1 = (dT c a).length := by
   have h2 := Go.Lib.splitB_all ⟨[c].toArray⟩ (by show 1 ≤ [c].length; simp) 0 _ ⟨a.toArray⟩ rfl
   have h3 := congrArg List.length (nX a c)
   rw [List.length_map, List.length_map] at h3
   rw [← h3]; exact h2.symm
  refine (Go.Proofs.Tryd.strings_Split ⟨a.toArray⟩ ⟨[c].toArray⟩ m w (by simpa [ByteArray.size] using ha) hm (by show 1 ≤ [c].length; simp)).mono fun e w' ⟨he, hw⟩ => ⟨9, ?_, ?_⟩
  ·rw [he, hn]
  ·rw [hw, nX]
theorem aEN (l : List (List UInt8)) (t : Bool) (x : List UInt8) (hl : l.length ≤ 1048576) : dV Tryd.prog 23 [.sl 1 (l.map fun s => [.str s]) t, .str x] (I (Go.Lib.idxOfS (l.map fun s => ⟨s.toArray⟩) ⟨x.toArray⟩)) :=
 kY (by kernel_rfl) fun E h w vs R rl => by
  match vs, rl with
  | [v0, v1], rl =>
   obtain ⟨r0, r1, _⟩ := rl
   obtain ⟨rfl, h1⟩ := cP r1
   rcases zL r0 with ⟨e, a, cap, rfl⟩ | ⟨b, o, cap, rfl, hb, hcap, hcs⟩
   ·have e : l = [] := by simpa using e
    subst e
    exact (Go.Proofs.Tryd.slices_Index_string_empty a cap ⟨x.toArray⟩ w).mono fun e w' ⟨he, hw⟩ => ⟨_, he, fun _ _ _ => .int _ _, hw ▸ Go.RowKit.Below.refl _ _⟩
   ·rw [List.length_map] at hcap ⊢
    have := Go.Proofs.Tryd.slices_Index_string b o l.length cap (l.map fun s => (⟨s.toArray⟩ : ByteArray)) ⟨x.toArray⟩ w (by simp) (by omega) (fun j hj => by
     rw [List.length_map] at hj
     obtain ⟨c, h1, h2⟩ := hcs j 0 (.str l[j]) (by simp [b9, List.getElem?_eq_getElem hj])
     rw [(cP h2).1] at h1
     rw [List.getD_eq_getElem?_getD, List.getElem?_map, List.getElem?_eq_getElem hj]
     simpa using h1)
    rw [show (l.map fun s => (⟨s.toArray⟩ : ByteArray)).take l.length = l.map fun s => (⟨s.toArray⟩ : ByteArray) from List.take_of_length_le (by simp)] at this
    exact this.mono fun e w' ⟨he, hw⟩ => ⟨_, he, fun _ _ _ => .int _ _, hw ▸ Go.RowKit.Below.refl _ _⟩
theorem zT {c : UInt8} {s : List UInt8} {f i : Nat} (hf : f ≤ i) (hi : s[i]? = some c) (hn : c ∉ (s.drop f).take (i - f)) : dT c (s.drop f) = (s.drop f).take (i - f) :: dT c (s.drop (i + 1)) := by
 have h1 : s.drop f = (s.drop f).take (i - f) ++ c :: s.drop (i + 1) := by
  have h2 := (List.take_append_drop (i - f) (s.drop f)).symm
  rw [List.drop_drop, show f + (i - f) = i by omega] at h2
  have h3 : i < s.length := (List.getElem?_eq_some_iff.1 hi).1
  rw [List.drop_eq_getElem_cons h3] at h2
  rw [List.getElem?_eq_getElem h3] at hi
  rw [Option.some.inj hi] at h2
  exact h2
 exact (congrArg (dT c) h1).trans (kZ _ _ hn)
theorem qB {c : UInt8} {s : List UInt8} {f i : Nat} {x : UInt8} (hf : f ≤ i) (hi : s[i]? = some x) (hx : ¬ x = c) (hn : c ∉ (s.drop f).take (i - f)) : c ∉ (s.drop f).take (i + 1 - f) := by
 rw [show i + 1 - f = (i - f) + 1 by omega, List.take_add_one]
 rw [List.getElem?_drop, show f + (i - f) = i by omega, hi]
 simp only [List.mem_append, not_or]
 exact ⟨hn, by simp only [Option.toList_some, List.mem_singleton]; exact fun q => hx q.symm⟩
set_option maxRecDepth 100000
open Go.Proofs
set_option linter.unusedVariables false
set_option linter.unusedSimpArgs false
theorem mH {α : Type} {c : α → aA} {l : List α} {sz n len : Nat} {h h' : Heap} (w : aA → aA) (hn : h n = none) (hl : (a7 h n (.row sz ((l.map fun x => [c x]).map (List.map .v)))).le h') (e : len = l.length) :
  ∃ r1 g l1, Shift (w (.os n sz 0 len)) h' r1 g ∧ QS (OS (oP c) sz l) w r1 l1 ∧ eU h l1 g := by
 subst e
 refine ⟨w (OV.sl n sz (l.map fun x => [.v (c x)])).val, a7 h n (.row sz ((l.map fun x => [c x]).map (List.map .v))), _, ?_, ⟨_, OS.mk (pL l), rfl, rfl⟩, ?_⟩
 ·rw [OV.uH]; exact Shift.of (Sub.refl _) hl
 ·rw [OV.fZ, iV, kW]; exact eU.one hn
theorem fQ {α : Type} {c : α → aA} {l : List α} {sz : Nat} {h h' : Heap} {x : aA} (w : aA → aA) (hw : aD2 w) (hx : Sub x (.sl sz [] true)) (hl : h.le h') (e : l = []) :
  ∃ r1 g l1, Shift (w x) h' r1 g ∧ QS (OS (oP c) sz l) w r1 l1 ∧ eU h l1 g := by
 subst e
 refine ⟨w (OV.nil sz).val, h, _, Shift.of (hw _ _ hx) hl, ⟨_, OS.nil, rfl, rfl⟩, ?_⟩
 rw [OV.kN]; exact eU.nil h
@[go_sem] def zU : List Nat := [0, 1, 4, 5, 6, 7, 12, 19]
@[go_sem] def aIR : List Nat := [8, 25, 33]
@[go_sem] def aIS : Marks := fun _ => ([], .nil, [])
theorem xW (s : List UInt8) (c : UInt8) (hs : s.length ≤ 1048600) : pM Tryd.prog 15 [.str s, .int .u8 c.toNat] (QS (OS (oP .str) 1 (dT c s))) := by
 refine yZ 35 zU aIR aIS mix Tryd.func15 rfl (by kernel_rfl) (by simp) fun h => ?_
 simp -dsimp -implicitDefEqProofs only [go_sem, ↓reduceIte, Tryd.f15]
 repeat' (with_reducible first | intro _ | refine And.intro ?_ ?_)
 all_goals try (first | omega | decide)
 refine fV (keep := zU) (ib := aIR) (mk := aIS) mix (by kernel_rfl) (fun x : Nat × Nat × List (List UInt8) × Option Nat => [(0, .str s), (1, .int .u8 c.toNat), (5, mF 1 x.2.2.1.length x.2.2.2), (6, I x.2.1), (7, I x.1)]) (fun x => jX h (.row 1 ((x.2.2.1.map fun n => [.str n]).map (List.map .v))) x.2.2.2) (fun x => (x.2.1 ≤ x.1 ∧ x.1 ≤ s.length) ∧ jY h x.2.2.1 x.2.2.2 ∧ dT c s = x.2.2.1 ++ dT c (s.drop x.2.1) ∧ c ∉ (s.drop x.2.1).take (x.1 - x.2.1)) (fun x => s.length - x.1) (0, 0, [], none) (by simp [fX, bG, Heap.le_refl, mF, jX, jY]) ?_
 rintro ⟨k, f, out, o⟩ ⟨⟨hf, hk⟩, ho, he, hn⟩
 simp only at hf hk ho he hn ⊢
 have hol : out.length ≤ s.length := by
  have h1 := (oF c s).1
  have h2 := congrArg List.length he
  have h3 := List.length_pos_iff.2 (p2 c (s.drop f))
  rw [List.length_append] at h2; omega
 rcases Nat.lt_or_ge k s.length with hlt | hge
 ·have ea : s[k]? = some s[k] := List.getElem?_eq_getElem hlt
  have hc : s[k].toNat = c.toNat → s[k]? = some c := fun q => by rw [ea]; congr 1; exact UInt8.toNat.inj q
  have hd : ¬ s[k].toNat = c.toNat → ¬ s[k] = c := fun q e => q (by rw [e])
  have hy : ∀ q : s[k].toNat = c.toNat, dT c s = (out ++ [List.drop f (List.take k s)]) ++ dT c (s.drop (k + 1)) := fun q => by
   rw [he, zT hf (hc q) hn, List.append_assoc, List.drop_take]; rfl
  cases o with
  |none =>
   rw [cO] at ho
   subst ho
   simp -dsimp -implicitDefEqProofs only [go_sem, ↓reduceIte, Tryd.f15, cZ, cN, ea]
   intro _
   refine ⟨fun _ => ⟨fun q => ⟨hf, hk, by decide, by decide, by decide, fun n hn2 => ⟨(k + 1, k + 1, [List.drop f (List.take k s)], some n), ?_⟩⟩, fun q => ⟨(k + 1, f, [], none), ?_⟩⟩, fun q => absurd hlt q⟩
   ·simp only [a6, bH, bC]
    exact ⟨⟨rfl, IntWalk.i64_in _ (by omega), IntWalk.i64_in _ (by omega)⟩, Heap.le_refl _, ⟨⟨Nat.le_refl _, hlt⟩, hn2, hy q, by simp⟩, by omega⟩
   ·simp only [cN, cZ, cO]
    exact ⟨⟨trivial, trivial, IntWalk.i64_in _ (by omega)⟩, Heap.le_refl _, ⟨⟨by omega, hlt⟩, trivial, he, qB hf ea (hd q) hn⟩, by omega⟩
  |some n =>
   rw [bC] at ho
   simp -dsimp -implicitDefEqProofs only [go_sem, ↓reduceIte, Tryd.f15, bH, a6, ea]
   intro _
   refine ⟨fun _ => ⟨fun q => ⟨hf, hk, by decide, by decide, by decide, Nat.le_refl _, by omega, by omega, fun b hb => ⟨(k + 1, k + 1, out ++ [List.drop f (List.take k s)], some b), ?_⟩⟩, fun q => ⟨(k + 1, f, out, some n), ?_⟩⟩, fun q => absurd hlt q⟩
   ·simp only [a6, bH, bC]
    refine ⟨⟨by rw [List.length_append]; rfl, IntWalk.i64_in _ (by omega), IntWalk.i64_in _ (by omega)⟩, ?_, ⟨⟨Nat.le_refl _, hlt⟩, hb.2, hy q, by simp⟩, by omega⟩
    rw [kP]; exact pX ho
   ·simp only [a6, bH, bC]
    exact ⟨⟨trivial, trivial, IntWalk.i64_in _ (by omega)⟩, Heap.le_refl _, ⟨⟨by omega, hlt⟩, ho, he, qB hf ea (hd q) hn⟩, by omega⟩
 ·have hk' : k = s.length := by omega
  subst hk'
  have hy : dT c s = out ++ [List.drop f (List.take s.length s)] := by
   rw [he, List.take_length]
   rw [← List.length_drop, List.take_length] at hn
   rw [jM _ hn]
  cases o with
  |none =>
   rw [cO] at ho
   subst ho
   simp -dsimp -implicitDefEqProofs only [go_sem, ↓reduceIte, Tryd.f15, Nat.lt_irrefl, cZ, cN]
   intro _
   refine ⟨hf, Nat.le_refl _, by decide, by decide, by decide, fun n hn2 => ?_⟩
   rw [hy]
   exact wS (l := [List.drop f (List.take s.length s)]) hn2
  |some n =>
   rw [bC] at ho
   simp -dsimp -implicitDefEqProofs only [go_sem, ↓reduceIte, Tryd.f15, Nat.lt_irrefl, bH, a6]
   intro _
   refine ⟨hf, Nat.le_refl _, by decide, by decide, by decide, Nat.le_refl _, by omega, by omega, fun b hb => ?_⟩
   rw [hy, kP]
   exact mH (fun x => x) hb.2 (pX ho) (by simp)
theorem zV (s : List UInt8) (c : UInt8) (hs : s.length ≤ 1048600) : dV Tryd.prog 15 [.str s, .int .u8 c.toNat] (lN 1 (fun s => [.str s]) (dT c s)) := QS.fU (xW s c hs) fun y hy => OS.e9 (c := fun n => [.str n]) (fun _ _ q => pK q) hy
set_option maxRecDepth 100000
open Go.Proofs
set_option linter.unusedVariables false
set_option linter.unusedSimpArgs false
theorem mI (n : Int) (h0 : -9223372036854775808 ≤ n) (h1 : n ≤ 9223372036854775807) : dV Tryd.prog 65 [I n] (.str (Go.Lib.itoa n)) := by
 refine dS 5 zK aIK aIL mix Tryd.func65 rfl (by kernel_rfl) (by simp) fun h => ?_
 simp -dsimp -implicitDefEqProofs only [go_sem, ↓reduceIte, Tryd.f65]
 first | refine aI.mk (eO n h0 h1) ?_ | refine aC.mk (eO n h0 h1) ?_ | refine aI.cJ (eO n h0 h1) ?_ | refine aC.mk (b5.fU (eO n h0 h1)) ?_
 simp -dsimp -implicitDefEqProofs only [go_sem, ↓reduceIte, Tryd.f65]
theorem sH {s : List UInt8} {v : Int} (h : Go.Lib.parseIntB 64 s = .ok v) : -9223372036854775808 ≤ v ∧ v ≤ 9223372036854775807 := by
 unfold Go.Lib.parseIntB at h
 split at h
 ·cases h
 ·simp only at h
  split at h
  ·cases h
  ·cases h
  ·rename_i u hu
   split at h
   ·cases h
   ·split at h
    ·cases h
    ·rename_i h1 h2
     have := Go.Lib.NumEnd.ok.inj h
     subst this
     simp only [Nat.reducePow, Nat.reduceSub] at h1 h2
     split
     ·have : u ≤ 9223372036854775808 := by
       rename_i q
       exact Nat.le_of_not_lt fun z => h2 ⟨q, z⟩
      omega
     ·have : u < 9223372036854775808 := by
       rename_i q
       exact Nat.lt_of_not_le fun z => h1 ⟨q, z⟩
      omega
theorem vX {hi : Int} (hhi : hi ≤ 9223372036854775807) {s : List UInt8} (h : eE hi s) : Go.Lib.parseIntB 64 s = .ok (k5 s) := by
 have h1 := h.2.2
 have := nV h.1 (by have := h.2.1; omega)
 rw [← h1] at this
 exact this
theorem sI : iR Tryd.prog 95 = true := by kernel_rfl
@[go_sem] def vY : List Nat := [0, 1, 2, 6, 7, 8, 9]
@[go_sem] def aEO : List Nat := []
@[go_sem] def aEP : Marks := fun _ => ([], .nil, [])
theorem uX (s : List UInt8) (hi : Int) (hs : s.length ≤ 1048600) (hhi : hi ≤ 1000000001) : dV Tryd.prog 47 [.str s, I 0, I hi] (.bY [I (k5 s), .bool (decide (eE hi s))]) := by
 have hp := zR s (by omega)
 have hr := vX (hi := hi) (s := s) (by omega)
 cases e : Go.Lib.parseIntB 64 s with
 |ok v =>
  have hv := sH e
  have hn : k5 s = v := by rw [k5, e]
  have he : uW s = .cK := by rw [uW, e]
  have hl := jR hv.1 hv.2
  rw [he, hn] at hp
  rw [hn]
  refine dS 30 vY aEO aEP mix Tryd.func47 rfl (by kernel_rfl) (by simp) fun h => ?_
  simp -dsimp -implicitDefEqProofs only [go_sem, ↓reduceIte, Tryd.f47]
  first | refine aI.mk (hp) ?_ | refine aC.mk (hp) ?_ | refine aI.cJ (hp) ?_ | refine aC.mk (b5.fU (hp)) ?_
  simp -dsimp -implicitDefEqProofs only [go_sem, ↓reduceIte, Tryd.f47]
  simp -dsimp -implicitDefEqProofs only [go_sem, ↓reduceIte, Tryd.f47, sI]
  first | refine aI.mk (mI v hv.1 hv.2) ?_ | refine aC.mk (mI v hv.1 hv.2) ?_ | refine aI.cJ (mI v hv.1 hv.2) ?_ | refine aC.mk (b5.fU (mI v hv.1 hv.2)) ?_
  simp -dsimp -implicitDefEqProofs only [go_sem, ↓reduceIte, Tryd.f47]
  have hq : eE hi s ↔ (Go.Lib.itoa v = s ∧ (0 ≤ v ∧ v ≤ hi)) := by rw [eE, hn]; exact ⟨fun q => ⟨q.2.2.symm, q.1, q.2.1⟩, fun q => ⟨q.2.1, q.2.2, q.1.symm⟩⟩
  refine ⟨fun q => ?_, fun q => ?_⟩
  ·first | refine aI.mk (within v 0 hi) ?_ | refine aC.mk (within v 0 hi) ?_ | refine aI.cJ (within v 0 hi) ?_ | refine aC.mk (b5.fU (within v 0 hi)) ?_
   simp -dsimp -implicitDefEqProofs only [go_sem, ↓reduceIte, Tryd.f47]
   exact congrArg (fun b => aA.bY [I v, .bool b]) (decide_eq_decide.2 ⟨fun z => hq.2 ⟨q, z⟩, fun z => (hq.1 z).2⟩)
  ·exact congrArg (fun b => aA.bY [I v, .bool b]) (decide_eq_false fun z => q (hq.1 z).1).symm
 | «syntax» =>
  have hn : ¬ eE hi s := fun q => by rw [hr q] at e; cases e
  have he : uW s = .iface 119 .any := by rw [uW, e]
  rw [he] at hp
  rw [decide_eq_false hn]
  refine dS 30 vY aEO aEP mix Tryd.func47 rfl (by kernel_rfl) (by simp) fun h => ?_
  simp -dsimp -implicitDefEqProofs only [go_sem, ↓reduceIte, Tryd.f47]
  first | refine aI.mk (hp) ?_ | refine aC.mk (hp) ?_ | refine aI.cJ (hp) ?_ | refine aC.mk (b5.fU (hp)) ?_
  simp -dsimp -implicitDefEqProofs only [go_sem, ↓reduceIte, Tryd.f47]
  simp -dsimp -implicitDefEqProofs only [go_sem, ↓reduceIte, Tryd.f47, sI]
 |range =>
  have hn : ¬ eE hi s := fun q => by rw [hr q] at e; cases e
  have he : uW s = .iface 119 .any := by rw [uW, e]
  rw [he] at hp
  rw [decide_eq_false hn]
  refine dS 30 vY aEO aEP mix Tryd.func47 rfl (by kernel_rfl) (by simp) fun h => ?_
  simp -dsimp -implicitDefEqProofs only [go_sem, ↓reduceIte, Tryd.f47]
  first | refine aI.mk (hp) ?_ | refine aC.mk (hp) ?_ | refine aI.cJ (hp) ?_ | refine aC.mk (b5.fU (hp)) ?_
  simp -dsimp -implicitDefEqProofs only [go_sem, ↓reduceIte, Tryd.f47]
  simp -dsimp -implicitDefEqProofs only [go_sem, ↓reduceIte, Tryd.f47, sI]
theorem xX {most : Nat} {hi : Int} {text : List UInt8} {l : List Int} (h : fD most hi text = some l) : l.length ≤ most := by
 rw [fD] at h
 split at h
 ·rw [← Option.some.inj h]; simp
 ·split at h
  ·rw [dD] at h
   split at h
   ·rw [← Option.some.inj h, List.length_map]; assumption
   ·cases h
  ·cases h
@[go_sem] def zW : List Nat := [0, 1, 2, 3, 4, 10, 11, 12, 14, 15, 16, 19, 23, 24, 25, 26, 43]
@[go_sem] def aIT : List Nat := [17, 46]
@[go_sem] def aIU : Marks := fun _ => ([], .nil, [])
theorem xY (text : List UInt8) (most : Nat) (hi : Int) (hs : text.length ≤ 1048600) (hhi : hi ≤ 1000000001) (hm : most ≤ 1048600) : pM Tryd.prog 25 [.str text, .str [32], I most, I 0, I hi] (QS (OS (oP I) 1 ((fD most hi text).getD [])) (fun y => .bY [y, .bool (fD most hi text).isSome])) := by
 have hsl := oF 32 text
 have hsp := aEM text 32 (by omega)
 refine yZ 50 zW aIT aIU mix Tryd.func25 rfl (by kernel_rfl) (by simp) fun h => ?_
 simp -dsimp -implicitDefEqProofs only [go_sem, ↓reduceIte, Tryd.f25]
 repeat' (with_reducible first | intro _ | refine And.intro ?_ ?_)
 all_goals try (first | omega | decide)
 ·have h1 : fD most hi text = some [] := by rw [fD, if_pos (by assumption)]
  rw [h1]
  exact fQ (fun y => .bY [y, .bool true]) (eW [] [_]) (Sub.refl _) (Heap.le_refl _) rfl
 ·rename_i hne
  first | refine aI.mk (hsp) ?_ | refine aC.mk (hsp) ?_ | refine aI.cJ (hsp) ?_ | refine aC.mk (b5.fU (hsp)) ?_
  simp -dsimp -implicitDefEqProofs only [go_sem, ↓reduceIte, Tryd.f25]
  repeat' (with_reducible first | intro _ | refine And.intro ?_ ?_)
  refine fV (keep := zW) (ib := aIT) (mk := aIU) mix (by kernel_rfl) (fun x : Nat × Option Nat => [(2, I most), (3, I 0), (4, I hi), (12, mF 1 x.1 x.2), (23, lN 1 (fun s => [.str s]) (dT 32 text)), (24, I (dT 32 text).length), (25, I x.1)]) (fun x => jX h (.row 1 (((((dT 32 text).take x.1).map k5).map fun n => [I n]).map (List.map .v))) x.2) (fun x => (x.1 ≤ (dT 32 text).length ∧ x.1 ≤ most) ∧ jY h ((dT 32 text).take x.1) x.2 ∧ ∀ p ∈ (dT 32 text).take x.1, eE hi p) (fun x => (dT 32 text).length - x.1) (0, none) (by simp [fX, bG, Heap.le_refl, mF, jX, jY]) ?_
  rintro ⟨k, o⟩ ⟨⟨hk, hkm⟩, ho, hok⟩
  simp only at hk hkm ho hok ⊢
  rcases Nat.lt_or_ge k (dT 32 text).length with hlt | hge
  ·have ea : (dT 32 text)[k]? = some (dT 32 text)[k] := List.getElem?_eq_getElem hlt
   have hpl := hsl.2 _ (List.getElem_mem hlt)
   have hrd := uX (dT 32 text)[k] hi (by omega) hhi
   have hnone : ¬ (eE hi (dT 32 text)[k] ∧ ¬ k = most) → fD most hi text = none := fun q => by
    rw [fD, if_neg hne]
    split
    ·rw [dD, if_neg]
     intro z
     exact q ⟨z _ (List.getElem_mem hlt), by omega⟩
    ·rfl
   have zX : eE hi (dT 32 text)[k] → ∀ p ∈ (dT 32 text).take (k + 1), eE hi p := fun q p hp => by
    rw [List.take_succ_eq_append_getElem hlt] at hp
    rcases List.mem_append.1 hp with hp | hp
    ·exact hok p hp
    ·rw [List.mem_singleton.1 hp]; exact q
   have hmap : ((dT 32 text).take (k + 1)).map k5 = ((dT 32 text).take k).map k5 ++ [k5 (dT 32 text)[k]] := by
    rw [List.take_succ_eq_append_getElem hlt, List.map_append]; rfl
   cases o with
   |none =>
    simp -dsimp -implicitDefEqProofs only [go_sem, ↓reduceIte, Tryd.f25, cZ, cN, ea]
    refine ⟨fun _ => ⟨hlt, ?_⟩, fun q => absurd hlt q⟩
    first | refine aI.mk (hrd) ?_ | refine aC.mk (hrd) ?_ | refine aI.cJ (hrd) ?_ | refine aC.mk (b5.fU (hrd)) ?_
    simp -dsimp -implicitDefEqProofs only [go_sem, ↓reduceIte, Tryd.f25]
    rw [cO] at ho
    have hk0 : k = 0 := by
     have := congrArg List.length ho
     rw [List.length_take, List.length_nil] at this
     omega
    subst hk0
    refine ⟨fun hq => ⟨fun h0 => ?_, fun h0 => ⟨by decide, by decide, by decide, fun n hn => ⟨(0 + 1, some n), ?_⟩⟩⟩, fun hq => ?_⟩
    ·rw [hnone fun z => z.2 (by omega)]
     exact fQ (fun y => .bY [y, .bool false]) (eW [] [_]) (Sub.nil 1 true) (Heap.le_refl _) rfl
    ·simp only [a6, bH, bC]
     rw [hmap, ho]
     exact ⟨⟨trivial, rfl⟩, Heap.le_refl _, ⟨⟨by omega, by omega⟩, hn, zX hq⟩, by omega⟩
    ·rw [hnone fun z => hq z.1]
     exact fQ (fun y => .bY [y, .bool false]) (eW [] [_]) (Sub.nil 1 true) (Heap.le_refl _) rfl
   |some n =>
    simp -dsimp -implicitDefEqProofs only [go_sem, ↓reduceIte, Tryd.f25, bH, a6, ea]
    refine ⟨fun _ => ⟨hlt, ?_⟩, fun q => absurd hlt q⟩
    first | refine aI.mk (hrd) ?_ | refine aC.mk (hrd) ?_ | refine aI.cJ (hrd) ?_ | refine aC.mk (b5.fU (hrd)) ?_
    simp -dsimp -implicitDefEqProofs only [go_sem, ↓reduceIte, Tryd.f25]
    rw [bC] at ho
    have hle : h.le (a7 h n (.row 1 (((((dT 32 text).take k).map k5).map fun n => [I n]).map (List.map .v)))) := Heap.a8 ho (Heap.le_refl _)
    refine ⟨fun hq _ => ⟨fun h0 => ?_, fun h0 => ⟨by decide, by decide, by decide, by rw [List.length_take]; omega, by omega, by omega, fun b hb => ⟨(k + 1, some b), ?_⟩⟩⟩, fun hq => ?_⟩
    ·rw [hnone fun z => z.2 (by omega)]
     exact fQ (fun y => .bY [y, .bool false]) (eW [] [_]) (Sub.nil 1 true) hle rfl
    ·simp only [a6, bH, bC, hmap]
     refine ⟨⟨trivial, IntWalk.i64_in _ (by omega)⟩, ?_, ⟨⟨by omega, by omega⟩, hb.2, zX hq⟩, by omega⟩
     have hg := kP I (((dT 32 text).take k).map k5) (k5 (dT 32 text)[k])
     rw [List.length_map, List.length_take, Nat.min_eq_left hk] at hg
     rw [hg]; exact pX ho
    ·rw [hnone fun z => hq z.1]
     exact fQ (fun y => .bY [y, .bool false]) (eW [] [_]) (Sub.nil 1 true) hle rfl
  ·have hk' : k = (dT 32 text).length := by omega
   have hR : fD most hi text = some ((dT 32 text).map k5) := by
    rw [fD, if_neg hne, if_pos (by omega), dD, if_pos]
    intro p hp
    rw [hk', List.take_length] at hok
    exact hok p hp
   rw [hR]
   rw [hk'] at ho ⊢
   rw [List.take_length] at ho ⊢
   cases o with
   |none =>
    simp -dsimp -implicitDefEqProofs only [go_sem, ↓reduceIte, Tryd.f25, cZ, cN, Nat.lt_irrefl]
    exact fQ (fun y => .bY [y, .bool true]) (eW [] [_]) (Sub.refl _) (Heap.le_refl _) (by rw [cO] at ho; rw [ho]; rfl)
   |some n =>
    simp -dsimp -implicitDefEqProofs only [go_sem, ↓reduceIte, Tryd.f25, bH, a6, Nat.lt_irrefl]
    rw [bC] at ho
    exact mH (fun y => .bY [y, .bool true]) ho (Heap.le_refl _) (by simp)
set_option maxRecDepth 100000
open Go.Proofs
set_option linter.unusedVariables false
set_option linter.unusedSimpArgs false
theorem vZ : ∀ (l : List UInt8), (∀ c ∈ l, 48 ≤ c.toNat ∧ c.toNat ≤ 57) → iZ l < 10 ^ l.length := by
 intro l
 induction hn : l.length using Nat.strongRecOn generalizing l with
 | _ n ih =>
  intro h
  rcases List.eq_nil_or_concat l with e | ⟨l', c, e⟩
  ·subst e; subst hn; decide
  ·rw [List.concat_eq_append] at e
   subst e
   have hc := h c (by simp)
   have h2 := ih l'.length (by rw [← hn]; simp) l' rfl fun x hx => h x (by simp [hx])
   rw [k0, ← hn, List.length_append, List.length_singleton, Nat.pow_succ]
   omega
theorem sJ {s : List UInt8} (h : ¬ eE 999999999 s) : aA.bY [I 0, .bool false] = .bY [I (if eE 999999999 s then k5 s else 0), .bool (decide (eE 999999999 s))] := by rw [if_neg h, decide_eq_false h]
theorem aBY {k : Nat} (h : k ≤ 9) : 10 ^ k ≤ 1000000000 := by
 have := Nat.pow_le_pow_right (n := 10) (by decide) h
 omega
@[go_sem] def qC : List Nat := [0, 2, 3, 4, 5, 23, 27, 39]
@[go_sem] def zY : List Nat := []
@[go_sem] def zZ : Marks := fun _ => ([], .nil, [])
theorem n8 (s : List UInt8) (hs : s.length ≤ 1048600) : dV Tryd.prog 42 [.str s] (.bY [I (if eE 999999999 s then k5 s else 0), .bool (decide (eE 999999999 s))]) := by
 have hiff := aBR s
 cases s with
 |nil =>
  have hn : ¬ eE 999999999 [] := fun q => (hiff.2 q).1.1 rfl
  have := sJ hn
  refine dS 49 qC zY zZ mix Tryd.func42 rfl (by kernel_rfl) (by simp) fun h => ?_
  simp -dsimp -implicitDefEqProofs only [go_sem, ↓reduceIte, Tryd.f42]
  simpa using this
 |cons c r =>
  have len : (c :: r).length = r.length + 1 := rfl
  have h0 : (c :: r)[Int.toNat 0]? = some c := rfl
  have h00 : (c :: r)[0]? = some c := rfl
  generalize (c :: r) = s at *
  by_cases h9 : 9 < s.length
  ·have hn : ¬ eE 999999999 s := fun q => by have := (hiff.2 q).2; omega
   have := sJ hn
   refine dS 49 qC zY zZ mix Tryd.func42 rfl (by kernel_rfl) (by simp) fun h => ?_
   simp -dsimp -implicitDefEqProofs only [go_sem, ↓reduceIte, Tryd.f42]
   repeat' (with_reducible first | intro _ | refine And.intro ?_ ?_)
   all_goals first | omega | exact this
  by_cases hz : 1 < s.length ∧ c = 48
  ·have hn : ¬ eE 999999999 s := fun q => (hiff.2 q).1.2.2 hz.1 (by rw [h00, hz.2])
   have := sJ hn
   have h1 := hz.1
   refine dS 49 qC zY zZ mix Tryd.func42 rfl (by kernel_rfl) (by simp) fun h => ?_
   simp -dsimp -implicitDefEqProofs only [go_sem, ↓reduceIte, Tryd.f42, h0]
   repeat' (with_reducible first | intro _ | refine And.intro ?_ ?_)
   all_goals first | omega | exact this | (exfalso; have e48 : c.toNat = 48 := by rw [hz.2]; rfl
                                           omega)
  ·refine dS 49 qC zY zZ mix Tryd.func42 rfl (by kernel_rfl) (by simp) fun h => ?_
   simp -dsimp -implicitDefEqProofs only [go_sem, ↓reduceIte, Tryd.f42, h0]
   repeat' (with_reducible first | intro _ | refine And.intro ?_ ?_)
   all_goals try omega
   all_goals try (exfalso; exact hz ⟨by omega, UInt8.toNat.inj (by show c.toNat = 48; omega)⟩)
   all_goals
    refine fV (keep := qC) (ib := zY) (mk := zZ) mix (by kernel_rfl) (fun k : Nat => [(0, .str s), (4, I (iZ (s.take k))), (5, I k)]) (fun _ => h) (fun k => k ≤ s.length ∧ ∀ x ∈ s.take k, 48 ≤ x.toNat ∧ x.toNat ≤ 57) (fun k => s.length - k) 0 (by simp [fX, bG, Heap.le_refl, iZ]) ?_
   all_goals
    rintro k ⟨hk, hd⟩
    rcases Nat.lt_or_ge k s.length with hlt | hge
    ·have ea : s[k]? = some s[k] := List.getElem?_eq_getElem hlt
     have hb := vZ _ hd
     rw [List.length_take, Nat.min_eq_left hk] at hb
     have hp := aBY (k := k) (by omega)
     have hsn : iZ (s.take (k + 1)) = 10 * iZ (s.take k) + (s[k].toNat - 48) := by rw [List.take_succ_eq_append_getElem hlt, k0]
     have hno : ¬ (48 ≤ s[k].toNat ∧ s[k].toNat ≤ 57) → ¬ eE 999999999 s := fun q z => q ((hiff.2 z).1.2.1 _ (List.getElem_mem hlt))
     have hyes : 48 ≤ s[k].toNat ∧ s[k].toNat ≤ 57 → ∀ x ∈ s.take (k + 1), 48 ≤ x.toNat ∧ x.toNat ≤ 57 := fun q x hx => by
      rw [List.take_succ_eq_append_getElem hlt] at hx
      rcases List.mem_append.1 hx with hx | hx
      ·exact hd x hx
      ·rw [List.mem_singleton.1 hx]; exact q
     simp -dsimp -implicitDefEqProofs only [go_sem, ↓reduceIte, Tryd.f42, ea]
     repeat' (with_reducible first | intro _ | refine And.intro ?_ ?_)
     all_goals try omega
     all_goals try (exact sJ (hno (by omega)))
     refine ⟨k + 1, ⟨?_, IntWalk.i64_in _ (by omega)⟩, ⟨hlt, hyes (by omega)⟩, by omega⟩
     rw [IntWalk.u8_in _ (by omega), IntWalk.i64_in ((s[k].toNat : Int) - 48) (by omega), IntWalk.i64_in (10 * (iZ (List.take k s) : Int)) (by omega), IntWalk.i64_in _ (by omega), hsn]
     omega
    ·have hk' : k = s.length := by omega
     rw [hk', List.take_length] at hd
     have hok : eE 999999999 s := by
      refine hiff.1 ⟨⟨fun e => by rw [e] at len; simp at len, hd, fun h1 q => ?_⟩, by omega⟩
      rw [h00] at q
      exact hz ⟨h1, Option.some.inj q⟩
     rw [hk', List.take_length]
     simp -dsimp -implicitDefEqProofs only [go_sem, ↓reduceIte, Tryd.f42, Nat.lt_irrefl, Int.lt_irrefl]
     repeat' (with_reducible first | intro _ | refine And.intro ?_ ?_)
     rw [if_pos hok, decide_eq_true hok, aBS hok]
theorem z6 {α : Type} (f : α → Bool) : ∀ l : List α, (∀ p ∈ l, f p = true) → l.takeWhile f = l
 | [], _ => rfl
 |a :: l, h => by rw [List.takeWhile_cons, if_pos (h a (by simp)), z6 f l fun p hp => h p (by simp [hp])]
theorem aCV {α : Type} (f : α → Bool) : ∀ (l : List α) (k : Nat) (x : α), l[k]? = some x → (∀ p ∈ l.take k, f p = true) → f x = false → l.takeWhile f = l.take k
 | [], k, x, h, _, _ => by simp at h
 |a :: l, 0, x, h, _, hx => by
  simp at h; subst h
  rw [List.takeWhile_cons, if_neg (by simp [hx])]; rfl
 |a :: l, k + 1, x, h, hp, hx => by
  rw [List.takeWhile_cons, if_pos (hp a (by simp)), List.take_succ_cons, aCV f l k x (by simpa using h) (fun p q => hp p (by simp [q])) hx]
def qD (ps : List (List UInt8)) : List Int := (ps.takeWhile fun p => decide (eE 999999999 p)).map k5
theorem rK {ps : List (List UInt8)} {l : List Int} (h : dD 999999999 ps = some l) : qD ps = l := by
 rw [dD] at h
 split at h
 ·rename_i hp
  rw [← Option.some.inj h, qD]
  congr 1
  exact z6 _ _ fun p hq => decide_eq_true (hp p hq)
 ·cases h
@[go_sem] def z7 : List Nat := [0, 2, 3, 4, 5, 6, 7, 12, 28]
@[go_sem] def aIV : List Nat := [8, 32]
@[go_sem] def aIW : Marks := fun _ => ([], .nil, [])
theorem n9 (ps : List (List UInt8)) (t : Bool) (hl : ps.length ≤ 1048600) (hs : ∀ p ∈ ps, p.length ≤ 1048600) : pM Tryd.prog 16 [.sl 1 (ps.map fun s => [.str s]) t] (QS (OS (oP I) 1 (qD ps)) (fun y => .bY [y, .bool (dD 999999999 ps).isSome])) := by
 refine yZ 35 z7 aIV aIW mix Tryd.func16 rfl (by kernel_rfl) (by simp) fun h => ?_
 simp -dsimp -implicitDefEqProofs only [go_sem, ↓reduceIte, Tryd.f16]
 repeat' (with_reducible first | intro _ | refine And.intro ?_ ?_)
 all_goals try (first | omega | decide)
 refine fV (keep := z7) (ib := aIV) (mk := aIW) mix (by kernel_rfl) (fun x : Nat × Option Nat => [(0, .sl 1 (ps.map fun s => [.str s]) t), (4, mF 1 x.1 x.2), (5, I x.1)]) (fun x => jX h (.row 1 ((((ps.take x.1).map k5).map fun n => [I n]).map (List.map .v))) x.2) (fun x => x.1 ≤ ps.length ∧ jY h (ps.take x.1) x.2 ∧ ∀ p ∈ ps.take x.1, eE 999999999 p) (fun x => ps.length - x.1) (0, none) (by simp [fX, bG, Heap.le_refl, mF, jX, jY]) ?_
 rintro ⟨k, o⟩ ⟨hk, ho, hok⟩
 simp only at hk ho hok ⊢
 rcases Nat.lt_or_ge k ps.length with hlt | hge
 ·have ea : ps[k]? = some ps[k] := List.getElem?_eq_getElem hlt
  have hrd := n8 ps[k] (hs _ (List.getElem_mem hlt))
  by_cases hq : eE 999999999 ps[k]
  ·rw [if_pos hq, decide_eq_true hq] at hrd
   have h0 := hq.1
   have zX : ∀ p ∈ ps.take (k + 1), eE 999999999 p := fun p hp => by
    rw [List.take_succ_eq_append_getElem hlt] at hp
    rcases List.mem_append.1 hp with hp | hp
    ·exact hok p hp
    ·rw [List.mem_singleton.1 hp]; exact hq
   have hmap : (ps.take (k + 1)).map k5 = (ps.take k).map k5 ++ [k5 ps[k]] := by
    rw [List.take_succ_eq_append_getElem hlt, List.map_append]; rfl
   cases o with
   |none =>
    rw [cO] at ho
    have hk0 : k = 0 := by
     have := congrArg List.length ho
     rw [List.length_take, List.length_nil] at this
     omega
    subst hk0
    simp -dsimp -implicitDefEqProofs only [go_sem, ↓reduceIte, Tryd.f16, cZ, cN, ea]
    refine fun _ => ⟨fun _ => ⟨hlt, ?_⟩, fun q => absurd hlt q⟩
    first | refine aI.mk (hrd) ?_ | refine aC.mk (hrd) ?_ | refine aI.cJ (hrd) ?_ | refine aC.mk (b5.fU (hrd)) ?_
    simp -dsimp -implicitDefEqProofs only [go_sem, ↓reduceIte, Tryd.f16]
    refine ⟨fun q => absurd h0 (by omega), fun _ => ⟨by decide, by decide, by decide, fun n hn => ⟨(0 + 1, some n), ?_⟩⟩⟩
    simp only [a6, bH, bC]
    rw [hmap, ho]
    exact ⟨⟨trivial, rfl⟩, Heap.le_refl _, ⟨by omega, hn, zX⟩, by omega⟩
   |some n =>
    rw [bC] at ho
    simp -dsimp -implicitDefEqProofs only [go_sem, ↓reduceIte, Tryd.f16, bH, a6, ea]
    refine fun _ => ⟨fun _ => ⟨hlt, ?_⟩, fun q => absurd hlt q⟩
    first | refine aI.mk (hrd) ?_ | refine aC.mk (hrd) ?_ | refine aI.cJ (hrd) ?_ | refine aC.mk (b5.fU (hrd)) ?_
    simp -dsimp -implicitDefEqProofs only [go_sem, ↓reduceIte, Tryd.f16]
    refine ⟨fun q => absurd h0 (by omega), fun _ => ⟨by decide, by decide, by decide, by rw [List.length_take]; omega, by omega, by omega, fun b hb => ⟨(k + 1, some b), ?_⟩⟩⟩
    simp only [a6, bH, bC, hmap]
    refine ⟨⟨trivial, IntWalk.i64_in _ (by omega)⟩, ?_, ⟨by omega, hb.2, zX⟩, by omega⟩
    have hg := kP I ((ps.take k).map k5) (k5 ps[k])
    rw [List.length_map, List.length_take, Nat.min_eq_left hk] at hg
    rw [hg]; exact pX ho
  ·rw [if_neg hq, decide_eq_false hq] at hrd
   have hnn : dD 999999999 ps = none := by rw [dD, if_neg fun z => hq (z _ (List.getElem_mem hlt))]
   have hgl : qD ps = (ps.take k).map k5 := by rw [qD, aCV _ ps k ps[k] ea (fun p hp => decide_eq_true (hok p hp)) (decide_eq_false hq)]
   rw [hnn, hgl]
   cases o with
   |none =>
    rw [cO] at ho
    have hk0 : k = 0 := by
     have := congrArg List.length ho
     rw [List.length_take, List.length_nil] at this
     omega
    subst hk0
    simp -dsimp -implicitDefEqProofs only [go_sem, ↓reduceIte, Tryd.f16, cZ, cN, ea]
    refine fun _ => ⟨fun _ => ⟨hlt, ?_⟩, fun q => absurd hlt q⟩
    first | refine aI.mk (hrd) ?_ | refine aC.mk (hrd) ?_ | refine aI.cJ (hrd) ?_ | refine aC.mk (b5.fU (hrd)) ?_
    simp -dsimp -implicitDefEqProofs only [go_sem, ↓reduceIte, Tryd.f16]
    exact fQ (fun y => .bY [y, .bool false]) (eW [] [_]) (Sub.refl _) (Heap.le_refl _) (by first | rfl | (rw [ho]; rfl))
   |some n =>
    rw [bC] at ho
    simp -dsimp -implicitDefEqProofs only [go_sem, ↓reduceIte, Tryd.f16, bH, a6, ea]
    refine fun _ => ⟨fun _ => ⟨hlt, ?_⟩, fun q => absurd hlt q⟩
    first | refine aI.mk (hrd) ?_ | refine aC.mk (hrd) ?_ | refine aI.cJ (hrd) ?_ | refine aC.mk (b5.fU (hrd)) ?_
    simp -dsimp -implicitDefEqProofs only [go_sem, ↓reduceIte, Tryd.f16]
    exact mH (fun y => .bY [y, .bool false]) ho (Heap.le_refl _) (by simp [Nat.min_eq_left hk])
 ·have hk' : k = ps.length := by omega
  rw [hk', List.take_length] at hok ho
  have hnn : dD 999999999 ps = some (ps.map k5) := by rw [dD, if_pos hok]
  rw [hnn, rK hnn, hk', List.take_length]
  cases o with
  |none =>
   simp -dsimp -implicitDefEqProofs only [go_sem, ↓reduceIte, Tryd.f16, cZ, cN, Nat.lt_irrefl]
   intro _
   exact fQ (fun y => .bY [y, .bool true]) (eW [] [_]) (Sub.refl _) (Heap.le_refl _) (by rw [cO] at ho; rw [ho]; rfl)
  |some n =>
   simp -dsimp -implicitDefEqProofs only [go_sem, ↓reduceIte, Tryd.f16, bH, a6, Nat.lt_irrefl]
   rw [bC] at ho
   intro _
   exact mH (fun y => .bY [y, .bool true]) ho (Heap.le_refl _) (by simp)
theorem qE (ps : List (List UInt8)) (t : Bool) (hl : ps.length ≤ 1048600) (hs : ∀ p ∈ ps, p.length ≤ 1048600) : dV Tryd.prog 16 [.sl 1 (ps.map fun s => [.str s]) t] (.bY [lN 1 (fun n => [I n]) (qD ps), .bool (dD 999999999 ps).isSome]) :=
 QS.y4 (w := fun y => .bY [y, .bool (dD 999999999 ps).isSome]) (n9 ps t hl hs) (fun y hy => OS.e9 (c := fun n => [I n]) (fun _ _ q => pK q) hy) (mE [] [_])
open Go.Proofs
set_option linter.unusedVariables false
set_option linter.unusedSimpArgs false
def dU (k : Int) : Nat := if k = 1 then 2 else if k = 8 ∨ k = 9 then 0 else 1
theorem w4 (k : Int) : dU k ≤ 2 := by unfold dU; split <;> (try split) <;> omega
theorem mJ (a : aT) : bI a = [a.fA, a.fB].take (dU a.aD) ++ a.aL := by
 unfold bI dU
 rcases (by omega : a.aD = 1 ∨ a.aD = 8 ∨ a.aD = 9 ∨ (a.aD ≠ 1 ∧ a.aD ≠ 8 ∧ a.aD ≠ 9)) with e | e | e | e
 all_goals simp [e]
def bM (k : Int) (n : List Int) : aT := ⟨k, if 0 < dU k then n.getD 0 0 else 0, if 1 < dU k then n.getD 1 0 else 0, n.drop (dU k)⟩
theorem eX {a : aT} (ha : a.ok) : bM a.aD (bI a) = a := by
 have h1 := ha.first
 have h2 := ha.second
 rw [mJ, bM]
 rcases (by omega : a.aD = 1 ∨ a.aD = 8 ∨ a.aD = 9 ∨ (a.aD ≠ 1 ∧ a.aD ≠ 8 ∧ a.aD ≠ 9)) with e | e | e | e
 ·have hu : dU a.aD = 2 := by simp [dU, e]
  simp [hu]
 ·have hu : dU a.aD = 0 := by simp [dU, e]
  have := h1 (.inl e); have := h2 (by omega)
  cases a; simp_all
 ·have hu : dU a.aD = 0 := by simp [dU, e]
  have := h1 (.inr e); have := h2 (by omega)
  cases a; simp_all
 ·have hu : dU a.aD = 1 := by simp [dU, e]
  have := h2 (by omega)
  cases a; simp_all
theorem uY (a : aT) : dU a.aD ≤ (bI a).length := by
 have := w4 a.aD
 rw [mJ, List.length_append, List.length_take]
 simp; omega
theorem cW {a : aT} (h : a.ok) : b6 a = bR a.aD ++ bN (bI a) := if_pos h
theorem gS (k : Int) : (32 : UInt8) ∉ bR k := by
 unfold bR
 generalize (k - 1).toNat = n
 match n with
 |0 | 1 | 2 | 3 | 4 | 5 | 6 | 7 | 8 | 9 => decide
 |n + 10 => simp
theorem nY {a b : Int} (ha : 1 ≤ a ∧ a ≤ 10) (hb : 1 ≤ b ∧ b ≤ 10) (h : bR a = bR b) : a = b := by
 rcases (by omega : a = 1 ∨ a = 2 ∨ a = 3 ∨ a = 4 ∨ a = 5 ∨ a = 6 ∨ a = 7 ∨ a = 8 ∨ a = 9 ∨ a = 10) with rfl | rfl | rfl | rfl | rfl | rfl | rfl | rfl | rfl | rfl
 all_goals rcases (by omega : b = 1 ∨ b = 2 ∨ b = 3 ∨ b = 4 ∨ b = 5 ∨ b = 6 ∨ b = 7 ∨ b = 8 ∨ b = 9 ∨ b = 10) with rfl | rfl | rfl | rfl | rfl | rfl | rfl | rfl | rfl | rfl
 all_goals first | rfl | exact absurd h (by decide)
theorem jS {a : aT} (h : a.ok) {hi : Int} (hhi : 1000002 ≤ hi) : vV hi (bI a) := fun n hn => by
 have := hU h n hn
 exact ⟨this.1, by have := this.2; omega⟩
theorem aBZ {a b : aT} (ha : a.ok) (hb : b.ok) (h : b6 a = b6 b) : a = b := by
 rw [cW ha, cW hb] at h
 obtain ⟨h1, h2⟩ := xU (gS _) (gS _) (jS ha (by decide)) (jS hb (by decide)) h
 rw [← eX ha, ← eX hb, nY ha.kind hb.kind h1, h2]
noncomputable def bJ (t : List UInt8) : Option aT := open Classical in if h : ∃ a : aT, a.ok ∧ b6 a = t then some (Classical.choose h) else none
theorem eY {t : List UInt8} {a : aT} (ha : a.ok) (ht : b6 a = t) : bJ t = some a := by
 have hx : ∃ a : aT, a.ok ∧ b6 a = t := ⟨a, ha, ht⟩
 rw [bJ, dif_pos hx]
 have hs := Classical.choose_spec hx
 rw [aBZ hs.1 ha (hs.2.trans ht.symm)]
theorem bX {t : List UInt8} {a : aT} (h : bJ t = some a) : a.ok ∧ b6 a = t := by
 rw [bJ] at h
 split at h
 ·rename_i hx
  rw [← Option.some.inj h]; exact Classical.choose_spec hx
 ·cases h
theorem qF {t : List UInt8} (h : ∀ a : aT, a.ok → ¬ b6 a = t) : bJ t = none := by
 cases e : bJ t with
 |none => rfl
 |some a => exact absurd (bX e).2 (h a (bX e).1)
def aEQ : aT := ⟨0, 0, 0, []⟩
noncomputable def aN (t : List UInt8) : aT × Int := match bJ t with | some a => (a, 0) | none => (aEQ, 5)
theorem eZ {t : List UInt8} {a : aT} (h : bJ t = some a) : aN t = (a, 0) := by rw [aN, h]
theorem mK {t : List UInt8} (h : bJ t = none) : aN t = (aEQ, 5) := by rw [aN, h]
theorem rL {a : aT} (ha : a.ok) : dT 32 (b6 a) = bR a.aD :: (bI a).map Go.Lib.itoa := by
 rw [cW ha]
 exact nA (gS _) fun n hn => (hU ha n hn).1
theorem uZ {a : aT} (ha : a.ok) : dD 999999999 ((bI a).map Go.Lib.itoa) = some (bI a) := (eM (by decide)).2 ⟨rfl, jS ha (by decide)⟩
set_option maxRecDepth 100000
open Go.Proofs
set_option linter.unusedVariables false
set_option linter.unusedSimpArgs false
theorem aER : aCU aEQ.o [.int .i64 0, .int .i64 0, .int .i64 0, .aV] := ⟨_, ⟨.nil 1, rfl, OS.nil⟩, rfl, by
 exact Sub.agg (.cons (.refl _) (.cons (.refl _) (.cons (.refl _) (.cons (Sub.nil 1 true) .nil))))⟩
theorem kT {t : List UInt8} {h h' : Heap} (hn : bJ t = none) (hl : h.le h') : ∃ r1 g l, Shift (.bY [.agg [.int .i64 0, .int .i64 0, .int .i64 0, .aV], .int .i64 5]) h' r1 g ∧ QA (aN t).1.o (fun y => .bY [y, I (aN t).2]) r1 l ∧ eU h l g := by
 rw [mK hn]
 exact y7 aER (eW [] [_]) hl
@[go_sem] def aCW : List Nat := [0, 2, 3, 4, 5, 6, 7, 8, 10, 23, 42, 50, 56, 66]
@[go_sem] def ib5 : List Nat := []
@[go_sem] def mk5 : Marks := fun id => match id with | 7 => ([4, 8], (.op 0 (.op 1 (.op 2 (.op 3 (.op 4 (.op 5 (.op 6 (.op 7 (.op 9 (.op 8 (.op 10 (.op 11 .nil)))))))))))), []) | _ => ([], .nil, [])
set_option maxHeartbeats 1000000 in
theorem nZ (t : List UInt8) (ht : t.length ≤ 1048576) : pM Tryd.prog 5 [.str t] (QA (aN t).1.o (fun y => .bY [y, I (aN t).2])) := by
 have hsp := zV t 32 (by omega)
 have hsl := oF 32 t
 cases hw : dT 32 t with
 |nil => exact absurd hw (p2 32 t)
 |cons w ps =>
  rw [hw] at hsl
  have hpl : ps.length ≤ 1048576 := by have := hsl.1; simp at this; omega
  have hrn := qE ps false (by omega) (fun p hp => by have := hsl.2 p (by simp [hp]); omega)
  refine yZ 69 aCW ib5 mk5 mix Tryd.func5 rfl (by kernel_rfl) (by simp) fun h => ?_
  simp -dsimp -implicitDefEqProofs only [go_sem, ↓reduceIte, Tryd.f5]
  intro n2 z2
  try simp -dsimp -implicitDefEqProofs only [go_sem, ↓reduceIte, Tryd.f5]
  first | refine aI.mk (hsp) ?_ | refine aC.mk (hsp) ?_ | refine aI.cJ (hsp) ?_ | refine aC.mk (b5.fU (hsp)) ?_
  simp -dsimp -implicitDefEqProofs only [go_sem, ↓reduceIte, Tryd.f5]
  rw [hw]
  simp -dsimp -implicitDefEqProofs only [go_sem, ↓reduceIte, Tryd.f5]
  repeat' (with_reducible first | intro _ | refine And.intro ?_ ?_)
  all_goals try (first | omega | decide)
  have hdr : List.drop (Int.toNat 1) ([aA.str w] :: List.take ps.length (List.map (fun s => [aA.str s]) ps)) = ps.map fun s => [aA.str s] := by rw [List.take_of_length_le (by simp)]; rfl
  rw [hdr]
  first | refine aI.mk (hrn) ?_ | refine aC.mk (hrn) ?_ | refine aI.cJ (hrn) ?_ | refine aC.mk (b5.fU (hrn)) ?_
  simp -dsimp -implicitDefEqProofs only [go_sem, ↓reduceIte, Tryd.f5]
  refine fV (keep := aCW) (ib := ib5) (mk := mk5) mix (by kernel_rfl) (fun k : Nat => [(0, .str t), (2, .op n2 4 0 0), (4, lN 1 (fun s => [.str s]) (w :: ps)), (5, lN 1 (fun n => [I n]) (qD ps)), (6, .bool (dD 999999999 ps).isSome), (7, I k)]) (fun _ => a7 h n2 (.row 4 [[.v (I 0), .v (I 0), .v (I 0), .v .aV]])) (fun k => (1 ≤ k ∧ k ≤ 11) ∧ ∀ a, bJ t = some a → (k : Int) ≤ a.aD) (fun k => 11 - k) 1 ⟨by simp [fX, bG], Heap.le_refl _, ⟨by omega, by omega⟩, fun a ha => (bX ha).1.kind.1⟩ ?_
  rintro k ⟨⟨hk1, hk2⟩, hmin⟩
  rcases Nat.lt_or_ge k 11 with hlt | hge
  ·cases hN : dD 999999999 ps with
   |none =>
    have hno : bJ t = none := qF fun a ha e => by
     have := rL ha
     rw [e, hw] at this
     injection this with h1 h2
     rw [h2, uZ ha] at hN; cases hN
    simp -dsimp -implicitDefEqProofs only [go_sem, ↓reduceIte, Tryd.f5, Option.isSome_none]
    repeat' (with_reducible first | intro _ | refine And.intro ?_ ?_)
    all_goals try (first | omega | decide)
    all_goals exact kT hno (by repeat' (first | exact Heap.le_refl _ | refine Heap.bB ?_ | refine Heap.a8 (by first | assumption | (rw [aB _ _ _ _ (by assumption)]; assumption) | (rw [aB _ _ _ _ (by assumption), aB _ _ _ _ (by assumption)]; assumption) | (rw [aB _ _ _ _ (by assumption), aB _ _ _ _ (by assumption), aB _ _ _ _ (by assumption)]; assumption)) ?_))
   |some n =>
    have hg := rK hN
    rw [hg]
    have hnn := (eM (by decide)).1 hN
    have hnl : n.length = ps.length := by rw [hnn.1]; simp
    simp -dsimp -implicitDefEqProofs only [go_sem, ↓reduceIte, Tryd.f5, Option.isSome_some]
    repeat' (with_reducible first | intro _ | refine And.intro ?_ ?_)
    all_goals try (first | omega | decide)
    have hget : ∀ L : List (List aA), (([aA.str w] :: L)[Int.toNat 0]?) = some [.str w] := fun _ => rfl
    have hu : (if (k : Int) = 1 then 2 else if (k : Int) = 8 then 0 else if (k : Int) = 9 then 0 else 1 : Int) = (dU k : Nat) := by
     unfold dU
     rcases (by omega : (k : Int) = 1 ∨ (k : Int) = 8 ∨ (k : Int) = 9 ∨ ((k : Int) ≠ 1 ∧ (k : Int) ≠ 8 ∧ (k : Int) ≠ 9)) with e | e | e | e
     all_goals simp [e]
    have hul := w4 k
    have hus := gA k
    rw [hu] at hus
    first | refine aI.mk (hus) ?_ | refine aC.mk (hus) ?_ | refine aI.cJ (hus) ?_ | refine aC.mk (b5.fU (hus)) ?_
    simp -dsimp -implicitDefEqProofs only [go_sem, ↓reduceIte, Tryd.f5, hget]
    refine ⟨by omega, ?_⟩
    have hfact : ∀ a, bJ t = some a → w = bR a.aD ∧ n = bI a := fun a ha => by
     obtain ⟨h1, h2⟩ := bX ha
     have h3 := rL h1
     rw [h2, hw] at h3
     injection h3 with h3 h4
     rw [h4, uZ h1] at hN
     exact ⟨h3, (Option.some.inj hN).symm⟩
    have hnext : (∀ a, bJ t = some a → ¬ a.aD = k) → ∃ x' : Nat, (true = (some n).isSome ∧ IntKind.i64.wrap ((k : Int) + 1) = (x' : Int)) ∧ ((1 ≤ x' ∧ x' ≤ 11) ∧ ∀ (a : aT), bJ t = some a → (x' : Int) ≤ a.aD) ∧ 11 - x' < 11 - k := fun hq => ⟨k + 1, ⟨rfl, IntWalk.i64_in _ (by omega)⟩, ⟨⟨by omega, by omega⟩, fun a ha => by have := hmin a ha; have := hq a ha; omega⟩, by omega⟩
    have nB : ∀ (g : Heap), (a7 h n2 (.row 4 [[.v (I 0), .v (I 0), .v (I 0), .v .aV]])).le g → (∀ a, bJ t = some a → ¬ a.aD = k) → ∃ x' : Nat, (true = (some n).isSome ∧ IntKind.i64.wrap ((k : Int) + 1) = (x' : Int)) ∧ (a7 h n2 (.row 4 [[.v (I 0), .v (I 0), .v (I 0), .v .aV]])).le g ∧ ((1 ≤ x' ∧ x' ≤ 11) ∧ ∀ (a : aT), bJ t = some a → (x' : Int) ≤ a.aD) ∧ 11 - x' < 11 - k := fun g hg hq => by
     obtain ⟨x', h1, h2⟩ := hnext hq
     exact ⟨x', h1, hg, h2⟩
    first | refine aI.mk (hP k (by omega) (by omega)) ?_ | refine aC.mk (hP k (by omega) (by omega)) ?_ | refine aI.cJ (hP k (by omega) (by omega)) ?_ | refine aC.mk (b5.fU (hP k (by omega) (by omega))) ?_
    simp -dsimp -implicitDefEqProofs only [go_sem, ↓reduceIte, Tryd.f5, hget]
    refine ⟨fun hwk _ => ⟨fun hlu => hnext fun a ha hak => ?_, fun hlu => ⟨by omega, Nat.le_refl _, ?_⟩⟩, fun hwk => hnext fun a ha hak => hwk (hak ▸ (hfact a ha).1)⟩
    ·have := uY a
     rw [← (hfact a ha).2, hak] at this; omega
    have aMP : List.drop (dU k) (List.take n.length (List.map (fun n => [I n]) n)) = (n.drop (dU k)).map fun n => [I n] := by rw [List.take_of_length_le (by simp), List.map_drop]
    rw [aMP]
    refine aI.wn1 (zO (n.drop (dU k)) (by simp; omega)) z2 ?_
    rintro r_ l_ g ⟨y, oy, rfl, rfl⟩ wn z8
    have oa : (bM k n).o [.v (I k), .v (I (bM k n).fA), .v (I (bM k n).fB), y] := ⟨y, rfl, oy⟩
    have has : (bM k n).s ≤ 1048576 := by
     have := (bM k n).xO
     simp only [bM, List.length_drop, vJ] at this ⊢
     omega
    rcases (by omega : dU k = 0 ∨ dU k = 1 ∨ dU k = 2) with e | e | e
    ·have eA : (bM k n).fA = if 0 < 0 then n.getD 0 0 else 0 := by simp [bM, e]
     have eB : (bM k n).fB = if 1 < 0 then n.getD 1 0 else 0 := by simp [bM, e]
     simp only [Nat.lt_irrefl, ↓reduceIte, Nat.zero_lt_one, Nat.not_lt_zero, Nat.one_lt_two, Nat.zero_lt_two, (by decide : ¬ 1 < 0)] at eA eB
     have c0 : (((0 : Nat) : Int) > 0) = _ := eq_false (by omega)
     have c1 : (((0 : Nat) : Int) > 1) = _ := eq_false (by omega)
     rw [e]
     simp -dsimp -implicitDefEqProofs only [go_sem, ↓reduceIte, Tryd.f5, oy.flat, oy.one, c0, c1, false_imp_iff, true_and, not_false_iff, true_imp_iff, not_true_eq_false, hget]
     intro m aO
     have dE : ¬ m = n2 := by first | exact aO.1 | exact aO | exact aO.2.1 | exact aO.2 | exact aO.2.2.1 | exact aO.2.2 | exact aO.2.2.2.1 | exact aO.2.2.2 | exact aO.2.2.2.2.1 | exact aO.2.2.2.2 | exact aO.2.2.2.2.2.1 | exact aO.2.2.2.2.2 | exact aO.2.2.2.2.2.2.1 | exact aO.2.2.2.2.2.2 | exact aO.2.2.2.2.2.2.2.1 | exact aO.2.2.2.2.2.2.2 | exact aO.2.2.2.2.2.2.2.2.1 | exact aO.2.2.2.2.2.2.2.2 | exact aO.2.2.2.2.2.2.2.2.2.1 | exact aO.2.2.2.2.2.2.2.2.2 | exact aO.2.2.2.2.2.2.2.2.2.2.1 | exact aO.2.2.2.2.2.2.2.2.2.2 | exact aO.2.2.2.2.2.2.2.2.2.2.2.1 | exact aO.2.2.2.2.2.2.2.2.2.2.2 | exact aO.2.2.2.2.2.2.2.2.2.2.2.2.1 | exact aO.2.2.2.2.2.2.2.2.2.2.2.2 | exact aO.2.2.2.2.2.2.2.2.2.2.2.2.2.1 | exact aO.2.2.2.2.2.2.2.2.2.2.2.2.2
     have b7 : (m = n2) = False := eq_false dE
     have b8 : (n2 = m) = False := eq_false (Ne.symm dE)
     have v7 : ¬ n2 = m := Ne.symm dE
     have z_m : g m = none := by first | exact aO.1 | exact aO | exact aO.2.1 | exact aO.2 | exact aO.2.2.1 | exact aO.2.2 | exact aO.2.2.2.1 | exact aO.2.2.2 | exact aO.2.2.2.2.1 | exact aO.2.2.2.2 | exact aO.2.2.2.2.2.1 | exact aO.2.2.2.2.2 | exact aO.2.2.2.2.2.2.1 | exact aO.2.2.2.2.2.2 | exact aO.2.2.2.2.2.2.2.1 | exact aO.2.2.2.2.2.2.2 | exact aO.2.2.2.2.2.2.2.2.1 | exact aO.2.2.2.2.2.2.2.2 | exact aO.2.2.2.2.2.2.2.2.2.1 | exact aO.2.2.2.2.2.2.2.2.2 | exact aO.2.2.2.2.2.2.2.2.2.2.1 | exact aO.2.2.2.2.2.2.2.2.2.2 | exact aO.2.2.2.2.2.2.2.2.2.2.2.1 | exact aO.2.2.2.2.2.2.2.2.2.2.2 | exact aO.2.2.2.2.2.2.2.2.2.2.2.2.1 | exact aO.2.2.2.2.2.2.2.2.2.2.2.2 | exact aO.2.2.2.2.2.2.2.2.2.2.2.2.2.1 | exact aO.2.2.2.2.2.2.2.2.2.2.2.2.2
     repeat' (with_reducible first | intro _ | refine And.intro ?_ ?_)
     all_goals try omega
     have hrow : ([[Cell.v (aA.int IntKind.i64 k), Cell.v (aA.int IntKind.i64 (bM k n).fA), Cell.v (aA.int IntKind.i64 (bM k n).fB), Cell.v y.val]] : List (List Cell)) = OV.cells [[.v (I k), .v (I (bM k n).fA), .v (I (bM k n).fB), y]] := rfl
     rw [eA, eB] at hrow
     simp only [aQ]
     rw [hrow]
     have hzm : a7 g n2 (.row 4 [[.v (I 0), .v (I 0), .v (I 0), .v .aV]]) m = none := by rw [aB _ _ _ _ dE]; exact z_m
     have hvw := View.box (sz := 4) (aT.pY oa) hzm (by simpa only [OV.cL, OV.eD, OV.dC, List.nil_append, List.append_nil] using (wn.over (o := .row 4 [[.v (I 0), .v (I 0), .v (I 0), .v .aV]]) z8).fO)
     rw [eA, eB] at hvw oa
     refine aI.eL (vW (bM k n) has) (aK.cons hvw aK.nil) rfl ?_
     simp -dsimp -implicitDefEqProofs only [go_sem, ↓reduceIte, Tryd.f5]
     refine ⟨fun hok => ?_, fun hok => ?_⟩
     ·refine aI.eL (lT (bM k n) hok) (aK.cons hvw aK.nil) rfl ?_
      simp -dsimp -implicitDefEqProofs only [go_sem, ↓reduceIte, Tryd.f5, OV.aU, OV.aF, OV.bL, aQ, aB, mY, cM, cY, oy.flat, oy.one, b7, b8]
      refine ⟨fun htx => ?_, fun htx => nB _ ?_ fun a ha hak => htx ?_⟩
      ·rw [eZ (eY hok ((cW hok).trans htx))]
       exact sC (w := fun y => .bY [y, I 0]) oa (by simpa only [OV.cL, OV.eD, OV.dC, List.nil_append, List.append_nil] using wn) (by repeat' (first | exact Heap.le_refl _ | refine Heap.bB ?_ | refine Heap.a8 (by first | assumption | (rw [aB _ _ _ _ (by assumption)]; assumption) | (rw [aB _ _ _ _ (by assumption), aB _ _ _ _ (by assumption)]; assumption) | (rw [aB _ _ _ _ (by assumption), aB _ _ _ _ (by assumption), aB _ _ _ _ (by assumption)]; assumption)) ?_))
      ·exact Heap.le_trans (wn.over (o := .row 4 [[.v (I 0), .v (I 0), .v (I 0), .v .aV]]) z8).le (Heap.a8 hzm (Heap.le_refl _))
      ·obtain ⟨q1, q2⟩ := bX ha
       rw [show bM k n = a by rw [← hak, (hfact a ha).2]; exact eX q1, ← cW q1, q2]
     ·refine nB _ ?_ fun a ha hak => hok ?_
      ·exact Heap.le_trans (wn.over (o := .row 4 [[.v (I 0), .v (I 0), .v (I 0), .v .aV]]) z8).le (Heap.a8 hzm (Heap.le_refl _))
      ·obtain ⟨q1, q2⟩ := bX ha
       rw [show bM k n = a by rw [← hak, (hfact a ha).2]; exact eX q1]; exact q1
    ·have e0 : n[Int.toNat 0]? = some (n.getD 0 0) := by
      show n[0]? = _
      rw [List.getD_eq_getElem?_getD, List.getElem?_eq_getElem (by omega)]; rfl
     have eA : (bM k n).fA = if 0 < 1 then n.getD 0 0 else 0 := by simp [bM, e]
     have eB : (bM k n).fB = if 1 < 1 then n.getD 1 0 else 0 := by simp [bM, e]
     simp only [Nat.lt_irrefl, ↓reduceIte, Nat.zero_lt_one, Nat.not_lt_zero, Nat.one_lt_two, Nat.zero_lt_two, (by decide : ¬ 1 < 0)] at eA eB
     have c0 : (((1 : Nat) : Int) > 0) = _ := eq_true (by omega)
     have c1 : (((1 : Nat) : Int) > 1) = _ := eq_false (by omega)
     rw [e]
     simp -dsimp -implicitDefEqProofs only [go_sem, ↓reduceIte, Tryd.f5, oy.flat, oy.one, c0, c1, false_imp_iff, true_and, not_false_iff, true_imp_iff, not_true_eq_false, e0]
     intro m aO
     have dE : ¬ m = n2 := by first | exact aO.1 | exact aO | exact aO.2.1 | exact aO.2 | exact aO.2.2.1 | exact aO.2.2 | exact aO.2.2.2.1 | exact aO.2.2.2 | exact aO.2.2.2.2.1 | exact aO.2.2.2.2 | exact aO.2.2.2.2.2.1 | exact aO.2.2.2.2.2 | exact aO.2.2.2.2.2.2.1 | exact aO.2.2.2.2.2.2 | exact aO.2.2.2.2.2.2.2.1 | exact aO.2.2.2.2.2.2.2 | exact aO.2.2.2.2.2.2.2.2.1 | exact aO.2.2.2.2.2.2.2.2 | exact aO.2.2.2.2.2.2.2.2.2.1 | exact aO.2.2.2.2.2.2.2.2.2 | exact aO.2.2.2.2.2.2.2.2.2.2.1 | exact aO.2.2.2.2.2.2.2.2.2.2 | exact aO.2.2.2.2.2.2.2.2.2.2.2.1 | exact aO.2.2.2.2.2.2.2.2.2.2.2 | exact aO.2.2.2.2.2.2.2.2.2.2.2.2.1 | exact aO.2.2.2.2.2.2.2.2.2.2.2.2 | exact aO.2.2.2.2.2.2.2.2.2.2.2.2.2.1 | exact aO.2.2.2.2.2.2.2.2.2.2.2.2.2
     have b7 : (m = n2) = False := eq_false dE
     have b8 : (n2 = m) = False := eq_false (Ne.symm dE)
     have v7 : ¬ n2 = m := Ne.symm dE
     have z_m : g m = none := by first | exact aO.1 | exact aO | exact aO.2.1 | exact aO.2 | exact aO.2.2.1 | exact aO.2.2 | exact aO.2.2.2.1 | exact aO.2.2.2 | exact aO.2.2.2.2.1 | exact aO.2.2.2.2 | exact aO.2.2.2.2.2.1 | exact aO.2.2.2.2.2 | exact aO.2.2.2.2.2.2.1 | exact aO.2.2.2.2.2.2 | exact aO.2.2.2.2.2.2.2.1 | exact aO.2.2.2.2.2.2.2 | exact aO.2.2.2.2.2.2.2.2.1 | exact aO.2.2.2.2.2.2.2.2 | exact aO.2.2.2.2.2.2.2.2.2.1 | exact aO.2.2.2.2.2.2.2.2.2 | exact aO.2.2.2.2.2.2.2.2.2.2.1 | exact aO.2.2.2.2.2.2.2.2.2.2 | exact aO.2.2.2.2.2.2.2.2.2.2.2.1 | exact aO.2.2.2.2.2.2.2.2.2.2.2 | exact aO.2.2.2.2.2.2.2.2.2.2.2.2.1 | exact aO.2.2.2.2.2.2.2.2.2.2.2.2 | exact aO.2.2.2.2.2.2.2.2.2.2.2.2.2.1 | exact aO.2.2.2.2.2.2.2.2.2.2.2.2.2
     repeat' (with_reducible first | intro _ | refine And.intro ?_ ?_)
     all_goals try omega
     have hrow : ([[Cell.v (aA.int IntKind.i64 k), Cell.v (aA.int IntKind.i64 (bM k n).fA), Cell.v (aA.int IntKind.i64 (bM k n).fB), Cell.v y.val]] : List (List Cell)) = OV.cells [[.v (I k), .v (I (bM k n).fA), .v (I (bM k n).fB), y]] := rfl
     rw [eA, eB] at hrow
     simp only [aQ]
     rw [hrow]
     have hzm : a7 g n2 (.row 4 [[.v (I 0), .v (I 0), .v (I 0), .v .aV]]) m = none := by rw [aB _ _ _ _ dE]; exact z_m
     have hvw := View.box (sz := 4) (aT.pY oa) hzm (by simpa only [OV.cL, OV.eD, OV.dC, List.nil_append, List.append_nil] using (wn.over (o := .row 4 [[.v (I 0), .v (I 0), .v (I 0), .v .aV]]) z8).fO)
     rw [eA, eB] at hvw oa
     refine aI.eL (vW (bM k n) has) (aK.cons hvw aK.nil) rfl ?_
     simp -dsimp -implicitDefEqProofs only [go_sem, ↓reduceIte, Tryd.f5]
     refine ⟨fun hok => ?_, fun hok => ?_⟩
     ·refine aI.eL (lT (bM k n) hok) (aK.cons hvw aK.nil) rfl ?_
      simp -dsimp -implicitDefEqProofs only [go_sem, ↓reduceIte, Tryd.f5, OV.aU, OV.aF, OV.bL, aQ, aB, mY, cM, cY, oy.flat, oy.one, b7, b8]
      refine ⟨fun htx => ?_, fun htx => nB _ ?_ fun a ha hak => htx ?_⟩
      ·rw [eZ (eY hok ((cW hok).trans htx))]
       exact sC (w := fun y => .bY [y, I 0]) oa (by simpa only [OV.cL, OV.eD, OV.dC, List.nil_append, List.append_nil] using wn) (by repeat' (first | exact Heap.le_refl _ | refine Heap.bB ?_ | refine Heap.a8 (by first | assumption | (rw [aB _ _ _ _ (by assumption)]; assumption) | (rw [aB _ _ _ _ (by assumption), aB _ _ _ _ (by assumption)]; assumption) | (rw [aB _ _ _ _ (by assumption), aB _ _ _ _ (by assumption), aB _ _ _ _ (by assumption)]; assumption)) ?_))
      ·exact Heap.le_trans (wn.over (o := .row 4 [[.v (I 0), .v (I 0), .v (I 0), .v .aV]]) z8).le (Heap.a8 hzm (Heap.le_refl _))
      ·obtain ⟨q1, q2⟩ := bX ha
       rw [show bM k n = a by rw [← hak, (hfact a ha).2]; exact eX q1, ← cW q1, q2]
     ·refine nB _ ?_ fun a ha hak => hok ?_
      ·exact Heap.le_trans (wn.over (o := .row 4 [[.v (I 0), .v (I 0), .v (I 0), .v .aV]]) z8).le (Heap.a8 hzm (Heap.le_refl _))
      ·obtain ⟨q1, q2⟩ := bX ha
       rw [show bM k n = a by rw [← hak, (hfact a ha).2]; exact eX q1]; exact q1
    ·have e0 : n[Int.toNat 0]? = some (n.getD 0 0) := by
      show n[0]? = _
      rw [List.getD_eq_getElem?_getD, List.getElem?_eq_getElem (by omega)]; rfl
     have e1 : n[Int.toNat 1]? = some (n.getD 1 0) := by
      show n[1]? = _
      rw [List.getD_eq_getElem?_getD, List.getElem?_eq_getElem (by omega)]; rfl
     have eA : (bM k n).fA = if 0 < 2 then n.getD 0 0 else 0 := by simp [bM, e]
     have eB : (bM k n).fB = if 1 < 2 then n.getD 1 0 else 0 := by simp [bM, e]
     simp only [Nat.lt_irrefl, ↓reduceIte, Nat.zero_lt_one, Nat.not_lt_zero, Nat.one_lt_two, Nat.zero_lt_two, (by decide : ¬ 1 < 0)] at eA eB
     have c0 : (((2 : Nat) : Int) > 0) = _ := eq_true (by omega)
     have c1 : (((2 : Nat) : Int) > 1) = _ := eq_true (by omega)
     rw [e]
     simp -dsimp -implicitDefEqProofs only [go_sem, ↓reduceIte, Tryd.f5, oy.flat, oy.one, c0, c1, false_imp_iff, true_and, not_false_iff, true_imp_iff, not_true_eq_false, e0, e1]
     intro m aO
     have dE : ¬ m = n2 := by first | exact aO.1 | exact aO | exact aO.2.1 | exact aO.2 | exact aO.2.2.1 | exact aO.2.2 | exact aO.2.2.2.1 | exact aO.2.2.2 | exact aO.2.2.2.2.1 | exact aO.2.2.2.2 | exact aO.2.2.2.2.2.1 | exact aO.2.2.2.2.2 | exact aO.2.2.2.2.2.2.1 | exact aO.2.2.2.2.2.2 | exact aO.2.2.2.2.2.2.2.1 | exact aO.2.2.2.2.2.2.2 | exact aO.2.2.2.2.2.2.2.2.1 | exact aO.2.2.2.2.2.2.2.2 | exact aO.2.2.2.2.2.2.2.2.2.1 | exact aO.2.2.2.2.2.2.2.2.2 | exact aO.2.2.2.2.2.2.2.2.2.2.1 | exact aO.2.2.2.2.2.2.2.2.2.2 | exact aO.2.2.2.2.2.2.2.2.2.2.2.1 | exact aO.2.2.2.2.2.2.2.2.2.2.2 | exact aO.2.2.2.2.2.2.2.2.2.2.2.2.1 | exact aO.2.2.2.2.2.2.2.2.2.2.2.2 | exact aO.2.2.2.2.2.2.2.2.2.2.2.2.2.1 | exact aO.2.2.2.2.2.2.2.2.2.2.2.2.2
     have b7 : (m = n2) = False := eq_false dE
     have b8 : (n2 = m) = False := eq_false (Ne.symm dE)
     have v7 : ¬ n2 = m := Ne.symm dE
     have z_m : g m = none := by first | exact aO.1 | exact aO | exact aO.2.1 | exact aO.2 | exact aO.2.2.1 | exact aO.2.2 | exact aO.2.2.2.1 | exact aO.2.2.2 | exact aO.2.2.2.2.1 | exact aO.2.2.2.2 | exact aO.2.2.2.2.2.1 | exact aO.2.2.2.2.2 | exact aO.2.2.2.2.2.2.1 | exact aO.2.2.2.2.2.2 | exact aO.2.2.2.2.2.2.2.1 | exact aO.2.2.2.2.2.2.2 | exact aO.2.2.2.2.2.2.2.2.1 | exact aO.2.2.2.2.2.2.2.2 | exact aO.2.2.2.2.2.2.2.2.2.1 | exact aO.2.2.2.2.2.2.2.2.2 | exact aO.2.2.2.2.2.2.2.2.2.2.1 | exact aO.2.2.2.2.2.2.2.2.2.2 | exact aO.2.2.2.2.2.2.2.2.2.2.2.1 | exact aO.2.2.2.2.2.2.2.2.2.2.2 | exact aO.2.2.2.2.2.2.2.2.2.2.2.2.1 | exact aO.2.2.2.2.2.2.2.2.2.2.2.2 | exact aO.2.2.2.2.2.2.2.2.2.2.2.2.2.1 | exact aO.2.2.2.2.2.2.2.2.2.2.2.2.2
     repeat' (with_reducible first | intro _ | refine And.intro ?_ ?_)
     all_goals try omega
     have hrow : ([[Cell.v (aA.int IntKind.i64 k), Cell.v (aA.int IntKind.i64 (bM k n).fA), Cell.v (aA.int IntKind.i64 (bM k n).fB), Cell.v y.val]] : List (List Cell)) = OV.cells [[.v (I k), .v (I (bM k n).fA), .v (I (bM k n).fB), y]] := rfl
     rw [eA, eB] at hrow
     simp only [aQ]
     rw [hrow]
     have hzm : a7 g n2 (.row 4 [[.v (I 0), .v (I 0), .v (I 0), .v .aV]]) m = none := by rw [aB _ _ _ _ dE]; exact z_m
     have hvw := View.box (sz := 4) (aT.pY oa) hzm (by simpa only [OV.cL, OV.eD, OV.dC, List.nil_append, List.append_nil] using (wn.over (o := .row 4 [[.v (I 0), .v (I 0), .v (I 0), .v .aV]]) z8).fO)
     rw [eA, eB] at hvw oa
     refine aI.eL (vW (bM k n) has) (aK.cons hvw aK.nil) rfl ?_
     simp -dsimp -implicitDefEqProofs only [go_sem, ↓reduceIte, Tryd.f5]
     refine ⟨fun hok => ?_, fun hok => ?_⟩
     ·refine aI.eL (lT (bM k n) hok) (aK.cons hvw aK.nil) rfl ?_
      simp -dsimp -implicitDefEqProofs only [go_sem, ↓reduceIte, Tryd.f5, OV.aU, OV.aF, OV.bL, aQ, aB, mY, cM, cY, oy.flat, oy.one, b7, b8]
      refine ⟨fun htx => ?_, fun htx => nB _ ?_ fun a ha hak => htx ?_⟩
      ·rw [eZ (eY hok ((cW hok).trans htx))]
       exact sC (w := fun y => .bY [y, I 0]) oa (by simpa only [OV.cL, OV.eD, OV.dC, List.nil_append, List.append_nil] using wn) (by repeat' (first | exact Heap.le_refl _ | refine Heap.bB ?_ | refine Heap.a8 (by first | assumption | (rw [aB _ _ _ _ (by assumption)]; assumption) | (rw [aB _ _ _ _ (by assumption), aB _ _ _ _ (by assumption)]; assumption) | (rw [aB _ _ _ _ (by assumption), aB _ _ _ _ (by assumption), aB _ _ _ _ (by assumption)]; assumption)) ?_))
      ·exact Heap.le_trans (wn.over (o := .row 4 [[.v (I 0), .v (I 0), .v (I 0), .v .aV]]) z8).le (Heap.a8 hzm (Heap.le_refl _))
      ·obtain ⟨q1, q2⟩ := bX ha
       rw [show bM k n = a by rw [← hak, (hfact a ha).2]; exact eX q1, ← cW q1, q2]
     ·refine nB _ ?_ fun a ha hak => hok ?_
      ·exact Heap.le_trans (wn.over (o := .row 4 [[.v (I 0), .v (I 0), .v (I 0), .v .aV]]) z8).le (Heap.a8 hzm (Heap.le_refl _))
      ·obtain ⟨q1, q2⟩ := bX ha
       rw [show bM k n = a by rw [← hak, (hfact a ha).2]; exact eX q1]; exact q1
  ·have aMQ : k = 11 := by omega
   have hno : bJ t = none := by
    cases e : bJ t with
    |none => rfl
    |some a =>
     have h1 := hmin a e
     have h2 := (bX e).1.kind
     omega
   subst aMQ
   simp -dsimp -implicitDefEqProofs only [go_sem, ↓reduceIte, Tryd.f5]
   repeat' (with_reducible first | intro _ | refine And.intro ?_ ?_)
   all_goals try (first | omega | decide)
   all_goals exact kT hno (by repeat' (first | exact Heap.le_refl _ | refine Heap.bB ?_ | refine Heap.a8 (by first | assumption | (rw [aB _ _ _ _ (by assumption)]; assumption) | (rw [aB _ _ _ _ (by assumption), aB _ _ _ _ (by assumption)]; assumption) | (rw [aB _ _ _ _ (by assumption), aB _ _ _ _ (by assumption), aB _ _ _ _ (by assumption)]; assumption)) ?_))
open Go.Proofs
set_option linter.unusedVariables false
set_option linter.unusedSimpArgs false
theorem bytes_inj {a b : List UInt8} : ((⟨a.toArray⟩ : ByteArray) = ⟨b.toArray⟩) ↔ a = b := by simp
def w5 : List (List UInt8) := [[103, 105, 118, 101], [119, 111, 114, 107], [100, 101, 108, 105, 118, 101, 114], [99, 111, 112, 121], [100, 114, 111, 112], [100, 111, 119, 110], [99, 114, 97, 115, 104], [115, 121, 110, 99], [112, 111, 105, 110, 116], [116, 101, 114, 109]]
def kindOf (w : List UInt8) : Int := Go.Lib.idxOfS (w5.map fun s => (⟨s.toArray⟩ : ByteArray)) ⟨w.toArray⟩ + 1
theorem jT (w : List UInt8) : (kindOf w = 0 ∧ ∀ k : Int, 1 ≤ k → k ≤ 10 → ¬ w = bR k) ∨ (1 ≤ kindOf w ∧ kindOf w ≤ 10 ∧ w = bR (kindOf w)) := by
 by_cases h : ∃ k : Int, (1 ≤ k ∧ k ≤ 10) ∧ w = bR k
 ·obtain ⟨k, hk, rfl⟩ := h
  right
  have : kindOf (bR k) = k := by
   rcases (by omega : k = 1 ∨ k = 2 ∨ k = 3 ∨ k = 4 ∨ k = 5 ∨ k = 6 ∨ k = 7 ∨ k = 8 ∨ k = 9 ∨ k = 10) with rfl | rfl | rfl | rfl | rfl | rfl | rfl | rfl | rfl | rfl
   all_goals decide
  rw [this]; exact ⟨hk.1, hk.2, rfl⟩
 ·left
  have hn : ∀ k : Int, 1 ≤ k → k ≤ 10 → ¬ w = bR k := fun k h1 h2 h3 => h ⟨k, ⟨h1, h2⟩, h3⟩
  refine ⟨?_, hn⟩
  have q : ∀ k : Int, 1 ≤ k → k ≤ 10 → ¬ bR k = w := fun k h1 h2 e => hn k h1 h2 e.symm
  have h1 : ¬ [103, 105, 118, 101] = w := q 1 (by decide) (by decide)
  have h2 : ¬ [119, 111, 114, 107] = w := q 2 (by decide) (by decide)
  have h3 : ¬ [100, 101, 108, 105, 118, 101, 114] = w := q 3 (by decide) (by decide)
  have h4 : ¬ [99, 111, 112, 121] = w := q 4 (by decide) (by decide)
  have h5 : ¬ [100, 114, 111, 112] = w := q 5 (by decide) (by decide)
  have h6 : ¬ [100, 111, 119, 110] = w := q 6 (by decide) (by decide)
  have h7 : ¬ [99, 114, 97, 115, 104] = w := q 7 (by decide) (by decide)
  have h8 : ¬ [115, 121, 110, 99] = w := q 8 (by decide) (by decide)
  have h9 : ¬ [112, 111, 105, 110, 116] = w := q 9 (by decide) (by decide)
  have h10 : ¬ [116, 101, 114, 109] = w := q 10 (by decide) (by decide)
  simp only [kindOf, w5, List.map_cons, List.map_nil, Go.Lib.idxOfS, Go.Lib.idxFromS, bytes_inj]
  rw [if_neg h1, if_neg h2, if_neg h3, if_neg h4, if_neg h5, if_neg h6, if_neg h7, if_neg h8, if_neg h9, if_neg h10]
  rfl
theorem n5 {t : List UInt8} {a : aT} (h : bJ t = some a) : (Go.Lib.cut t [32]).1 = bR a.aD ∧ fD 14 1000002 (Go.Lib.cut t [32]).2.1 = some (bI a) := by
 obtain ⟨h1, h2⟩ := bX h
 rw [cW h1] at h2
 have hl := kS h1
 have hr := jS h1 (hi := 1000002) (Int.le_refl _)
 cases hn : bI a with
 |nil =>
  rw [hn, bN, List.append_nil] at h2
  rw [← h2, zB 32 _ (gS _)]
  exact ⟨rfl, xV.2 rfl⟩
 |cons n l =>
  rw [hn] at h2 hl hr
  have h3 : t = bR a.aD ++ 32 :: (Go.Lib.itoa n ++ bN l) := by rw [← h2]; simp [bN]
  rw [h3, aBP 32 _ _ (gS _)]
  refine ⟨rfl, (uN (by decide) (w := bR a.aD) (by simp)).2 ⟨?_, hl, hr⟩⟩
  simp [bN]
def bS (K : Int) (L : List Int) : aT := ⟨K, if (K ≠ 8 ∧ K ≠ 9) ∧ 0 < L.length then L.getD 0 0 else 0, if K = 1 ∧ 1 < L.length then L.getD 1 0 else 0, L.drop (if K = 1 ∧ 1 < L.length then 2 else if (K ≠ 8 ∧ K ≠ 9) ∧ 0 < L.length then 1 else 0)⟩
theorem aB0 {a : aT} (ha : a.ok) : bS a.aD (bI a) = a := by
 have h1 := ha.first
 have h2 := ha.second
 have h3 := eX ha
 have h4 := uY a
 generalize bI a = L at *
 conv => rhs; rw [← h3]
 unfold bS bM
 rcases (by omega : a.aD = 1 ∨ a.aD = 8 ∨ a.aD = 9 ∨ (a.aD ≠ 1 ∧ a.aD ≠ 8 ∧ a.aD ≠ 9)) with e | e | e | e
 ·have hu : dU a.aD = 2 := by simp [dU, e]
  rw [hu] at h4 ⊢
  simp [e, show 0 < L.length by omega, show 1 < L.length by omega]
 ·have hu : dU a.aD = 0 := by simp [dU, e]
  rw [hu]; simp [e]
 ·have hu : dU a.aD = 0 := by simp [dU, e]
  rw [hu]; simp [e]
 ·have hu : dU a.aD = 1 := by simp [dU, e]
  rw [hu] at h4 ⊢
  simp [e, show 0 < L.length by omega]
theorem sK {t : List UInt8} {L : List Int} (hL : fD 14 1000002 (Go.Lib.cut t [32]).2.1 = some L) (hK : ¬ kindOf (Go.Lib.cut t [32]).1 = 0) :
  (b6 (bS (kindOf (Go.Lib.cut t [32]).1) L) = t → (bS (kindOf (Go.Lib.cut t [32]).1) L).ok ∧ bJ t = some (bS (kindOf (Go.Lib.cut t [32]).1) L)) ∧ (¬ b6 (bS (kindOf (Go.Lib.cut t [32]).1) L) = t → bJ t = none) := by
 constructor
 ·intro h
  have hok : (bS (kindOf (Go.Lib.cut t [32]).1) L).ok := by
   refine Classical.byContradiction fun hn => ?_
   rw [b6, if_neg hn] at h
   rw [← h] at hK
   exact hK (by decide)
  exact ⟨hok, eY hok h⟩
 ·intro h
  refine qF fun a ha e => h ?_
  obtain ⟨h1, h2⟩ := n5 (eY ha e)
  rw [hL] at h2
  rcases jT (Go.Lib.cut t [32]).1 with q | q
  ·exact absurd q.1 hK
  ·have hk := nY ⟨q.1, q.2.1⟩ ha.kind (q.2.2.symm.trans h1)
   rw [hk, Option.some.inj h2, aB0 ha]; exact e
theorem u0 {t : List UInt8} (h : fD 14 1000002 (Go.Lib.cut t [32]).2.1 = none ∨ kindOf (Go.Lib.cut t [32]).1 = 0) : bJ t = none := by
 cases e : bJ t with
 |none => rfl
 |some a =>
  obtain ⟨h1, h2⟩ := n5 e
  have ha := (bX e).1
  rcases h with h | h
  ·rw [h] at h2; cases h2
  ·rcases jT (Go.Lib.cut t [32]).1 with q | q
   ·exact absurd h1 (q.2 _ ha.kind.1 ha.kind.2)
   ·omega
set_option maxRecDepth 100000
open Go.Proofs
set_option linter.unusedVariables false
set_option linter.unusedSimpArgs false
def aMR (t : List UInt8) (h : Heap) (r : aA) (h' : Heap) : Prop :=
 (∃ (a : aT) (L : List Int) (i : Nat), bJ t = some a ∧ a.aL = L.drop i ∧ i ≤ L.length ∧ ((L = [] ∧ r = .bY [.agg [I a.aD, I a.fA, I a.fB, .sl 1 [] true], I 0] ∧ h' = h) ∨ ∃ n, h n = none ∧ r = .bY [.agg [I a.aD, I a.fA, I a.fB, .os n 1 i (L.length - i)], I 0] ∧ h' = a7 h n (.row 1 ((L.map fun n => [I n]).map (List.map .v))))) ∨
 (bJ t = none ∧ r = .bY [.agg [I 0, I 0, I 0, .aV], I 5] ∧ h' = h)
@[go_sem] def aIX : List Nat := [0, 2, 3, 4, 5, 7, 8, 9, 10, 11, 35, 49, 61, 73]
@[go_sem] def ib6 : List Nat := []
@[go_sem] def mk6 : Marks := fun id => match id with | 8 => ([2, 4, 6], (.op 0 (.op 1 (.op 3 (.op 2 (.op 5 (.alt 4 (.op 6 (.op 7 .nil)) 6 (.op 4 (.op 7 .nil)))))))), [(2, 4)]) | 10 => ([2, 4, 6], (.op 0 (.op 1 (.op 3 (.op 2 (.op 5 (.alt 4 (.op 6 (.op 7 .nil)) 6 (.op 4 (.op 7 .nil)))))))), [(2, 4)]) | _ => ([], .nil, [])
set_option maxHeartbeats 1000000 in
theorem aAA (t : List UInt8) (ht : t.length ≤ 1048576) (h : Heap) : gC Tryd.prog 6 [.str t] h (aMR t h) := by
 have hcut := aMN t [32] (by omega)
 have hcl := w2 t [32]
 have hrl := xY (Go.Lib.cut t [32]).2.1 14 1000002 (by omega) (by omega) (by omega)
 have hix := aEN w5 true (Go.Lib.cut t [32]).1 (by decide)
 have hbad := u0 (t := t)
 have hgood := fun L => sK (t := t) (L := L)
 have hkc := jT (Go.Lib.cut t [32]).1
 have hidx : Go.Lib.idxOfS (w5.map fun s => (⟨s.toArray⟩ : ByteArray)) ⟨(Go.Lib.cut t [32]).1.toArray⟩ = kindOf (Go.Lib.cut t [32]).1 - 1 := by rw [kindOf]; omega
 rw [hidx] at hix
 generalize kindOf (Go.Lib.cut t [32]).1 = K at *
 have hK : 0 ≤ K ∧ K ≤ 10 := by rcases hkc with q | q <;> omega
 refine xL 76 aIX ib6 mk6 mix Tryd.func6 rfl (by kernel_rfl) (by simp) ?_
 simp -dsimp -implicitDefEqProofs only [go_sem, ↓reduceIte, Tryd.f6]
 intro n2 z2
 try simp -dsimp -implicitDefEqProofs only [go_sem, ↓reduceIte, Tryd.f6]
 first | refine aI.mk (hcut) ?_ | refine aC.mk (hcut) ?_ | refine aI.cJ (hcut) ?_ | refine aC.mk (b5.fU (hcut)) ?_
 simp -dsimp -implicitDefEqProofs only [go_sem, ↓reduceIte, Tryd.f6]
 first | refine aI.mk (fP) ?_ | refine aC.mk (fP) ?_ | refine aI.cJ (fP) ?_ | refine aC.mk (b5.fU (fP)) ?_
 simp -dsimp -implicitDefEqProofs only [go_sem, ↓reduceIte, Tryd.f6]
 refine aI.mk hix ?_
 simp -dsimp -implicitDefEqProofs only [go_sem, ↓reduceIte, Tryd.f6]
 rw [IntWalk.i64_in (K - 1 + 1) (by omega), show K - 1 + 1 = K by omega]
 intro m aO
 have dE : ¬ m = n2 := by first | exact aO.1 | exact aO | exact aO.2.1 | exact aO.2 | exact aO.2.2.1 | exact aO.2.2 | exact aO.2.2.2.1 | exact aO.2.2.2 | exact aO.2.2.2.2.1 | exact aO.2.2.2.2 | exact aO.2.2.2.2.2.1 | exact aO.2.2.2.2.2 | exact aO.2.2.2.2.2.2.1 | exact aO.2.2.2.2.2.2 | exact aO.2.2.2.2.2.2.2.1 | exact aO.2.2.2.2.2.2.2 | exact aO.2.2.2.2.2.2.2.2.1 | exact aO.2.2.2.2.2.2.2.2 | exact aO.2.2.2.2.2.2.2.2.2.1 | exact aO.2.2.2.2.2.2.2.2.2 | exact aO.2.2.2.2.2.2.2.2.2.2.1 | exact aO.2.2.2.2.2.2.2.2.2.2 | exact aO.2.2.2.2.2.2.2.2.2.2.2.1 | exact aO.2.2.2.2.2.2.2.2.2.2.2 | exact aO.2.2.2.2.2.2.2.2.2.2.2.2.1 | exact aO.2.2.2.2.2.2.2.2.2.2.2.2 | exact aO.2.2.2.2.2.2.2.2.2.2.2.2.2.1 | exact aO.2.2.2.2.2.2.2.2.2.2.2.2.2
 have b7 : (m = n2) = False := eq_false dE
 have b8 : (n2 = m) = False := eq_false (Ne.symm dE)
 have v7 : ¬ n2 = m := Ne.symm dE
 have z_m : h m = none := by first | exact aO.1 | exact aO | exact aO.2.1 | exact aO.2 | exact aO.2.2.1 | exact aO.2.2 | exact aO.2.2.2.1 | exact aO.2.2.2 | exact aO.2.2.2.2.1 | exact aO.2.2.2.2 | exact aO.2.2.2.2.2.1 | exact aO.2.2.2.2.2 | exact aO.2.2.2.2.2.2.1 | exact aO.2.2.2.2.2.2 | exact aO.2.2.2.2.2.2.2.1 | exact aO.2.2.2.2.2.2.2 | exact aO.2.2.2.2.2.2.2.2.1 | exact aO.2.2.2.2.2.2.2.2 | exact aO.2.2.2.2.2.2.2.2.2.1 | exact aO.2.2.2.2.2.2.2.2.2 | exact aO.2.2.2.2.2.2.2.2.2.2.1 | exact aO.2.2.2.2.2.2.2.2.2.2 | exact aO.2.2.2.2.2.2.2.2.2.2.2.1 | exact aO.2.2.2.2.2.2.2.2.2.2.2 | exact aO.2.2.2.2.2.2.2.2.2.2.2.2.1 | exact aO.2.2.2.2.2.2.2.2.2.2.2.2 | exact aO.2.2.2.2.2.2.2.2.2.2.2.2.2.1 | exact aO.2.2.2.2.2.2.2.2.2.2.2.2.2
 rw [aQ]
 refine aI.wn2 hrl z2 ⟨dE, z_m⟩ ?_
 rintro r_ l_ g ⟨y, oy, rfl, rfl⟩ wn z8 zmg
 obtain ⟨o, ho, hv, hg⟩ := wY oy wn
 have hle : ∀ {q : Heap}, g.le q → h.le q := fun hq => Heap.le_trans wn.le hq
 cases hR : fD 14 1000002 (Go.Lib.cut t [32]).2.1 with
 |none =>
  have hno := hbad (.inl hR)
  simp -dsimp -implicitDefEqProofs only [go_sem, ↓reduceIte, Tryd.f6, OV.aU, OV.aF, OV.bL, aQ, aB, Option.isSome_none, b7, b8]
  exact ⟨_, hle (by repeat' (first | exact Heap.le_refl _ | refine Heap.bB ?_ | refine Heap.a8 (by first | assumption | (rw [aB _ _ _ _ (by assumption)]; assumption) | (rw [aB _ _ _ _ (by assumption), aB _ _ _ _ (by assumption)]; assumption) | (rw [aB _ _ _ _ (by assumption), aB _ _ _ _ (by assumption), aB _ _ _ _ (by assumption)]; assumption)) ?_)), .inr ⟨hno, rfl, rfl⟩⟩
 |some L =>
  have hLl := xX hR
  rw [hR] at ho hv hg oy
  simp only [Option.getD_some] at ho hv hg oy
  by_cases hK0 : K = 0
  ·have hno := hbad (.inr hK0)
   simp -dsimp -implicitDefEqProofs only [go_sem, ↓reduceIte, Tryd.f6, OV.aU, OV.aF, OV.bL, aQ, aB, Option.isSome_some, b7, b8, hK0]
   exact ⟨_, hle (by repeat' (first | exact Heap.le_refl _ | refine Heap.bB ?_ | refine Heap.a8 (by first | assumption | (rw [aB _ _ _ _ (by assumption)]; assumption) | (rw [aB _ _ _ _ (by assumption), aB _ _ _ _ (by assumption)]; assumption) | (rw [aB _ _ _ _ (by assumption), aB _ _ _ _ (by assumption), aB _ _ _ _ (by assumption)]; assumption)) ?_)), .inr ⟨hno, rfl, rfl⟩⟩
  ·obtain ⟨g1, g2⟩ := hgood L hR hK0
   rw [hv]
   cases o with
   |none =>
    rw [cO] at ho
    subst ho
    rw [cN] at hg
    subst hg
    simp -dsimp -implicitDefEqProofs only [go_sem, ↓reduceIte, Tryd.f6, OV.aU, OV.aF, OV.bL, aQ, aB, Option.isSome_some, b7, b8, cZ, hK0]
    refine aI.mk (cH K) ?_
    simp -dsimp -implicitDefEqProofs only [go_sem, ↓reduceIte, Tryd.f6, OV.aU, OV.aF, OV.bL, aQ, aB, b7, b8, Int.lt_irrefl, List.length_nil]
    have hc : bS K [] = ⟨K, 0, 0, []⟩ := by simp [bS]
    have hat : dV Tryd.prog 27 [.agg [I K, I 0, I 0, .sl 1 [] true]] (.str (b6 (bS K []))) :=
     (b2 (bS K []) (by rw [hc]; exact Nat.zero_le _)).sub (dZ.cons (by rw [hc]; exact Sub.agg (.cons (.refl _) (.cons (.refl _) (.cons (.refl _) (.cons (Sub.loose _ _ _) .nil))))) dZ.nil)
    repeat' (with_reducible first | intro _ | refine And.intro ?_ ?_)
    all_goals try omega
    all_goals
     refine aI.mk hat ?_
     simp -dsimp -implicitDefEqProofs only [go_sem, ↓reduceIte, Tryd.f6, OV.aU, OV.aF, OV.bL, aQ, aB, b7, b8, Int.lt_irrefl, List.length_nil]
     refine ⟨fun hx => ⟨_, (by repeat' (first | exact Heap.le_refl _ | refine Heap.bB ?_ | refine Heap.a8 (by first | assumption | (rw [aB _ _ _ _ (by assumption)]; assumption) | (rw [aB _ _ _ _ (by assumption), aB _ _ _ _ (by assumption)]; assumption) | (rw [aB _ _ _ _ (by assumption), aB _ _ _ _ (by assumption), aB _ _ _ _ (by assumption)]; assumption)) ?_)), .inr ⟨g2 hx, rfl, rfl⟩⟩, fun hx => ⟨_, (by repeat' (first | exact Heap.le_refl _ | refine Heap.bB ?_ | refine Heap.a8 (by first | assumption | (rw [aB _ _ _ _ (by assumption)]; assumption) | (rw [aB _ _ _ _ (by assumption), aB _ _ _ _ (by assumption)]; assumption) | (rw [aB _ _ _ _ (by assumption), aB _ _ _ _ (by assumption), aB _ _ _ _ (by assumption)]; assumption)) ?_)), .inl ⟨bS K [], [], 0, (g1 hx).2, by rw [hc]; rfl, Nat.le_refl _, .inl ⟨rfl, by rw [hc], rfl⟩⟩⟩⟩
   |some n =>
    rw [bC] at ho
    rw [a6] at hg
    subst hg
    have gn : a7 h n (.row 1 ((L.map fun x => [I x]).map (List.map .v))) n = some (.row 1 ((L.map fun x => [I x]).map (List.map .v))) := aW ..
    have jU : ¬ n = n2 := pZ gn z8
    have aET : ¬ n2 = n := Ne.symm jU
    have eF : (n = n2) = False := eq_false jU
    have eG : (n2 = n) = False := eq_false aET
    have mL : ¬ n = m := pZ gn zmg
    have aIZ : ¬ m = n := Ne.symm mL
    have gT : (n = m) = False := eq_false mL
    have gU : (m = n) = False := eq_false aIZ
    simp -dsimp -implicitDefEqProofs only [go_sem, ↓reduceIte, Tryd.f6, OV.aU, OV.aF, OV.bL, aQ, aB, Option.isSome_some, b7, gU, b8, eG, gT, eF, bH, hK0]
    refine aI.mk (cH K) ?_
    have e0 : 0 < L.length → L[Int.toNat 0]? = some (L.getD 0 0) := fun q => by
     show L[0]? = _
     rw [List.getD_eq_getElem?_getD, List.getElem?_eq_getElem q]; rfl
    have e1 : 1 < L.length → L[Int.toNat 1 + Int.toNat 0]? = some (L.getD 1 0) := fun q => by
     show L[1]? = _
     rw [List.getD_eq_getElem?_getD, List.getElem?_eq_getElem q]; rfl
    have hsz : (bS K L).s ≤ 1048576 := by
     have := (bS K L).xO
     simp only [bS, List.length_drop, vJ] at this ⊢
     omega
    have hpv : ∀ (q : Heap) (i i' len' : Nat), i = i' → i' ≤ L.length → len' = L.length - i' → q n = some (.row 1 ((L.map fun x => [I x]).map (List.map .v))) → View q (.os n 1 i len') (lN 1 (fun x => [I x]) (L.drop i')) := fun q i i' len' e1 hi e2 hq => by
     subst e1; subst e2
     have := View.part (i := i) (len := L.length - i) hq (by simp; omega)
     rw [sD, List.take_of_length_le (by simp), ← List.map_drop] at this
     exact this
    have ose : ∀ {i i' len len' : Nat}, i = i' → len = len' → aA.os n 1 i len = aA.os n 1 i' len' := fun e1 e2 => by rw [e1, e2]
    by_cases sW : 0 < L.length
    ·by_cases hl1 : 1 < L.length
     ·simp -dsimp -implicitDefEqProofs only [go_sem, ↓reduceIte, Tryd.f6, OV.aU, OV.aF, OV.bL, aQ, aB, b7, gU, b8, eG, gT, eF, e0 sW, e1 hl1]
      repeat' (with_reducible first | intro _ | refine And.intro ?_ ?_)
      all_goals try omega
      all_goals
       first
       |skip
        have hc : bS K L = ⟨K, L.getD 0 0, L.getD 1 0, L.drop 2⟩ := by
         unfold bS
         congr 1
         ·split <;> first | rfl | (exfalso; omega)
         ·split <;> first | rfl | (exfalso; omega)
         ·congr 1; split <;> (try split) <;> first | rfl | (exfalso; omega)
        refine aI.eL (b2 (bS K L) hsz) (aK.cons (View.vR (by rw [hc]; exact aK.cons (View.same _ _) (aK.cons (View.same _ _) (aK.cons (View.same _ _) (aK.cons (hpv _ _ 2 _ (by omega) (by omega) (by omega) (by rw [aB _ _ _ _ mL, aB _ _ _ _ jU, aW])) aK.nil))))) aK.nil) rfl ?_
        simp -dsimp -implicitDefEqProofs only [go_sem, ↓reduceIte, Tryd.f6, OV.aU, OV.aF, OV.bL, aQ, aB, b7, gU, b8, eG, gT, eF]
        refine ⟨fun hx => ⟨_, hle (by repeat' (first | exact Heap.le_refl _ | refine Heap.bB ?_ | refine Heap.a8 (by first | assumption | (rw [aB _ _ _ _ (by assumption)]; assumption) | (rw [aB _ _ _ _ (by assumption), aB _ _ _ _ (by assumption)]; assumption) | (rw [aB _ _ _ _ (by assumption), aB _ _ _ _ (by assumption), aB _ _ _ _ (by assumption)]; assumption)) ?_)), .inr ⟨g2 hx, rfl, rfl⟩⟩, fun hx => ⟨_, (by repeat' (first | exact Heap.le_refl _ | refine Heap.bB ?_ | refine Heap.a8 (by first | assumption | (rw [aB _ _ _ _ (by assumption)]; assumption) | (rw [aB _ _ _ _ (by assumption), aB _ _ _ _ (by assumption)]; assumption) | (rw [aB _ _ _ _ (by assumption), aB _ _ _ _ (by assumption), aB _ _ _ _ (by assumption)]; assumption)) ?_)), .inl ⟨bS K L, L, 2, (g1 hx).2, by rw [hc], by omega, .inr ⟨n, ho, by rw [hc]; exact congrArg (fun x => aA.bY [.agg [I K, I (L.getD 0 0), I (L.getD 1 0), x], I 0]) (ose (by omega) (by omega)), rfl⟩⟩⟩⟩
       |skip
        have hc : bS K L = ⟨K, L.getD 0 0, 0, L.drop 1⟩ := by
         unfold bS
         congr 1
         ·split <;> first | rfl | (exfalso; omega)
         ·split <;> first | rfl | (exfalso; omega)
         ·congr 1; split <;> (try split) <;> first | rfl | (exfalso; omega)
        refine aI.eL (b2 (bS K L) hsz) (aK.cons (View.vR (by rw [hc]; exact aK.cons (View.same _ _) (aK.cons (View.same _ _) (aK.cons (View.same _ _) (aK.cons (hpv _ _ 1 _ (by omega) (by omega) (by omega) (by rw [aB _ _ _ _ mL, aB _ _ _ _ jU, aW])) aK.nil))))) aK.nil) rfl ?_
        simp -dsimp -implicitDefEqProofs only [go_sem, ↓reduceIte, Tryd.f6, OV.aU, OV.aF, OV.bL, aQ, aB, b7, gU, b8, eG, gT, eF]
        refine ⟨fun hx => ⟨_, hle (by repeat' (first | exact Heap.le_refl _ | refine Heap.bB ?_ | refine Heap.a8 (by first | assumption | (rw [aB _ _ _ _ (by assumption)]; assumption) | (rw [aB _ _ _ _ (by assumption), aB _ _ _ _ (by assumption)]; assumption) | (rw [aB _ _ _ _ (by assumption), aB _ _ _ _ (by assumption), aB _ _ _ _ (by assumption)]; assumption)) ?_)), .inr ⟨g2 hx, rfl, rfl⟩⟩, fun hx => ⟨_, (by repeat' (first | exact Heap.le_refl _ | refine Heap.bB ?_ | refine Heap.a8 (by first | assumption | (rw [aB _ _ _ _ (by assumption)]; assumption) | (rw [aB _ _ _ _ (by assumption), aB _ _ _ _ (by assumption)]; assumption) | (rw [aB _ _ _ _ (by assumption), aB _ _ _ _ (by assumption), aB _ _ _ _ (by assumption)]; assumption)) ?_)), .inl ⟨bS K L, L, 1, (g1 hx).2, by rw [hc], by omega, .inr ⟨n, ho, by rw [hc]; exact congrArg (fun x => aA.bY [.agg [I K, I (L.getD 0 0), I (0), x], I 0]) (ose (by omega) (by omega)), rfl⟩⟩⟩⟩
       |skip
        have hc : bS K L = ⟨K, 0, 0, L.drop 0⟩ := by
         unfold bS
         congr 1
         ·split <;> first | rfl | (exfalso; omega)
         ·split <;> first | rfl | (exfalso; omega)
         ·congr 1; split <;> (try split) <;> first | rfl | (exfalso; omega)
        refine aI.eL (b2 (bS K L) hsz) (aK.cons (View.vR (by rw [hc]; exact aK.cons (View.same _ _) (aK.cons (View.same _ _) (aK.cons (View.same _ _) (aK.cons (hpv _ _ 0 _ (by omega) (by omega) (by omega) (by rw [aB _ _ _ _ mL, aB _ _ _ _ jU, aW])) aK.nil))))) aK.nil) rfl ?_
        simp -dsimp -implicitDefEqProofs only [go_sem, ↓reduceIte, Tryd.f6, OV.aU, OV.aF, OV.bL, aQ, aB, b7, gU, b8, eG, gT, eF]
        refine ⟨fun hx => ⟨_, hle (by repeat' (first | exact Heap.le_refl _ | refine Heap.bB ?_ | refine Heap.a8 (by first | assumption | (rw [aB _ _ _ _ (by assumption)]; assumption) | (rw [aB _ _ _ _ (by assumption), aB _ _ _ _ (by assumption)]; assumption) | (rw [aB _ _ _ _ (by assumption), aB _ _ _ _ (by assumption), aB _ _ _ _ (by assumption)]; assumption)) ?_)), .inr ⟨g2 hx, rfl, rfl⟩⟩, fun hx => ⟨_, (by repeat' (first | exact Heap.le_refl _ | refine Heap.bB ?_ | refine Heap.a8 (by first | assumption | (rw [aB _ _ _ _ (by assumption)]; assumption) | (rw [aB _ _ _ _ (by assumption), aB _ _ _ _ (by assumption)]; assumption) | (rw [aB _ _ _ _ (by assumption), aB _ _ _ _ (by assumption), aB _ _ _ _ (by assumption)]; assumption)) ?_)), .inl ⟨bS K L, L, 0, (g1 hx).2, by rw [hc], by omega, .inr ⟨n, ho, by rw [hc]; exact congrArg (fun x => aA.bY [.agg [I K, I (0), I (0), x], I 0]) (ose (by omega) (by omega)), rfl⟩⟩⟩⟩
       |skip
        have hc : bS K L = ⟨K, L.getD 0 0, L.getD 1 0, L.drop 2⟩ := by
         unfold bS
         congr 1
         ·split <;> first | rfl | (exfalso; omega)
         ·split <;> first | rfl | (exfalso; omega)
         ·congr 1; split <;> (try split) <;> first | rfl | (exfalso; omega)
        have hd : L.drop 2 = [] := List.drop_eq_nil_of_le (by omega)
        have hat : dV Tryd.prog 27 [.agg [I K, I (L.getD 0 0), I (L.getD 1 0), .sl 1 [] true]] (.str (b6 (bS K L))) := (b2 (bS K L) hsz).sub (dZ.cons (by rw [hc, hd]; exact Sub.agg (.cons (.refl _) (.cons (.refl _) (.cons (.refl _) (.cons (Sub.loose _ _ _) .nil))))) dZ.nil)
        refine aI.mk hat ?_
        simp -dsimp -implicitDefEqProofs only [go_sem, ↓reduceIte, Tryd.f6, OV.aU, OV.aF, OV.bL, aQ, aB, b7, gU, b8, eG, gT, eF]
        refine ⟨fun hx => ⟨_, hle (by repeat' (first | exact Heap.le_refl _ | refine Heap.bB ?_ | refine Heap.a8 (by first | assumption | (rw [aB _ _ _ _ (by assumption)]; assumption) | (rw [aB _ _ _ _ (by assumption), aB _ _ _ _ (by assumption)]; assumption) | (rw [aB _ _ _ _ (by assumption), aB _ _ _ _ (by assumption), aB _ _ _ _ (by assumption)]; assumption)) ?_)), .inr ⟨g2 hx, rfl, rfl⟩⟩, fun hx => ⟨_, hle (by repeat' (first | exact Heap.le_refl _ | refine Heap.bB ?_ | refine Heap.a8 (by first | assumption | (rw [aB _ _ _ _ (by assumption)]; assumption) | (rw [aB _ _ _ _ (by assumption), aB _ _ _ _ (by assumption)]; assumption) | (rw [aB _ _ _ _ (by assumption), aB _ _ _ _ (by assumption), aB _ _ _ _ (by assumption)]; assumption)) ?_)), .inl ⟨bS K L, [], 0, (g1 hx).2, by rw [hc, hd]; rfl, Nat.le_refl _, .inl ⟨rfl, by rw [hc], rfl⟩⟩⟩⟩
       |skip
        have hc : bS K L = ⟨K, L.getD 0 0, 0, L.drop 1⟩ := by
         unfold bS
         congr 1
         ·split <;> first | rfl | (exfalso; omega)
         ·split <;> first | rfl | (exfalso; omega)
         ·congr 1; split <;> (try split) <;> first | rfl | (exfalso; omega)
        have hd : L.drop 1 = [] := List.drop_eq_nil_of_le (by omega)
        have hat : dV Tryd.prog 27 [.agg [I K, I (L.getD 0 0), I (0), .sl 1 [] true]] (.str (b6 (bS K L))) := (b2 (bS K L) hsz).sub (dZ.cons (by rw [hc, hd]; exact Sub.agg (.cons (.refl _) (.cons (.refl _) (.cons (.refl _) (.cons (Sub.loose _ _ _) .nil))))) dZ.nil)
        refine aI.mk hat ?_
        simp -dsimp -implicitDefEqProofs only [go_sem, ↓reduceIte, Tryd.f6, OV.aU, OV.aF, OV.bL, aQ, aB, b7, gU, b8, eG, gT, eF]
        refine ⟨fun hx => ⟨_, hle (by repeat' (first | exact Heap.le_refl _ | refine Heap.bB ?_ | refine Heap.a8 (by first | assumption | (rw [aB _ _ _ _ (by assumption)]; assumption) | (rw [aB _ _ _ _ (by assumption), aB _ _ _ _ (by assumption)]; assumption) | (rw [aB _ _ _ _ (by assumption), aB _ _ _ _ (by assumption), aB _ _ _ _ (by assumption)]; assumption)) ?_)), .inr ⟨g2 hx, rfl, rfl⟩⟩, fun hx => ⟨_, hle (by repeat' (first | exact Heap.le_refl _ | refine Heap.bB ?_ | refine Heap.a8 (by first | assumption | (rw [aB _ _ _ _ (by assumption)]; assumption) | (rw [aB _ _ _ _ (by assumption), aB _ _ _ _ (by assumption)]; assumption) | (rw [aB _ _ _ _ (by assumption), aB _ _ _ _ (by assumption), aB _ _ _ _ (by assumption)]; assumption)) ?_)), .inl ⟨bS K L, [], 0, (g1 hx).2, by rw [hc, hd]; rfl, Nat.le_refl _, .inl ⟨rfl, by rw [hc], rfl⟩⟩⟩⟩
     ·simp -dsimp -implicitDefEqProofs only [go_sem, ↓reduceIte, Tryd.f6, OV.aU, OV.aF, OV.bL, aQ, aB, b7, gU, b8, eG, gT, eF, e0 sW]
      repeat' (with_reducible first | intro _ | refine And.intro ?_ ?_)
      all_goals try omega
      all_goals
       first
       |skip
        have hc : bS K L = ⟨K, L.getD 0 0, L.getD 1 0, L.drop 2⟩ := by
         unfold bS
         congr 1
         ·split <;> first | rfl | (exfalso; omega)
         ·split <;> first | rfl | (exfalso; omega)
         ·congr 1; split <;> (try split) <;> first | rfl | (exfalso; omega)
        refine aI.eL (b2 (bS K L) hsz) (aK.cons (View.vR (by rw [hc]; exact aK.cons (View.same _ _) (aK.cons (View.same _ _) (aK.cons (View.same _ _) (aK.cons (hpv _ _ 2 _ (by omega) (by omega) (by omega) (by rw [aB _ _ _ _ mL, aB _ _ _ _ jU, aW])) aK.nil))))) aK.nil) rfl ?_
        simp -dsimp -implicitDefEqProofs only [go_sem, ↓reduceIte, Tryd.f6, OV.aU, OV.aF, OV.bL, aQ, aB, b7, gU, b8, eG, gT, eF]
        refine ⟨fun hx => ⟨_, hle (by repeat' (first | exact Heap.le_refl _ | refine Heap.bB ?_ | refine Heap.a8 (by first | assumption | (rw [aB _ _ _ _ (by assumption)]; assumption) | (rw [aB _ _ _ _ (by assumption), aB _ _ _ _ (by assumption)]; assumption) | (rw [aB _ _ _ _ (by assumption), aB _ _ _ _ (by assumption), aB _ _ _ _ (by assumption)]; assumption)) ?_)), .inr ⟨g2 hx, rfl, rfl⟩⟩, fun hx => ⟨_, (by repeat' (first | exact Heap.le_refl _ | refine Heap.bB ?_ | refine Heap.a8 (by first | assumption | (rw [aB _ _ _ _ (by assumption)]; assumption) | (rw [aB _ _ _ _ (by assumption), aB _ _ _ _ (by assumption)]; assumption) | (rw [aB _ _ _ _ (by assumption), aB _ _ _ _ (by assumption), aB _ _ _ _ (by assumption)]; assumption)) ?_)), .inl ⟨bS K L, L, 2, (g1 hx).2, by rw [hc], by omega, .inr ⟨n, ho, by rw [hc]; exact congrArg (fun x => aA.bY [.agg [I K, I (L.getD 0 0), I (L.getD 1 0), x], I 0]) (ose (by omega) (by omega)), rfl⟩⟩⟩⟩
       |skip
        have hc : bS K L = ⟨K, L.getD 0 0, 0, L.drop 1⟩ := by
         unfold bS
         congr 1
         ·split <;> first | rfl | (exfalso; omega)
         ·split <;> first | rfl | (exfalso; omega)
         ·congr 1; split <;> (try split) <;> first | rfl | (exfalso; omega)
        refine aI.eL (b2 (bS K L) hsz) (aK.cons (View.vR (by rw [hc]; exact aK.cons (View.same _ _) (aK.cons (View.same _ _) (aK.cons (View.same _ _) (aK.cons (hpv _ _ 1 _ (by omega) (by omega) (by omega) (by rw [aB _ _ _ _ mL, aB _ _ _ _ jU, aW])) aK.nil))))) aK.nil) rfl ?_
        simp -dsimp -implicitDefEqProofs only [go_sem, ↓reduceIte, Tryd.f6, OV.aU, OV.aF, OV.bL, aQ, aB, b7, gU, b8, eG, gT, eF]
        refine ⟨fun hx => ⟨_, hle (by repeat' (first | exact Heap.le_refl _ | refine Heap.bB ?_ | refine Heap.a8 (by first | assumption | (rw [aB _ _ _ _ (by assumption)]; assumption) | (rw [aB _ _ _ _ (by assumption), aB _ _ _ _ (by assumption)]; assumption) | (rw [aB _ _ _ _ (by assumption), aB _ _ _ _ (by assumption), aB _ _ _ _ (by assumption)]; assumption)) ?_)), .inr ⟨g2 hx, rfl, rfl⟩⟩, fun hx => ⟨_, (by repeat' (first | exact Heap.le_refl _ | refine Heap.bB ?_ | refine Heap.a8 (by first | assumption | (rw [aB _ _ _ _ (by assumption)]; assumption) | (rw [aB _ _ _ _ (by assumption), aB _ _ _ _ (by assumption)]; assumption) | (rw [aB _ _ _ _ (by assumption), aB _ _ _ _ (by assumption), aB _ _ _ _ (by assumption)]; assumption)) ?_)), .inl ⟨bS K L, L, 1, (g1 hx).2, by rw [hc], by omega, .inr ⟨n, ho, by rw [hc]; exact congrArg (fun x => aA.bY [.agg [I K, I (L.getD 0 0), I (0), x], I 0]) (ose (by omega) (by omega)), rfl⟩⟩⟩⟩
       |skip
        have hc : bS K L = ⟨K, 0, 0, L.drop 0⟩ := by
         unfold bS
         congr 1
         ·split <;> first | rfl | (exfalso; omega)
         ·split <;> first | rfl | (exfalso; omega)
         ·congr 1; split <;> (try split) <;> first | rfl | (exfalso; omega)
        refine aI.eL (b2 (bS K L) hsz) (aK.cons (View.vR (by rw [hc]; exact aK.cons (View.same _ _) (aK.cons (View.same _ _) (aK.cons (View.same _ _) (aK.cons (hpv _ _ 0 _ (by omega) (by omega) (by omega) (by rw [aB _ _ _ _ mL, aB _ _ _ _ jU, aW])) aK.nil))))) aK.nil) rfl ?_
        simp -dsimp -implicitDefEqProofs only [go_sem, ↓reduceIte, Tryd.f6, OV.aU, OV.aF, OV.bL, aQ, aB, b7, gU, b8, eG, gT, eF]
        refine ⟨fun hx => ⟨_, hle (by repeat' (first | exact Heap.le_refl _ | refine Heap.bB ?_ | refine Heap.a8 (by first | assumption | (rw [aB _ _ _ _ (by assumption)]; assumption) | (rw [aB _ _ _ _ (by assumption), aB _ _ _ _ (by assumption)]; assumption) | (rw [aB _ _ _ _ (by assumption), aB _ _ _ _ (by assumption), aB _ _ _ _ (by assumption)]; assumption)) ?_)), .inr ⟨g2 hx, rfl, rfl⟩⟩, fun hx => ⟨_, (by repeat' (first | exact Heap.le_refl _ | refine Heap.bB ?_ | refine Heap.a8 (by first | assumption | (rw [aB _ _ _ _ (by assumption)]; assumption) | (rw [aB _ _ _ _ (by assumption), aB _ _ _ _ (by assumption)]; assumption) | (rw [aB _ _ _ _ (by assumption), aB _ _ _ _ (by assumption), aB _ _ _ _ (by assumption)]; assumption)) ?_)), .inl ⟨bS K L, L, 0, (g1 hx).2, by rw [hc], by omega, .inr ⟨n, ho, by rw [hc]; exact congrArg (fun x => aA.bY [.agg [I K, I (0), I (0), x], I 0]) (ose (by omega) (by omega)), rfl⟩⟩⟩⟩
       |skip
        have hc : bS K L = ⟨K, L.getD 0 0, L.getD 1 0, L.drop 2⟩ := by
         unfold bS
         congr 1
         ·split <;> first | rfl | (exfalso; omega)
         ·split <;> first | rfl | (exfalso; omega)
         ·congr 1; split <;> (try split) <;> first | rfl | (exfalso; omega)
        have hd : L.drop 2 = [] := List.drop_eq_nil_of_le (by omega)
        have hat : dV Tryd.prog 27 [.agg [I K, I (L.getD 0 0), I (L.getD 1 0), .sl 1 [] true]] (.str (b6 (bS K L))) := (b2 (bS K L) hsz).sub (dZ.cons (by rw [hc, hd]; exact Sub.agg (.cons (.refl _) (.cons (.refl _) (.cons (.refl _) (.cons (Sub.loose _ _ _) .nil))))) dZ.nil)
        refine aI.mk hat ?_
        simp -dsimp -implicitDefEqProofs only [go_sem, ↓reduceIte, Tryd.f6, OV.aU, OV.aF, OV.bL, aQ, aB, b7, gU, b8, eG, gT, eF]
        refine ⟨fun hx => ⟨_, hle (by repeat' (first | exact Heap.le_refl _ | refine Heap.bB ?_ | refine Heap.a8 (by first | assumption | (rw [aB _ _ _ _ (by assumption)]; assumption) | (rw [aB _ _ _ _ (by assumption), aB _ _ _ _ (by assumption)]; assumption) | (rw [aB _ _ _ _ (by assumption), aB _ _ _ _ (by assumption), aB _ _ _ _ (by assumption)]; assumption)) ?_)), .inr ⟨g2 hx, rfl, rfl⟩⟩, fun hx => ⟨_, hle (by repeat' (first | exact Heap.le_refl _ | refine Heap.bB ?_ | refine Heap.a8 (by first | assumption | (rw [aB _ _ _ _ (by assumption)]; assumption) | (rw [aB _ _ _ _ (by assumption), aB _ _ _ _ (by assumption)]; assumption) | (rw [aB _ _ _ _ (by assumption), aB _ _ _ _ (by assumption), aB _ _ _ _ (by assumption)]; assumption)) ?_)), .inl ⟨bS K L, [], 0, (g1 hx).2, by rw [hc, hd]; rfl, Nat.le_refl _, .inl ⟨rfl, by rw [hc], rfl⟩⟩⟩⟩
       |skip
        have hc : bS K L = ⟨K, L.getD 0 0, 0, L.drop 1⟩ := by
         unfold bS
         congr 1
         ·split <;> first | rfl | (exfalso; omega)
         ·split <;> first | rfl | (exfalso; omega)
         ·congr 1; split <;> (try split) <;> first | rfl | (exfalso; omega)
        have hd : L.drop 1 = [] := List.drop_eq_nil_of_le (by omega)
        have hat : dV Tryd.prog 27 [.agg [I K, I (L.getD 0 0), I (0), .sl 1 [] true]] (.str (b6 (bS K L))) := (b2 (bS K L) hsz).sub (dZ.cons (by rw [hc, hd]; exact Sub.agg (.cons (.refl _) (.cons (.refl _) (.cons (.refl _) (.cons (Sub.loose _ _ _) .nil))))) dZ.nil)
        refine aI.mk hat ?_
        simp -dsimp -implicitDefEqProofs only [go_sem, ↓reduceIte, Tryd.f6, OV.aU, OV.aF, OV.bL, aQ, aB, b7, gU, b8, eG, gT, eF]
        refine ⟨fun hx => ⟨_, hle (by repeat' (first | exact Heap.le_refl _ | refine Heap.bB ?_ | refine Heap.a8 (by first | assumption | (rw [aB _ _ _ _ (by assumption)]; assumption) | (rw [aB _ _ _ _ (by assumption), aB _ _ _ _ (by assumption)]; assumption) | (rw [aB _ _ _ _ (by assumption), aB _ _ _ _ (by assumption), aB _ _ _ _ (by assumption)]; assumption)) ?_)), .inr ⟨g2 hx, rfl, rfl⟩⟩, fun hx => ⟨_, hle (by repeat' (first | exact Heap.le_refl _ | refine Heap.bB ?_ | refine Heap.a8 (by first | assumption | (rw [aB _ _ _ _ (by assumption)]; assumption) | (rw [aB _ _ _ _ (by assumption), aB _ _ _ _ (by assumption)]; assumption) | (rw [aB _ _ _ _ (by assumption), aB _ _ _ _ (by assumption), aB _ _ _ _ (by assumption)]; assumption)) ?_)), .inl ⟨bS K L, [], 0, (g1 hx).2, by rw [hc, hd]; rfl, Nat.le_refl _, .inl ⟨rfl, by rw [hc], rfl⟩⟩⟩⟩
    ·simp -dsimp -implicitDefEqProofs only [go_sem, ↓reduceIte, Tryd.f6, OV.aU, OV.aF, OV.bL, aQ, aB, b7, gU, b8, eG, gT, eF]
     repeat' (with_reducible first | intro _ | refine And.intro ?_ ?_)
     all_goals try omega
     all_goals
      have hc : bS K L = ⟨K, 0, 0, L.drop 0⟩ := by
       unfold bS
       congr 1
       ·split <;> first | rfl | (exfalso; omega)
       ·split <;> first | rfl | (exfalso; omega)
       ·congr 1; split <;> (try split) <;> first | rfl | (exfalso; omega)
      refine aI.eL (b2 (bS K L) hsz) (aK.cons (View.vR (by rw [hc]; exact aK.cons (View.same _ _) (aK.cons (View.same _ _) (aK.cons (View.same _ _) (aK.cons (hpv _ _ 0 _ (by omega) (by omega) (by omega) (by rw [aB _ _ _ _ mL, aB _ _ _ _ jU, aW])) aK.nil))))) aK.nil) rfl ?_
      simp -dsimp -implicitDefEqProofs only [go_sem, ↓reduceIte, Tryd.f6, OV.aU, OV.aF, OV.bL, aQ, aB, b7, gU, b8, eG, gT, eF]
      refine ⟨fun hx => ⟨_, hle (by repeat' (first | exact Heap.le_refl _ | refine Heap.bB ?_ | refine Heap.a8 (by first | assumption | (rw [aB _ _ _ _ (by assumption)]; assumption) | (rw [aB _ _ _ _ (by assumption), aB _ _ _ _ (by assumption)]; assumption) | (rw [aB _ _ _ _ (by assumption), aB _ _ _ _ (by assumption), aB _ _ _ _ (by assumption)]; assumption)) ?_)), .inr ⟨g2 hx, rfl, rfl⟩⟩, fun hx => ⟨_, (by repeat' (first | exact Heap.le_refl _ | refine Heap.bB ?_ | refine Heap.a8 (by first | assumption | (rw [aB _ _ _ _ (by assumption)]; assumption) | (rw [aB _ _ _ _ (by assumption), aB _ _ _ _ (by assumption)]; assumption) | (rw [aB _ _ _ _ (by assumption), aB _ _ _ _ (by assumption), aB _ _ _ _ (by assumption)]; assumption)) ?_)), .inl ⟨bS K L, L, 0, (g1 hx).2, by rw [hc], by omega, .inr ⟨n, ho, by rw [hc]; exact congrArg (fun x => aA.bY [.agg [I K, I (0), I (0), x], I 0]) (ose (by omega) (by omega)), rfl⟩⟩⟩⟩
theorem w6 (t : List UInt8) (ht : t.length ≤ 1048576) : pM Tryd.prog 6 [.str t] (QA (aN t).1.o (fun y => .bY [y, I (aN t).2])) := fun h => by
 refine gC.aLM (aAA t ht h) fun r h' E w v hk R rep => ?_
 rcases hk with ⟨a, L, i, ha, hn, hi, hk⟩ | ⟨ha, rfl, rfl⟩
 ·rw [eZ ha]
  rcases hk with ⟨rfl, rfl, rfl⟩ | ⟨n, hn0, rfl, rfl⟩
  ·have hnil : a.aL = [] := by rw [hn]; simp
   exact ⟨_, h', E, ⟨_, ⟨[.v (I a.aD), .v (I a.fA), .v (I a.fB), .nil 1], ⟨.nil 1, rfl, .inl ⟨rfl, hnil⟩⟩, rfl, rfl⟩, eU.nil h'⟩, Ev.refl _ _ _, R, rep⟩
  ·obtain ⟨m, hm, hm0, ev, R2, hrep⟩ := Rel.part R (aW ..) (i := i) (by simpa using hi)
   have hmn : ¬ m = n := fun e => by rw [e, aW] at hm0; cases hm0
   have hm1 : h m = none := by rwa [aB _ _ _ _ hmn] at hm0
   have hrow : List.drop i ((L.map fun n => [I n]).map (List.map Cell.v)) = ((L.drop i).map fun n => [I n]).map (List.map Cell.v) := by rw [← List.map_drop, ← List.map_drop]
   rw [hrow] at R2 ev hrep
   have hle : (a7 h m (.row 1 (((L.drop i).map fun n => [I n]).map (List.map .v)))).le (a7 (a7 (a7 h n (.row 1 ((L.map fun n => [I n]).map (List.map .v)))) n .gone) m (.row 1 (((L.drop i).map fun n => [I n]).map (List.map .v)))) := fun q => by
    simp only [gB]
    split
    ·exact .inr rfl
    ·split
     ·subst_vars; exact .inl hn0
     ·exact .inr rfl
   have hv : aA.os m 1 0 (L.length - i) = (OV.sl m 1 ((L.drop i).map fun x => [.v (I x)])).val := by rw [OV.uH, List.length_drop]
   refine ⟨.bY [.agg [I a.aD, I a.fA, I a.fB, .os m 1 0 (L.length - i)], I 0], _, _, ⟨_, ⟨[.v (I a.aD), .v (I a.fA), .v (I a.fB), OV.sl m 1 ((L.drop i).map fun x => [.v (I x)])], ⟨_, rfl, by rw [hn]; exact OS.mk (pL _)⟩, by rw [hv]; rfl, rfl⟩, ?_⟩, ev.trans ((Ev.refl _ _ _).forget hle), R2.forget hle, ?_⟩
   ·simp only [OV.cL, OV.eD, OV.dC, List.nil_append, List.append_nil]
    rw [OV.fZ, iV, kW]
    exact eU.one hm1
   ·cases rep with
    |bY _ vs hl hr =>
     match vs, aP.mk hl hr with
     | [v0, v1], ⟨r0, r1, _⟩ =>
      cases r0 with
      |agg _ us hl2 hr2 =>
       match us, aP.mk hl2 hr2 with
       | [a0, a1, a2, a3], ⟨q0, q1, q2, q3, _⟩ =>
        rw [bP q0, bP q1, bP q2, bP r1]
        have w3 := (hrep _ _ q3).j3 fun b => e8.le hle
        have ag := aP.length (show aP _ _ w [I a.aD, I a.fA, I a.fB, .os m 1 0 (L.length - i)] [_, _, _, a3] from ⟨.int _ _, .int _ _, .int _ _, w3, trivial⟩)
        exact aP.bY (xs := [_, _]) (vs := [_, _]) ⟨.agg _ [_, _, _, a3] ag (aP.get (show aP _ _ w [I a.aD, I a.fA, I a.fB, .os m 1 0 (L.length - i)] [_, _, _, a3] from ⟨.int _ _, .int _ _, .int _ _, w3, trivial⟩)), .int _ _, trivial⟩
 ·obtain ⟨r1, g, l, sh, q1, q2⟩ := kT (h := h') (h' := h') ha (Heap.le_refl _)
  obtain ⟨E', ev, R', rep'⟩ := sh E w v R rep
  exact ⟨r1, g, E', ⟨l, q1, q2⟩, ev, R', rep'⟩
theorem xZ (t : List UInt8) : (aN t).1.s ≤ 12 := by
 cases e : bJ t with
 |none => rw [mK e]; exact Nat.zero_le _
 |some a =>
  rw [eZ e]
  have h1 := (bX e).1.len
  have h2 := a.xO
  try simp only [vJ] at h2
  show a.s ≤ 12
  omega
open Go.Proofs
set_option linter.unusedVariables false
set_option linter.unusedSimpArgs false
set_option maxRecDepth 100000
open Go.Proofs
set_option linter.unusedVariables false
set_option linter.unusedSimpArgs false
@[go_sem] def v8 : List Nat := [0, 1, 4, 5, 10, 14, 25]
@[go_sem] def aEU : List Nat := []
@[go_sem] def aEV : Marks := fun id => match id with | 6 => ([], (.op 0 (.op 1 (.op 2 (.op 3 (.op 4 (.op 5 (.op 6 (.op 7 (.op 8 .nil))))))))), []) | _ => ([], .nil, [])
theorem x0 (a b : List Int) : dV Tryd.prog 28 [(lN 1 (fun n => [I n]) a), (lN 1 (fun n => [I n]) b)] (.bool (decide (a = b))) := by
 refine dS 26 v8 aEU aEV mix Tryd.func28 rfl (by kernel_rfl) (by simp) fun h => ?_
 simp -dsimp -implicitDefEqProofs only [go_sem, Tryd.f28, ↓reduceIte, v8, aEU, aEV]
 refine fun _ _ => ⟨fun hne => ?_, fun heq => ?_⟩
 ·exact (decide_eq_false fun e => hne (by rw [e])).symm
 ·refine fV (keep := v8) (ib := aEU) (mk := aEV) mix (by kernel_rfl) (fun k : Nat => [(0, (lN 1 (fun n => [I n]) a)), (1, (lN 1 (fun n => [I n]) b)), (5, I k)]) (fun _ => h) (fun k => k ≤ a.length ∧ a.take k = b.take k) (fun k => a.length - k) 0 (by simp [fX, bG, Heap.le_refl]) ?_
  intro k ⟨hk, hp⟩
  rcases Nat.lt_or_ge k a.length with hlt | hge
  ·have hlb : k < b.length := by omega
   have ea : a[k]? = some a[k] := List.getElem?_eq_getElem hlt
   have eb : b[k]? = some b[k] := List.getElem?_eq_getElem hlb
   simp -dsimp -implicitDefEqProofs only [go_sem, ↓reduceIte, Tryd.f28, ea, eb]
   refine fun _ => ⟨fun _ => ⟨hlt, hlb, fun hne => ?_, fun he => ?_⟩, fun hn => absurd hlt hn⟩
   ·first
     |exact (decide_eq_false fun e => hne (getElem_of_eq e hlt)).symm
     |exact (decide_eq_false fun e => by have := getElem_of_eq e hlt (hb := hlb); rw [this] at hne; simp at hne).symm
   ·exact ⟨k + 1, by rw [IntWalk.i64_in _ (by omega)]; rfl, ⟨by omega, xM hlt hlb hp (by first | exact he | simpa using he)⟩, by omega⟩
  ·have hk' : k = a.length := by omega
   subst hk'
   simp -dsimp -implicitDefEqProofs only [go_sem, ↓reduceIte, Tryd.f28, Nat.lt_irrefl]
   exact fun _ => (decide_eq_true (vK heq hp)).symm
@[go_sem] def aCX : List Nat := [0, 1, 2, 3, 4, 9, 14, 19, 25]
@[go_sem] def ib7 : List Nat := [2, 3]
@[go_sem] def mk7 : Marks := fun _ => ([], .nil, [])
theorem aAB (a b : aT) : dV Tryd.prog 7 [.agg a.c, .agg b.c] (.bool (decide (a = b))) := by
 simp only [aT.iI]
 refine dS 26 aCX ib7 mk7 mix Tryd.func7 rfl (by kernel_rfl) (by simp) fun h => ?_
 simp -dsimp -implicitDefEqProofs only [go_sem, Tryd.f7, ↓reduceIte, aCX, ib7, mk7]
 refine ⟨fun hn => (decide_eq_false fun e => hn (by rw [e])).symm, fun efKind => ?_⟩
 refine ⟨fun hn => (decide_eq_false fun e => hn (by rw [e])).symm, fun efA => ?_⟩
 refine ⟨fun hn => (decide_eq_false fun e => hn (by rw [e])).symm, fun efB => ?_⟩
 refine aI.mk (x0 a.aL b.aL) ?_
 by_cases efNumbers : a.aL = b.aL
 case neg =>
  have d := decide_eq_false efNumbers
  simp -dsimp -implicitDefEqProofs only [go_sem, ↓reduceIte, Tryd.f7, d]
  exact (decide_eq_false fun e => efNumbers (by rw [e])).symm
 have dfNumbers := decide_eq_true efNumbers
 simp -dsimp -implicitDefEqProofs only [go_sem, ↓reduceIte, Tryd.f7, dfNumbers]
 exact (decide_eq_true (aT.eq_iff.2 ⟨efKind, efA, efB, efNumbers⟩)).symm
set_option maxRecDepth 100000
open Go.Proofs
set_option linter.unusedVariables false
set_option linter.unusedSimpArgs false
@[go_sem] def aI0 : List Nat := [0, 2, 3, 4, 5, 6, 7, 8, 9, 10, 13, 32, 40, 43, 57, 62, 65]
@[go_sem] def ib3 : List Nat := []
@[go_sem] def mk3 : Marks := fun _ => ([], .nil, [])
set_option maxHeartbeats 4000000 in
theorem lU (t : (List UInt8)) (h : Heap) : gC Tryd.prog 3 [(.str t)] h fun r _ => r = .bool true := by
 refine xL 66 aI0 ib3 mk3 mix Tryd.func3 rfl (by kernel_rfl) (by simp) ?_
 simp -dsimp -implicitDefEqProofs only [go_sem, ↓reduceIte, Tryd.f3, Bool.true_or, Bool.or_true, Bool.false_or, Bool.or_false, eT, eq_self, decide_true, Bool.not_true, bne_self_eq_false, aQ, dW, OV.aU, OV.aF, OV.bL, aT.iI]
 repeat' (with_reducible first | intro _ | refine And.intro ?_ ?_)
 all_goals try (first | exact ⟨_, Heap.le_refl _, rfl⟩ | exact ⟨_, Heap.le_refl _⟩)
 all_goals try omega
 have aPI : t.length ≤ 1048576 := by omega
 have hseal := QA.y4 (w6 t (by omega)) (fun e he => aT.pY he) (mE [] [I (aN t).2])
 first | refine aI.mk (QA.y4 (nZ t (by omega)) (fun e he => aT.pY he) (mE [] [I (aN t).2])) ?_ | refine aC.mk (QA.y4 (nZ t (by omega)) (fun e he => aT.pY he) (mE [] [I (aN t).2])) ?_
 simp -dsimp -implicitDefEqProofs only [go_sem, ↓reduceIte, Tryd.f3, Bool.true_or, Bool.or_true, Bool.false_or, Bool.or_false, eT, eq_self, decide_true, Bool.not_true, bne_self_eq_false, aQ, dW, OV.aU, OV.aF, OV.bL, aT.iI]
 intro nw0 aI1
 have aEW := aI1
 clear aI1
 try simp -dsimp -implicitDefEqProofs only [go_sem, ↓reduceIte, Tryd.f3, Bool.true_or, Bool.or_true, Bool.false_or, Bool.or_false, eT, eq_self, decide_true, Bool.not_true, bne_self_eq_false, aQ, dW, OV.aU, OV.aF, OV.bL, aT.iI]
 refine aI.wl1 (w6 t (by omega)) (aK.cons (View.same _ _) aK.nil) (QA.bF (fun e he => aT.aH8 _ e he) (fun x hx => by simp [aA.bF, aA.iH, hx])) aEW ?_
 rintro r l1 g1 ⟨eg_, oeg, rfl, rfl⟩ w1 wA
 have oog := oeg
 obtain ⟨sL, rfl, j1⟩ := oog
 have aEX : cE g1 (OV.aR [.v (.int .i64 (aN t).1.aD), .v (.int .i64 (aN t).1.fA), .v (.int .i64 (aN t).1.fB), sL]) := w1.fO
 have ndg := w1.nodup
 simp -dsimp -implicitDefEqProofs only [go_sem, ↓reduceIte, Tryd.f3, Bool.true_or, Bool.or_true, Bool.false_or, Bool.or_false, eT, eq_self, decide_true, Bool.not_true, bne_self_eq_false, aQ, dW, OV.aU, OV.aF, OV.bL, aT.iI, j1.flat, j1.one]
 intro ng qng
 have hY : ng ≠ nw0 := fun e => by
  first
   |exact qng.1 e
   |(rw [if_pos e] at qng; cases qng)
 have hZ : (ng = nw0) = False := eq_false hY
 have iA : (nw0 = ng) = False := eq_false (fun e => hY e.symm)
 first
  |(rw [if_neg hY] at qng)
  |(replace qng := qng.2)
 have aAC := qng
 clear qng
 try simp -dsimp -implicitDefEqProofs only [go_sem, ↓reduceIte, Tryd.f3, Bool.true_or, Bool.or_true, Bool.false_or, Bool.or_false, eT, eq_self, decide_true, Bool.not_true, bne_self_eq_false, aQ, dW, OV.aU, OV.aF, OV.bL, aT.iI, hZ, iA, j1.flat, j1.one]
 refine aI.eL (aAB (aN t).1 (aN t).1) (aK.cons (View.aLH [.v (.int .i64 (aN t).1.aD), .v (.int .i64 (aN t).1.fA), .v (.int .i64 (aN t).1.fB), sL] (aT.pY oeg) (cE.up2 wA ⟨hY, aAC⟩ aEX)) (aK.cons (by first | exact View.same _ _ | (simp only [aT.iI]; exact View.same _ _)) aK.nil)) rfl ?_
 simp -dsimp -implicitDefEqProofs only [go_sem, ↓reduceIte, Tryd.f3, Bool.true_or, Bool.or_true, Bool.false_or, Bool.or_false, eT, eq_self, decide_true, Bool.not_true, bne_self_eq_false, aQ, dW, OV.aU, OV.aF, OV.bL, aT.iI, hZ, iA, j1.flat, j1.one]
 repeat' (with_reducible first | intro _ | refine And.intro ?_ ?_)
 all_goals try (first | exact ⟨_, Heap.le_refl _, rfl⟩ | exact ⟨_, Heap.le_refl _⟩)
 all_goals try omega
 have hctg : OV.hF [.v (.int .i64 (aN t).1.aD), .v (.int .i64 (aN t).1.fA), .v (.int .i64 (aN t).1.fB), sL] ≤ 4000000000000000000 := by have h1 := aT.aH9 _ _ oeg; have h2 := xZ t; omega
 refine aI.wc2 (y6 _ [.v (.int .i64 (aN t).1.aD), .v (.int .i64 (aN t).1.fA), .v (.int .i64 (aN t).1.fB), sL] 1 _ oeg (by omega) (by omega) (cE.up2 wA ⟨hY, aAC⟩ aEX) ndg) aEX wA ⟨hY, aAC⟩ ?_
 rintro g2 cg2 aAD aCY
 obtain ⟨ccg, hccg⟩ : ∃ z : Int, z = 1 + ((OV.hF [.v (.int .i64 (aN t).1.aD), .v (.int .i64 (aN t).1.fA), .v (.int .i64 (aN t).1.fB), sL] : Nat) : Int) := ⟨_, rfl⟩
 rw [← hccg]
 simp -dsimp -implicitDefEqProofs only [go_sem, ↓reduceIte, Tryd.f3, Bool.true_or, Bool.or_true, Bool.false_or, Bool.or_false, eT, eq_self, decide_true, Bool.not_true, bne_self_eq_false, aQ, dW, OV.aU, OV.aF, OV.bL, aT.iI, hZ, iA, j1.flat, j1.one]
 repeat' (with_reducible first | intro _ | refine And.intro ?_ ?_)
 all_goals try (first | exact ⟨_, Heap.le_refl _, rfl⟩ | exact ⟨_, Heap.le_refl _⟩)
 all_goals try omega
 have hh := uG _ [.v (.int .i64 (aN t).1.aD), .v (.int .i64 (aN t).1.fA), .v (.int .i64 (aN t).1.fB), sL] 1 oeg (by omega) (by omega)
 rw [← hccg] at hh
 refine aI.eL hh (aK.cons (View.aH7 1 [.v (.int .i64 (aN t).1.aD), .v (.int .i64 (aN t).1.fA), .v (.int .i64 (aN t).1.fB), sL] (cE.up2 aAD ⟨hY, aCY⟩ cg2.fO)) (aK.cons (View.same _ _) aK.nil)) rfl ?_
 simp -dsimp -implicitDefEqProofs only [go_sem, ↓reduceIte, Tryd.f3, Bool.true_or, Bool.or_true, Bool.false_or, Bool.or_false, eT, eq_self, decide_true, Bool.not_true, bne_self_eq_false, aQ, dW, OV.aU, OV.aF, OV.bL, aT.iI, hZ, iA, j1.flat, j1.one]
 repeat' (with_reducible first | intro _ | refine And.intro ?_ ?_)
 all_goals try (first | exact ⟨_, Heap.le_refl _, rfl⟩ | exact ⟨_, Heap.le_refl _⟩)
 all_goals try omega
 first | refine aI.mk (hseal) ?_ | refine aC.mk (hseal) ?_
 simp -dsimp -implicitDefEqProofs only [go_sem, ↓reduceIte, Tryd.f3, Bool.true_or, Bool.or_true, Bool.false_or, Bool.or_false, eT, eq_self, decide_true, Bool.not_true, bne_self_eq_false, aQ, dW, OV.aU, OV.aF, OV.bL, aT.iI, hZ, iA, j1.flat, j1.one]
 intro nh qnh
 have sM : nh ≠ ng := fun e => by
  first
   |exact qnh.1 e
   |(rw [if_pos e] at qnh; cases qnh)
 have wB : (nh = ng) = False := eq_false sM
 have wC : (ng = nh) = False := eq_false (fun e => sM e.symm)
 first
  |(rw [if_neg sM] at qnh)
  |(replace qnh := qnh.2)
 have oG : nh ≠ nw0 := fun e => by
  first
   |exact qnh.1 e
   |(rw [if_pos e] at qnh; cases qnh)
 have sN : (nh = nw0) = False := eq_false oG
 have sO : (nw0 = nh) = False := eq_false (fun e => oG e.symm)
 first
  |(rw [if_neg oG] at qnh)
  |(replace qnh := qnh.2)
 have aI2 := qnh
 clear qnh
 try simp -dsimp -implicitDefEqProofs only [go_sem, ↓reduceIte, Tryd.f3, Bool.true_or, Bool.or_true, Bool.false_or, Bool.or_false, eT, eq_self, decide_true, Bool.not_true, bne_self_eq_false, aQ, dW, OV.aU, OV.aF, OV.bL, aT.iI, hZ, iA, wB, wC, sN, sO, j1.flat, j1.one]
 refine aI.mk (aAB (aN t).1 (aN t).1) ?_
 simp -dsimp -implicitDefEqProofs only [go_sem, ↓reduceIte, Tryd.f3, Bool.true_or, Bool.or_true, Bool.false_or, Bool.or_false, eT, eq_self, decide_true, Bool.not_true, bne_self_eq_false, aQ, dW, OV.aU, OV.aF, OV.bL, aT.iI, hZ, iA, wB, wC, sN, sO, j1.flat, j1.one]
 repeat' (with_reducible first | intro _ | refine And.intro ?_ ?_)
 all_goals try (first | exact ⟨_, Heap.le_refl _, rfl⟩ | exact ⟨_, Heap.le_refl _⟩)
 all_goals try omega
 have hh := uG _ [.v (.int .i64 (aN t).1.aD), .v (.int .i64 (aN t).1.fA), .v (.int .i64 (aN t).1.fB), sL] 1 oeg (by omega) (by omega)
 rw [← hccg] at hh
 refine aI.eL hh (aK.cons (View.aH7 1 [.v (.int .i64 (aN t).1.aD), .v (.int .i64 (aN t).1.fA), .v (.int .i64 (aN t).1.fB), sL] (cE.up3 aAD ⟨hY, aCY⟩ ⟨sM, oG, aI2⟩ cg2.fO)) (aK.cons (View.same _ _) aK.nil)) rfl ?_
 simp -dsimp -implicitDefEqProofs only [go_sem, ↓reduceIte, Tryd.f3, Bool.true_or, Bool.or_true, Bool.false_or, Bool.or_false, eT, eq_self, decide_true, Bool.not_true, bne_self_eq_false, aQ, dW, OV.aU, OV.aF, OV.bL, aT.iI, hZ, iA, wB, wC, sN, sO, j1.flat, j1.one]
 repeat' (with_reducible first | intro _ | refine And.intro ?_ ?_)
 all_goals try (first | exact ⟨_, Heap.le_refl _, rfl⟩ | exact ⟨_, Heap.le_refl _⟩)
 all_goals try omega
open Go.Proofs
set_option linter.unusedVariables false
set_option linter.unusedSimpArgs false
theorem aB1 {P : Program} {n : Nat} {t : TypeId} {xs : List aA} (hu : P.underlying t = some .string) (h : q8 P n t xs) : ∃ s : List UInt8, xs = [.str s] ∧ True := by
 match n, h with
 |0, h => exact h.elim
 |n + 1, h =>
  simp only [q8, hu] at h
  obtain ⟨b, rfl⟩ := h
  exact ⟨b, rfl, trivial⟩
def aI3 : List TypeId := [9]
theorem aB2 : xJ Tryd.prog aI3 = true := by kernel_rfl
end Go.Hl

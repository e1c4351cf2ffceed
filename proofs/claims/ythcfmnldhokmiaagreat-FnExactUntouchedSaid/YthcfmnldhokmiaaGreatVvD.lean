/-
  Contracts of functions and laws of the layer over the walk.
-/
import Derived.Test.YthcfmnldhokmiaaGreatVvC
import Derived.Test.YthcfmnldhokmiaaGreatHlD
import Derived.Test.YthcfmnldhokmiaaGreatVvB
import Derived.Test.YthcfmnldhokmiaaGreatGn
namespace Go.Hl
open Go.Proofs
set_option linter.unusedVariables false
set_option linter.unusedSimpArgs false
def keep83 : List Nat := [0, 1, 4]
def ib83 : List Nat := []
def mk83 : Marks := fun _ => ([], .nil, [])
theorem specTimes (a b : Int) (ha : Num a) (hb : Num b) : Fn0 Tryz.prog 83 [I a, I b] (I (a * b % 1000003)) := by
  refine fn0F 11 keep83 ib83 mk83 mix Tryz.func83 rfl (by kernel_rfl) (by simp) fun h => ?_
  simp (maxSteps := 1000000) -dsimp -implicitDefEqProofs only [go_sem, ↓reduceIte, keep83, ib83, mk83, Tryz.f83]
  first | refine HFnF.mk (specResidue a) ?_ | refine CallSF.mk (specResidue a) ?_ | refine HFnF.mkAt (specResidue a) ?_ | refine CallSF.mk (FnAt.fn0 (specResidue a)) ?_
  simp (maxSteps := 1000000) -dsimp -implicitDefEqProofs only [go_sem, ↓reduceIte, keep83, ib83, mk83, Tryz.f83]
  first | refine HFnF.mk (specResidue b) ?_ | refine CallSF.mk (specResidue b) ?_ | refine HFnF.mkAt (specResidue b) ?_ | refine CallSF.mk (FnAt.fn0 (specResidue b)) ?_
  simp (maxSteps := 1000000) -dsimp -implicitDefEqProofs only [go_sem, ↓reduceIte, keep83, ib83, mk83, Tryz.f83]
  have h1 := num_mul ha hb
  have h2 := ha
  have h3 := hb
  unfold Num at h2 h3
  rw [Int.emod_eq_of_lt h2.1 (by omega), Int.emod_eq_of_lt h3.1 (by omega), wmod h1.1 (by omega)]
def keep166 : List Nat := [0, 1, 4, 5, 6, 8, 12, 15]
def ib166 : List Nat := []
def mk166 : Marks := fun _ => ([], .nil, [])
set_option maxRecDepth 100000 in
theorem specPower (a n : Int) (hn : 0 ≤ n) (hn2 : n ≤ 4294967296) : Fn0 Tryz.prog 166 [I a, I n] (I (pwN (a % 1000003) n.toNat)) := by
  refine fn0F 25 keep166 ib166 mk166 mix Tryz.func166 rfl (by kernel_rfl) (by simp) fun h => ?_
  simp (maxSteps := 1000000) -dsimp -implicitDefEqProofs only [go_sem, ↓reduceIte, keep166, ib166, mk166, Tryz.f166]
  refine ⟨fun q => absurd q (by omega), fun _ => ?_⟩
  first | refine HFnF.mk (specResidue a) ?_ | refine CallSF.mk (specResidue a) ?_ | refine HFnF.mkAt (specResidue a) ?_ | refine CallSF.mk (FnAt.fn0 (specResidue a)) ?_
  simp (maxSteps := 1000000) -dsimp -implicitDefEqProofs only [go_sem, ↓reduceIte, keep166, ib166, mk166, Tryz.f166]
  generalize hT : pwN (a % 1000003) n.toNat = T
  refine loopSame (keep := keep166) (ib := ib166) (mk := mk166) mix (by kernel_rfl) (fun x : Int × Int × Int => [(1, I x.2.2), (5, I x.1), (6, I x.2.1)]) (fun x => (0 ≤ x.1 ∧ x.1 < 1000003) ∧ (0 ≤ x.2.1 ∧ x.2.1 < 1000003) ∧ (0 ≤ x.2.2 ∧ x.2.2 ≤ 4294967296) ∧ x.1 * x.2.1 ^ x.2.2.toNat % 1000003 = T) (fun x => x.2.2.toNat) (1, a % 1000003, n) ⟨by simp [SatL, tget], ⟨by simp, by simp⟩, modP _, ⟨hn, hn2⟩, by rw [Int.one_mul]; exact hT⟩ ?_
  rintro ⟨x, b, m⟩ ⟨hx, hb, hm, hp⟩
  simp only at hx hb hm hp ⊢
  have nx : Num x := by unfold Num; omega
  have nb : Num b := by unfold Num; omega
  simp (maxSteps := 1000000) -dsimp -implicitDefEqProofs only [go_sem, ↓reduceIte, keep166, ib166, mk166, Tryz.f166]
  rw [Int.tmod_eq_emod_of_nonneg hm.1]
  refine ⟨fun hg => ⟨fun ho => ?_, fun ho => ?_⟩, fun hg => ?_⟩
  · first | refine HFnF.mk (specTimes x b nx nb) ?_ | refine CallSF.mk (specTimes x b nx nb) ?_ | refine HFnF.mkAt (specTimes x b nx nb) ?_ | refine CallSF.mk (FnAt.fn0 (specTimes x b nx nb)) ?_
    simp (maxSteps := 1000000) -dsimp -implicitDefEqProofs only [go_sem, ↓reduceIte, keep166, ib166, mk166, Tryz.f166]
    first | refine HFnF.mk (specTimes b b nb nb) ?_ | refine CallSF.mk (specTimes b b nb nb) ?_ | refine HFnF.mkAt (specTimes b b nb nb) ?_ | refine CallSF.mk (FnAt.fn0 (specTimes b b nb nb)) ?_
    simp (maxSteps := 1000000) -dsimp -implicitDefEqProofs only [go_sem, ↓reduceIte, keep166, ib166, mk166, Tryz.f166]
    rw [Int.tdiv_eq_ediv_of_nonneg hm.1, IntWalk.i64_in (m / 2) (by omega)]
    exact ⟨(x * b % 1000003, b * b % 1000003, m / 2), ⟨rfl, rfl, rfl⟩, ⟨modP _, modP _, (show 0 ≤ m / 2 ∧ m / 2 ≤ 4294967296 by omega), pw_odd hm.1 ho hp⟩, by simp only; omega⟩
  · first | refine HFnF.mk (specTimes b b nb nb) ?_ | refine CallSF.mk (specTimes b b nb nb) ?_ | refine HFnF.mkAt (specTimes b b nb nb) ?_ | refine CallSF.mk (FnAt.fn0 (specTimes b b nb nb)) ?_
    simp (maxSteps := 1000000) -dsimp -implicitDefEqProofs only [go_sem, ↓reduceIte, keep166, ib166, mk166, Tryz.f166]
    rw [Int.tdiv_eq_ediv_of_nonneg hm.1, IntWalk.i64_in (m / 2) (by omega)]
    exact ⟨(x, b * b % 1000003, m / 2), ⟨rfl, rfl, rfl⟩, ⟨hx, modP _, (show 0 ≤ m / 2 ∧ m / 2 ≤ 4294967296 by omega), pw_even hm.1 ho hp⟩, by simp only; omega⟩
  · have : m.toNat = 0 := by omega
    rw [this, pw_done x b hx] at hp
    exact hp
def keep84 : List Nat := [0, 2]
def ib84 : List Nat := []
def mk84 : Marks := fun _ => ([], .nil, [])
theorem l01Inv (a : Int) : Fn0 Tryz.prog 84 [I a] (I (invN a)) := by
  refine fn0F 5 keep84 ib84 mk84 mix Tryz.func84 rfl (by kernel_rfl) (by simp) fun h => ?_
  simp (maxSteps := 1000000) -dsimp -implicitDefEqProofs only [go_sem, ↓reduceIte, keep84, ib84, mk84, Tryz.f84]
  first | refine HFnF.mk (specPower a 1000001 (by decide) (by decide)) ?_ | refine CallSF.mk (specPower a 1000001 (by decide) (by decide)) ?_ | refine HFnF.mkAt (specPower a 1000001 (by decide) (by decide)) ?_ | refine CallSF.mk (FnAt.fn0 (specPower a 1000001 (by decide) (by decide))) ?_
  simp (maxSteps := 1000000) -dsimp -implicitDefEqProofs only [go_sem, ↓reduceIte, keep84, ib84, mk84, Tryz.f84]
  rfl
def keep217 : List Nat := [0, 1, 4]
def ib217 : List Nat := []
def mk217 : Marks := fun _ => ([], .nil, [])
theorem l01Minus (a b : Int) (ha : Num a) (hb : Num b) : Fn0 Tryz.prog 217 [I a, I b] (I ((a - b) % 1000003)) := by
  unfold Num at ha hb
  refine fn0F 9 keep217 ib217 mk217 mix Tryz.func217 rfl (by kernel_rfl) (by simp) fun h => ?_
  simp (maxSteps := 1000000) -dsimp -implicitDefEqProofs only [go_sem, ↓reduceIte, keep217, ib217, mk217, Tryz.f217]
  rw [IntWalk.i64_in _ (by omega)]
  first | refine HFnF.mk (specResidue (a - b)) ?_ | refine CallSF.mk (specResidue (a - b)) ?_ | refine HFnF.mkAt (specResidue (a - b)) ?_ | refine CallSF.mk (FnAt.fn0 (specResidue (a - b))) ?_
  simp (maxSteps := 1000000) -dsimp -implicitDefEqProofs only [go_sem, ↓reduceIte, keep217, ib217, mk217, Tryz.f217]
def keep80 : List Nat := [0, 1, 4, 5, 9]
def ib80 : List Nat := []
def mk80 : Marks := fun _ => ([], .nil, [])
set_option maxRecDepth 100000 in
theorem l01Const (n : Int) (sz : Nat) (hs : sz ≤ 1048576) : Fn0 Tryz.prog 80 [I n, I sz] (ints (constL n sz)) := by
  rcases Nat.eq_zero_or_pos sz with rfl | hp
  · refine fn0S 14 keep80 ib80 mk80 mix Tryz.func80 rfl (by kernel_rfl) (by simp) fun h => ?_
    simp (maxSteps := 1000000) -dsimp -implicitDefEqProofs only [go_sem, ↓reduceIte, keep80, ib80, mk80, Tryz.f80]
    refine ⟨Nat.zero_lt_one, by omega, by omega, fun m hm => ⟨fun q => absurd q (by omega), fun _ => ?_⟩⟩
    exact shift_ints [] hm (Heap.le_refl _) rfl
  · have e2 := rep_get (x := [HVal.int .i64 0]) hp
    refine fn0S 14 keep80 ib80 mk80 mix Tryz.func80 rfl (by kernel_rfl) (by simp) fun h => ?_
    simp (maxSteps := 1000000) -dsimp -implicitDefEqProofs only [go_sem, ↓reduceIte, keep80, ib80, mk80, Tryz.f80, Int.toNat_natCast, e2]
    refine ⟨Nat.zero_lt_one, Nat.le_refl _, by omega, by omega, fun m hm => ⟨fun _ => ⟨by omega, ?_⟩, fun q => absurd q (by omega)⟩⟩
    rw [upd_upd, show Int.toNat 0 = 0 from rfl, rowConst]
    exact shift_ints _ hm (Heap.le_refl _) (constL_len n sz).symm
def keep163 : List Nat := [0, 1, 4, 5, 6, 11]
def ib163 : List Nat := [7, 21]
def mk163 : Marks := fun _ => ([], .nil, [])
set_option maxRecDepth 100000 in
theorem l01Scale (a : List Int) (m : Int) (hm : Num m) (hl : a.length ≤ 1048576) (ha : Nums a) : Fn0 Tryz.prog 163 [ints a, I m] (ints (sclL a m)) := by
  have hc := sclL_len a m
  refine fn0S 24 keep163 ib163 mk163 mix Tryz.func163 rfl (by kernel_rfl) (by simp) fun h => ?_
  simp (maxSteps := 1000000) -dsimp -implicitDefEqProofs only [go_sem, ↓reduceIte, keep163, ib163, mk163, Tryz.f163]
  refine ⟨Nat.zero_lt_one, ?_⟩
  refine loopF (keep := keep163) (ib := ib163) (mk := mk163) mix (by kernel_rfl) (fun x : Nat × Option Nat => [(0, ints a), (1, I m), (5, oval 1 ((sclL a m).take x.1).length x.2), (6, I x.1)]) (fun x => oheap h (.row 1 ((((sclL a m).take x.1).map fun n => [I n]).map (List.map .v))) x.2) (fun x => x.1 ≤ a.length ∧ oside h ((sclL a m).take x.1) x.2) (fun x => a.length - x.1) (0, none) ⟨by simp [SatL, tget, oval], by simp only [oheap_none]; exact Heap.le_refl _, Nat.zero_le _, by simp [oside]⟩ ?_
  rintro ⟨k, o⟩ ⟨hk, hos⟩
  simp only at hk hos ⊢
  rcases Nat.lt_or_ge k a.length with hlt | hge
  · have ea : a[k]? = some a[k] := List.getElem?_eq_getElem hlt
    have hy : (sclL a m).take (k + 1) = (sclL a m).take k ++ [(sclL a m)[k]'(by omega)] := List.take_succ_eq_append_getElem (by omega)
    have hv : (sclL a m)[k]'(by omega) = a[k] * m % 1000003 := by simp [sclL]
    have hlk : ((sclL a m).take k).length = k := by rw [List.length_take]; omega
    rw [hv] at hy
    cases o with
    | none =>
      rw [oside_none] at hos
      rw [hos] at hy ⊢
      simp (maxSteps := 1000000) -dsimp -implicitDefEqProofs only [go_sem, ↓reduceIte, keep163, ib163, mk163, Tryz.f163, oval_none, oheap_none, hlt, ea]
      intro _
      first | refine HFnF.mk (specTimes a[k] m (ha _ (List.getElem_mem hlt)) hm) ?_ | refine CallSF.mk (specTimes a[k] m (ha _ (List.getElem_mem hlt)) hm) ?_ | refine HFnF.mkAt (specTimes a[k] m (ha _ (List.getElem_mem hlt)) hm) ?_ | refine CallSF.mk (FnAt.fn0 (specTimes a[k] m (ha _ (List.getElem_mem hlt)) hm)) ?_
      simp (maxSteps := 1000000) -dsimp -implicitDefEqProofs only [go_sem, ↓reduceIte, keep163, ib163, mk163, Tryz.f163]
      repeat' (with_reducible first | intro _ | refine And.intro ?_ ?_)
      all_goals try (first | omega | decide)
      rename_i b hb
      refine ⟨(k + 1, some b), ?_⟩
      simp only [hy]
      refine ⟨⟨rfl, ?_⟩, Heap.le_refl _, ⟨by omega, hb⟩, by omega⟩
      rw [IntWalk.i64_in _ (by omega)]; rfl
    | some n =>
      rw [oside_some] at hos
      simp (maxSteps := 1000000) -dsimp -implicitDefEqProofs only [go_sem, ↓reduceIte, keep163, ib163, mk163, Tryz.f163, oval_some, oheap_some, hlt, ea]
      intro _
      first | refine HFnF.mk (specTimes a[k] m (ha _ (List.getElem_mem hlt)) hm) ?_ | refine CallSF.mk (specTimes a[k] m (ha _ (List.getElem_mem hlt)) hm) ?_ | refine HFnF.mkAt (specTimes a[k] m (ha _ (List.getElem_mem hlt)) hm) ?_ | refine CallSF.mk (FnAt.fn0 (specTimes a[k] m (ha _ (List.getElem_mem hlt)) hm)) ?_
      simp (maxSteps := 1000000) -dsimp -implicitDefEqProofs only [go_sem, ↓reduceIte, keep163, ib163, mk163, Tryz.f163]
      repeat' (with_reducible first | intro _ | refine And.intro ?_ ?_)
      all_goals try (first | omega | decide | exact Nat.le_refl _)
      rename_i b hb
      refine ⟨(k + 1, some b), ?_⟩
      simp only [hy, oheap_some, oval_some, oside_some]
      refine ⟨⟨by rw [List.length_append]; rfl, ?_⟩, ?_, ⟨by omega, hb.2⟩, by omega⟩
      · rw [IntWalk.i64_in _ (by omega)]; rfl
      · rw [← grow_row]; exact le_app hos
  · have hk' : k = a.length := by omega
    subst hk'
    rw [List.take_of_length_le (by omega)] at hos ⊢
    cases o with
    | none =>
      rw [oside_none] at hos
      simp (maxSteps := 1000000) -dsimp -implicitDefEqProofs only [go_sem, ↓reduceIte, keep163, ib163, mk163, Tryz.f163, oval_none, oheap_none, Nat.lt_irrefl, Int.lt_irrefl]
      intro _
      rw [hos]
      exact Shift.of (Sub.loose _ _ _) (Heap.le_refl _)
    | some n =>
      rw [oside_some] at hos
      simp (maxSteps := 1000000) -dsimp -implicitDefEqProofs only [go_sem, ↓reduceIte, keep163, ib163, mk163, Tryz.f163, oval_some, oheap_some, Nat.lt_irrefl, Int.lt_irrefl]
      intro _
      exact shift_ints _ hos (Heap.le_refl _) rfl
def keep161 : List Nat := [0, 1, 4, 5, 6, 11]
def ib161 : List Nat := [7, 24]
def mk161 : Marks := fun id => match id with | 5 => ([11], (.op 0 (.op 1 (.op 2 (.op 3 (.op 4 (.op 5 (.op 6 (.op 7 (.op 8 (.op 9 (.op 10 (.op 11 (.op 12 .nil))))))))))))), []) | _ => ([], .nil, [])
set_option maxRecDepth 100000 in
theorem l01Add (a b : List Int) (hab : b.length = a.length) (hl : a.length ≤ 1048576) (ha : Nums a) (hb : Nums b) : Fn0 Tryz.prog 161 [ints a, ints b] (ints (addL a b)) := by
  have hc := addL_len hab
  refine fn0S 27 keep161 ib161 mk161 mix Tryz.func161 rfl (by kernel_rfl) (by simp) fun h => ?_
  simp (maxSteps := 1000000) -dsimp -implicitDefEqProofs only [go_sem, ↓reduceIte, keep161, ib161, mk161, Tryz.f161]
  refine ⟨Nat.zero_lt_one, ?_⟩
  refine loopF (keep := keep161) (ib := ib161) (mk := mk161) mix (by kernel_rfl) (fun x : Nat × Option Nat => [(0, ints a), (1, ints b), (5, oval 1 ((addL a b).take x.1).length x.2), (6, I x.1)]) (fun x => oheap h (.row 1 ((((addL a b).take x.1).map fun n => [I n]).map (List.map .v))) x.2) (fun x => x.1 ≤ a.length ∧ oside h ((addL a b).take x.1) x.2) (fun x => a.length - x.1) (0, none) ⟨by simp [SatL, tget, oval], by simp only [oheap_none]; exact Heap.le_refl _, Nat.zero_le _, by simp [oside]⟩ ?_
  rintro ⟨k, o⟩ ⟨hk, hos⟩
  simp only at hk hos ⊢
  rcases Nat.lt_or_ge k a.length with hlt | hge
  · have ea : a[k]? = some a[k] := List.getElem?_eq_getElem hlt
    have eb : b[k]? = some (b[k]'(by omega)) := List.getElem?_eq_getElem (by omega)
    have hy : (addL a b).take (k + 1) = (addL a b).take k ++ [(addL a b)[k]'(by omega)] := List.take_succ_eq_append_getElem (by omega)
    have hv : (addL a b)[k]'(by omega) = (a[k] + b[k]'(by omega)) % 1000003 := by simp [addL]
    have hlk : ((addL a b).take k).length = k := by rw [List.length_take]; omega
    rw [hv] at hy
    cases o with
    | none =>
      rw [oside_none] at hos
      rw [hos] at hy ⊢
      simp (maxSteps := 1000000) -dsimp -implicitDefEqProofs only [go_sem, ↓reduceIte, keep161, ib161, mk161, Tryz.f161, oval_none, oheap_none, hlt, ea, eb]
      intro _
      refine ⟨by omega, ?_⟩
      first | refine HFnF.mk (specPlus a[k] (b[k]'(by omega))) ?_ | refine CallSF.mk (specPlus a[k] (b[k]'(by omega))) ?_ | refine HFnF.mkAt (specPlus a[k] (b[k]'(by omega))) ?_ | refine CallSF.mk (FnAt.fn0 (specPlus a[k] (b[k]'(by omega)))) ?_
      simp (maxSteps := 1000000) -dsimp -implicitDefEqProofs only [go_sem, ↓reduceIte, keep161, ib161, mk161, Tryz.f161]
      repeat' (with_reducible first | intro _ | refine And.intro ?_ ?_)
      all_goals try (first | omega | decide)
      rename_i b hb
      refine ⟨(k + 1, some b), ?_⟩
      simp only [hy]
      refine ⟨⟨rfl, ?_⟩, Heap.le_refl _, ⟨by omega, hb⟩, by omega⟩
      rw [IntWalk.i64_in _ (by omega)]; rfl
    | some n =>
      rw [oside_some] at hos
      simp (maxSteps := 1000000) -dsimp -implicitDefEqProofs only [go_sem, ↓reduceIte, keep161, ib161, mk161, Tryz.f161, oval_some, oheap_some, hlt, ea, eb]
      intro _
      refine ⟨by omega, ?_⟩
      first | refine HFnF.mk (specPlus a[k] (b[k]'(by omega))) ?_ | refine CallSF.mk (specPlus a[k] (b[k]'(by omega))) ?_ | refine HFnF.mkAt (specPlus a[k] (b[k]'(by omega))) ?_ | refine CallSF.mk (FnAt.fn0 (specPlus a[k] (b[k]'(by omega)))) ?_
      simp (maxSteps := 1000000) -dsimp -implicitDefEqProofs only [go_sem, ↓reduceIte, keep161, ib161, mk161, Tryz.f161]
      repeat' (with_reducible first | intro _ | refine And.intro ?_ ?_)
      all_goals try (first | omega | decide | exact Nat.le_refl _)
      rename_i b hb
      refine ⟨(k + 1, some b), ?_⟩
      simp only [hy, oheap_some, oval_some, oside_some]
      refine ⟨⟨by rw [List.length_append]; rfl, ?_⟩, ?_, ⟨by omega, hb.2⟩, by omega⟩
      · rw [IntWalk.i64_in _ (by omega)]; rfl
      · rw [← grow_row]; exact le_app hos
  · have hk' : k = a.length := by omega
    subst hk'
    rw [List.take_of_length_le (by omega)] at hos ⊢
    cases o with
    | none =>
      rw [oside_none] at hos
      simp (maxSteps := 1000000) -dsimp -implicitDefEqProofs only [go_sem, ↓reduceIte, keep161, ib161, mk161, Tryz.f161, oval_none, oheap_none, Nat.lt_irrefl, Int.lt_irrefl]
      intro _
      rw [hos]
      exact Shift.of (Sub.loose _ _ _) (Heap.le_refl _)
    | some n =>
      rw [oside_some] at hos
      simp (maxSteps := 1000000) -dsimp -implicitDefEqProofs only [go_sem, ↓reduceIte, keep161, ib161, mk161, Tryz.f161, oval_some, oheap_some, Nat.lt_irrefl, Int.lt_irrefl]
      intro _
      exact shift_ints _ hos (Heap.le_refl _) rfl
def keep124 : List Nat := [0, 1, 4]
def ib124 : List Nat := []
def mk124 : Marks := fun _ => ([], .nil, [])
theorem l01Sub (a b : List Int) (hab : b.length = a.length) (hl : a.length ≤ 1048576) (ha : Nums a) (hb : Nums b) : Fn0 Tryz.prog 124 [ints a, ints b] (ints (subL a b)) := by
  refine fn0F 9 keep124 ib124 mk124 mix Tryz.func124 rfl (by kernel_rfl) (by simp) fun h => ?_
  simp (maxSteps := 1000000) -dsimp -implicitDefEqProofs only [go_sem, ↓reduceIte, keep124, ib124, mk124, Tryz.f124]
  first | refine HFnF.mk (l01Scale b 1000002 (by unfold Num; omega) (by omega) hb) ?_ | refine CallSF.mk (l01Scale b 1000002 (by unfold Num; omega) (by omega) hb) ?_ | refine HFnF.mkAt (l01Scale b 1000002 (by unfold Num; omega) (by omega) hb) ?_ | refine CallSF.mk (FnAt.fn0 (l01Scale b 1000002 (by unfold Num; omega) (by omega) hb)) ?_
  simp (maxSteps := 1000000) -dsimp -implicitDefEqProofs only [go_sem, ↓reduceIte, keep124, ib124, mk124, Tryz.f124]
  first | refine HFnF.mk (l01Add a (sclL b 1000002) (by rw [sclL_len]; exact hab) hl ha (serOK_scl _ ⟨rfl, hb⟩).2) ?_ | refine CallSF.mk (l01Add a (sclL b 1000002) (by rw [sclL_len]; exact hab) hl ha (serOK_scl _ ⟨rfl, hb⟩).2) ?_ | refine HFnF.mkAt (l01Add a (sclL b 1000002) (by rw [sclL_len]; exact hab) hl ha (serOK_scl _ ⟨rfl, hb⟩).2) ?_ | refine CallSF.mk (FnAt.fn0 (l01Add a (sclL b 1000002) (by rw [sclL_len]; exact hab) hl ha (serOK_scl _ ⟨rfl, hb⟩).2)) ?_
  simp (maxSteps := 1000000) -dsimp -implicitDefEqProofs only [go_sem, ↓reduceIte, keep124, ib124, mk124, Tryz.f124]
  rfl
def keep162 : List Nat := [0, 1, 4, 5, 6, 7, 8, 13, 18]
def ib162 : List Nat := [9, 36]
def mk162 : Marks := fun id => match id with | 9 => ([], (.op 0 (.op 1 (.op 2 (.op 3 (.op 4 (.op 5 (.op 6 (.op 7 (.op 8 (.op 9 (.op 10 (.op 11 (.op 12 (.op 13 .nil)))))))))))))), []) | _ => ([], .nil, [])
set_option maxRecDepth 100000 in
theorem l01Mul (a b : List Int) (hab : b.length = a.length) (hl : a.length ≤ 1048576) (ha : Nums a) (hb : Nums b) : Fn0 Tryz.prog 162 [ints a, ints b] (ints (mulL a b)) := by
  have hc := mulL_len a b
  refine fn0S 39 keep162 ib162 mk162 mix Tryz.func162 rfl (by kernel_rfl) (by simp) fun h => ?_
  simp (maxSteps := 1000000) -dsimp -implicitDefEqProofs only [go_sem, ↓reduceIte, keep162, ib162, mk162, Tryz.f162]
  refine ⟨Nat.zero_lt_one, ?_⟩
  refine loopF (keep := keep162) (ib := ib162) (mk := mk162) mix (by kernel_rfl) (fun x : Nat × Option Nat => [(0, ints a), (1, ints b), (5, oval 1 ((mulL a b).take x.1).length x.2), (6, I x.1)]) (fun x => oheap h (.row 1 ((((mulL a b).take x.1).map fun n => [I n]).map (List.map .v))) x.2) (fun x => x.1 ≤ a.length ∧ oside h ((mulL a b).take x.1) x.2) (fun x => a.length - x.1) (0, none) ⟨by simp [SatL, tget, oval], by simp only [oheap_none]; exact Heap.le_refl _, Nat.zero_le _, by simp [oside]⟩ ?_
  rintro ⟨k, o⟩ ⟨hk, hos⟩
  simp only at hk hos ⊢
  rcases Nat.lt_or_ge k a.length with hlt | hge
  · have hy : (mulL a b).take (k + 1) = (mulL a b).take k ++ [(mulL a b)[k]'(by omega)] := List.take_succ_eq_append_getElem (by omega)
    have hv : (mulL a b)[k]'(by omega) = cvS a b k (k + 1) := by simp [mulL]
    have hlk : ((mulL a b).take k).length = k := by rw [List.length_take]; omega
    rw [hv] at hy
    cases o with
    | none =>
      rw [oside_none] at hos
      rw [hos] at hy ⊢
      simp (maxSteps := 1000000) -dsimp -implicitDefEqProofs only [go_sem, ↓reduceIte, keep162, ib162, mk162, Tryz.f162, oval_none, oheap_none, hlt]
      intro _
      refine loopSame (keep := keep162) (ib := ib162) (mk := mk162) mix (by kernel_rfl) (fun i : Nat => [(0, ints a), (1, ints b), (5, .sl 1 [] true), (6, I k), (7, I (cvS a b k i)), (8, I i)]) (fun i => i ≤ k + 1) (fun i => k + 1 - i) 0 ⟨by simp [SatL, tget, cvS], Nat.zero_le _⟩ ?_
      intro i hi
      rcases Nat.lt_or_ge i (k + 1) with hlt2 | hge2
      · have ea := getD_get (l := a) (i := i) (by omega)
        have eb := getD_get (l := b) (i := k - i) (by omega)
        have ew : IntKind.i64.wrap ((k : Int) - (i : Int)) = ((k - i : Nat) : Int) := by rw [IntWalk.i64_in _ (by omega)]; omega
        simp (maxSteps := 1000000) -dsimp -implicitDefEqProofs only [go_sem, ↓reduceIte, keep162, ib162, mk162, Tryz.f162, ea, eb, ew]
        refine ⟨fun _ => ⟨by omega, by omega, ?_⟩, fun q => absurd (by omega) q⟩
        first | refine HFnF.mk (specTimes (a.getD i 0) (b.getD (k - i) 0) (ha.get i) (hb.get (k - i))) ?_ | refine CallSF.mk (specTimes (a.getD i 0) (b.getD (k - i) 0) (ha.get i) (hb.get (k - i))) ?_ | refine HFnF.mkAt (specTimes (a.getD i 0) (b.getD (k - i) 0) (ha.get i) (hb.get (k - i))) ?_ | refine CallSF.mk (FnAt.fn0 (specTimes (a.getD i 0) (b.getD (k - i) 0) (ha.get i) (hb.get (k - i)))) ?_
        simp (maxSteps := 1000000) -dsimp -implicitDefEqProofs only [go_sem, ↓reduceIte, keep162, ib162, mk162, Tryz.f162]
        first | refine HFnF.mk (specPlus (cvS a b k i) (a.getD i 0 * b.getD (k - i) 0 % 1000003)) ?_ | refine CallSF.mk (specPlus (cvS a b k i) (a.getD i 0 * b.getD (k - i) 0 % 1000003)) ?_ | refine HFnF.mkAt (specPlus (cvS a b k i) (a.getD i 0 * b.getD (k - i) 0 % 1000003)) ?_ | refine CallSF.mk (FnAt.fn0 (specPlus (cvS a b k i) (a.getD i 0 * b.getD (k - i) 0 % 1000003))) ?_
        simp (maxSteps := 1000000) -dsimp -implicitDefEqProofs only [go_sem, ↓reduceIte, keep162, ib162, mk162, Tryz.f162]
        refine ⟨i + 1, ⟨?_, by rw [IntWalk.i64_in _ (by omega)]; rfl⟩, by omega, by omega⟩
        rw [cvS]
        omega
      · have hi' : i = k + 1 := by omega
        subst hi'
        simp (maxSteps := 1000000) -dsimp -implicitDefEqProofs only [go_sem, ↓reduceIte, keep162, ib162, mk162, Tryz.f162, hlt]
        refine ⟨fun q => absurd q (by omega), fun _ => ?_⟩
        repeat' (with_reducible first | intro _ | refine And.intro ?_ ?_)
        all_goals try (first | omega | decide)
        rename_i b hb
        refine ⟨(k + 1, some b), ?_⟩
        simp only [hy]
        refine ⟨⟨rfl, ?_⟩, Heap.le_refl _, ⟨by omega, hb⟩, by omega⟩
        rw [IntWalk.i64_in _ (by omega)]; rfl
    | some n =>
      rw [oside_some] at hos
      simp (maxSteps := 1000000) -dsimp -implicitDefEqProofs only [go_sem, ↓reduceIte, keep162, ib162, mk162, Tryz.f162, oval_some, oheap_some, hlt]
      intro _
      refine loopSame (keep := keep162) (ib := ib162) (mk := mk162) mix (by kernel_rfl) (fun i : Nat => [(0, ints a), (1, ints b), (5, .os n 1 0 ((mulL a b).take k).length), (6, I k), (7, I (cvS a b k i)), (8, I i)]) (fun i => i ≤ k + 1) (fun i => k + 1 - i) 0 ⟨by simp [SatL, tget, cvS], Nat.zero_le _⟩ ?_
      intro i hi
      rcases Nat.lt_or_ge i (k + 1) with hlt2 | hge2
      · have ea := getD_get (l := a) (i := i) (by omega)
        have eb := getD_get (l := b) (i := k - i) (by omega)
        have ew : IntKind.i64.wrap ((k : Int) - (i : Int)) = ((k - i : Nat) : Int) := by rw [IntWalk.i64_in _ (by omega)]; omega
        simp (maxSteps := 1000000) -dsimp -implicitDefEqProofs only [go_sem, ↓reduceIte, keep162, ib162, mk162, Tryz.f162, ea, eb, ew]
        refine ⟨fun _ => ⟨by omega, by omega, ?_⟩, fun q => absurd (by omega) q⟩
        first | refine HFnF.mk (specTimes (a.getD i 0) (b.getD (k - i) 0) (ha.get i) (hb.get (k - i))) ?_ | refine CallSF.mk (specTimes (a.getD i 0) (b.getD (k - i) 0) (ha.get i) (hb.get (k - i))) ?_ | refine HFnF.mkAt (specTimes (a.getD i 0) (b.getD (k - i) 0) (ha.get i) (hb.get (k - i))) ?_ | refine CallSF.mk (FnAt.fn0 (specTimes (a.getD i 0) (b.getD (k - i) 0) (ha.get i) (hb.get (k - i)))) ?_
        simp (maxSteps := 1000000) -dsimp -implicitDefEqProofs only [go_sem, ↓reduceIte, keep162, ib162, mk162, Tryz.f162]
        first | refine HFnF.mk (specPlus (cvS a b k i) (a.getD i 0 * b.getD (k - i) 0 % 1000003)) ?_ | refine CallSF.mk (specPlus (cvS a b k i) (a.getD i 0 * b.getD (k - i) 0 % 1000003)) ?_ | refine HFnF.mkAt (specPlus (cvS a b k i) (a.getD i 0 * b.getD (k - i) 0 % 1000003)) ?_ | refine CallSF.mk (FnAt.fn0 (specPlus (cvS a b k i) (a.getD i 0 * b.getD (k - i) 0 % 1000003))) ?_
        simp (maxSteps := 1000000) -dsimp -implicitDefEqProofs only [go_sem, ↓reduceIte, keep162, ib162, mk162, Tryz.f162]
        refine ⟨i + 1, ⟨?_, by rw [IntWalk.i64_in _ (by omega)]; rfl⟩, by omega, by omega⟩
        rw [cvS]
        omega
      · have hi' : i = k + 1 := by omega
        subst hi'
        simp (maxSteps := 1000000) -dsimp -implicitDefEqProofs only [go_sem, ↓reduceIte, keep162, ib162, mk162, Tryz.f162, hlt]
        refine ⟨fun q => absurd q (by omega), fun _ => ?_⟩
        repeat' (with_reducible first | intro _ | refine And.intro ?_ ?_)
        all_goals try (first | omega | decide | exact Nat.le_refl _)
        rename_i b hb
        refine ⟨(k + 1, some b), ?_⟩
        simp only [hy, oheap_some, oval_some, oside_some]
        refine ⟨⟨by rw [List.length_append]; rfl, ?_⟩, ?_, ⟨by omega, hb.2⟩, by omega⟩
        · rw [IntWalk.i64_in _ (by omega)]; rfl
        · rw [← grow_row]; exact le_app hos
  · have hk' : k = a.length := by omega
    subst hk'
    rw [List.take_of_length_le (by omega)] at hos ⊢
    cases o with
    | none =>
      rw [oside_none] at hos
      simp (maxSteps := 1000000) -dsimp -implicitDefEqProofs only [go_sem, ↓reduceIte, keep162, ib162, mk162, Tryz.f162, oval_none, oheap_none, Nat.lt_irrefl, Int.lt_irrefl]
      intro _
      rw [hos]
      exact Shift.of (Sub.loose _ _ _) (Heap.le_refl _)
    | some n =>
      rw [oside_some] at hos
      simp (maxSteps := 1000000) -dsimp -implicitDefEqProofs only [go_sem, ↓reduceIte, keep162, ib162, mk162, Tryz.f162, oval_some, oheap_some, Nat.lt_irrefl, Int.lt_irrefl]
      intro _
      exact shift_ints _ hos (Heap.le_refl _) rfl
def keep164 : List Nat := [0, 1, 4, 5, 6, 7, 8, 9, 18, 27]
def ib164 : List Nat := [10, 47]
def mk164 : Marks := fun id => match id with | 10 => ([4], (.op 0 (.op 1 (.op 2 (.op 3 (.op 5 (.op 6 (.op 7 (.op 8 (.op 9 (.op 10 (.op 4 (.op 11 (.op 12 (.op 13 .nil)))))))))))))), []) | _ => ([], .nil, [])
set_option maxRecDepth 100000 in
theorem l01Div (a b : List Int) (hab : b.length = a.length) (hl : a.length ≤ 1048576) (h0 : 0 < a.length) (ha : Nums a) (hb : Nums b) : Fn0 Tryz.prog 164 [ints a, ints b] (ints (divL a b)) := by
  have hc := divL_len a b
  have e0 : b[Int.toNat 0]? = some (b.getD 0 0) := getD_get (l := b) (i := 0) (by omega)
  refine fn0S 50 keep164 ib164 mk164 mix Tryz.func164 rfl (by kernel_rfl) (by simp) fun h => ?_
  simp (maxSteps := 1000000) -dsimp -implicitDefEqProofs only [go_sem, ↓reduceIte, keep164, ib164, mk164, Tryz.f164, e0]
  refine ⟨Nat.zero_lt_one, by omega, ?_⟩
  first | refine HFnF.mk (l01Inv (b.getD 0 0)) ?_ | refine CallSF.mk (l01Inv (b.getD 0 0)) ?_ | refine HFnF.mkAt (l01Inv (b.getD 0 0)) ?_ | refine CallSF.mk (FnAt.fn0 (l01Inv (b.getD 0 0))) ?_
  simp (maxSteps := 1000000) -dsimp -implicitDefEqProofs only [go_sem, ↓reduceIte, keep164, ib164, mk164, Tryz.f164]
  refine loopF (keep := keep164) (ib := ib164) (mk := mk164) mix (by kernel_rfl) (fun x : Nat × Option Nat => [(0, ints a), (1, ints b), (6, I (invN (b.getD 0 0))), (5, oval 1 ((divL a b).take x.1).length x.2), (7, I x.1)]) (fun x => oheap h (.row 1 ((((divL a b).take x.1).map fun n => [I n]).map (List.map .v))) x.2) (fun x => x.1 ≤ a.length ∧ oside h ((divL a b).take x.1) x.2) (fun x => a.length - x.1) (0, none) ⟨by simp [SatL, tget, oval], by simp only [oheap_none]; exact Heap.le_refl _, Nat.zero_le _, by simp [oside]⟩ ?_
  rintro ⟨k, o⟩ ⟨hk, hos⟩
  simp only at hk hos ⊢
  rcases Nat.lt_or_ge k a.length with hlt | hge
  · have hy : (divL a b).take (k + 1) = (divL a b).take k ++ [(divL a b)[k]'(by omega)] := List.take_succ_eq_append_getElem (by omega)
    have hv := divL_get (a := a) (b := b) hlt
    have hlk : ((divL a b).take k).length = k := by rw [List.length_take]; omega
    have ek := getD_get hlt
    rw [hv] at hy
    cases o with
    | none =>
      rw [oside_none] at hos
      rw [hos] at hy ⊢
      have hk0 : k = 0 := by rw [hos] at hlk; exact hlk.symm
      subst hk0
      simp (maxSteps := 1000000) -dsimp -implicitDefEqProofs only [go_sem, ↓reduceIte, keep164, ib164, mk164, Tryz.f164, oval_none, oheap_none, hlt, ek]
      intro _
      refine loopSame (keep := keep164) (ib := ib164) (mk := mk164) mix (by kernel_rfl) (fun _ : Unit => [(0, ints a), (1, ints b), (5, .sl 1 [] true), (6, I (invN (b.getD 0 0))), (7, I (0 : Nat)), (8, I (a.getD 0 0)), (9, I (0 : Nat))]) (fun _ => True) (fun _ => 0) () ⟨by simp [SatL, tget], trivial⟩ ?_
      intro _ _
      simp (maxSteps := 1000000) -dsimp -implicitDefEqProofs only [go_sem, ↓reduceIte, keep164, ib164, mk164, Tryz.f164, Nat.lt_irrefl, Int.lt_irrefl]
      try (refine ⟨fun q => absurd q (by omega), fun _ => ?_⟩)
      first | refine HFnF.mk (specTimes (a.getD 0 0) (invN (b.getD 0 0)) (ha.get 0) (num_inv _)) ?_ | refine CallSF.mk (specTimes (a.getD 0 0) (invN (b.getD 0 0)) (ha.get 0) (num_inv _)) ?_ | refine HFnF.mkAt (specTimes (a.getD 0 0) (invN (b.getD 0 0)) (ha.get 0) (num_inv _)) ?_ | refine CallSF.mk (FnAt.fn0 (specTimes (a.getD 0 0) (invN (b.getD 0 0)) (ha.get 0) (num_inv _))) ?_
      simp (maxSteps := 1000000) -dsimp -implicitDefEqProofs only [go_sem, ↓reduceIte, keep164, ib164, mk164, Tryz.f164]
      repeat' (with_reducible first | intro _ | refine And.intro ?_ ?_)
      all_goals try (first | omega | decide)
      rename_i b hb
      refine ⟨(0 + 1, some b), ?_⟩
      simp only [hy]
      refine ⟨⟨rfl, ?_⟩, Heap.le_refl _, ⟨by omega, hb⟩, by omega⟩
      rw [IntWalk.i64_in _ (by omega)]; rfl
    | some n =>
      rw [oside_some] at hos
      simp (maxSteps := 1000000) -dsimp -implicitDefEqProofs only [go_sem, ↓reduceIte, keep164, ib164, mk164, Tryz.f164, oval_some, oheap_some, hlt, ek]
      intro _
      have htk : (divL a b).take k = divN a b k := divN_take a b _ hk
      refine loopSame (keep := keep164) (ib := ib164) (mk := mk164) mix (by kernel_rfl) (fun i : Nat => [(0, ints a), (1, ints b), (5, .os n 1 0 ((divL a b).take k).length), (6, I (invN (b.getD 0 0))), (7, I k), (8, I (dvS (divN a b k) b k (a.getD k 0) i)), (9, I i)]) (fun i => i ≤ k) (fun i => k - i) 0 ⟨by simp [SatL, tget, dvS], Nat.zero_le _⟩ ?_
      intro i hi
      rcases Nat.lt_or_ge i k with hlt2 | hge2
      · have ei : ((divL a b).take k)[i]? = some ((divN a b k).getD i 0) := by rw [htk]; exact getD_get (by rw [divN_len]; exact hlt2)
        have eb := getD_get (l := b) (i := k - i) (by omega)
        have ew : IntKind.i64.wrap ((k : Int) - (i : Int)) = ((k - i : Nat) : Int) := by rw [IntWalk.i64_in _ (by omega)]; omega
        simp (maxSteps := 1000000) -dsimp -implicitDefEqProofs only [go_sem, ↓reduceIte, keep164, ib164, mk164, Tryz.f164, hlt2, ei, eb, ew]
        refine ⟨by omega, by omega, ?_⟩
        first | refine HFnF.mk (specTimes ((divN a b k).getD i 0) (b.getD (k - i) 0) ((nums_div a b k).get i) (hb.get (k - i))) ?_ | refine CallSF.mk (specTimes ((divN a b k).getD i 0) (b.getD (k - i) 0) ((nums_div a b k).get i) (hb.get (k - i))) ?_ | refine HFnF.mkAt (specTimes ((divN a b k).getD i 0) (b.getD (k - i) 0) ((nums_div a b k).get i) (hb.get (k - i))) ?_ | refine CallSF.mk (FnAt.fn0 (specTimes ((divN a b k).getD i 0) (b.getD (k - i) 0) ((nums_div a b k).get i) (hb.get (k - i)))) ?_
        simp (maxSteps := 1000000) -dsimp -implicitDefEqProofs only [go_sem, ↓reduceIte, keep164, ib164, mk164, Tryz.f164]
        first | refine HFnF.mk (l01Minus (dvS (divN a b k) b k (a.getD k 0) i) ((divN a b k).getD i 0 * b.getD (k - i) 0 % 1000003) (num_dv _ _ _ (ha.get k) i) (num_mod _)) ?_ | refine CallSF.mk (l01Minus (dvS (divN a b k) b k (a.getD k 0) i) ((divN a b k).getD i 0 * b.getD (k - i) 0 % 1000003) (num_dv _ _ _ (ha.get k) i) (num_mod _)) ?_ | refine HFnF.mkAt (l01Minus (dvS (divN a b k) b k (a.getD k 0) i) ((divN a b k).getD i 0 * b.getD (k - i) 0 % 1000003) (num_dv _ _ _ (ha.get k) i) (num_mod _)) ?_ | refine CallSF.mk (FnAt.fn0 (l01Minus (dvS (divN a b k) b k (a.getD k 0) i) ((divN a b k).getD i 0 * b.getD (k - i) 0 % 1000003) (num_dv _ _ _ (ha.get k) i) (num_mod _))) ?_
        simp (maxSteps := 1000000) -dsimp -implicitDefEqProofs only [go_sem, ↓reduceIte, keep164, ib164, mk164, Tryz.f164]
        refine ⟨i + 1, ⟨?_, by rw [IntWalk.i64_in _ (by omega)]; rfl⟩, by omega, by omega⟩
        rw [dvS]
        omega
      · have hi' : i = k := by omega
        subst hi'
        simp (maxSteps := 1000000) -dsimp -implicitDefEqProofs only [go_sem, ↓reduceIte, keep164, ib164, mk164, Tryz.f164, Nat.lt_irrefl, Int.lt_irrefl]
        first | refine HFnF.mk (specTimes (dvS (divN a b i) b i (a.getD i 0) i) (invN (b.getD 0 0)) (num_dv _ _ _ (ha.get i) i) (num_inv _)) ?_ | refine CallSF.mk (specTimes (dvS (divN a b i) b i (a.getD i 0) i) (invN (b.getD 0 0)) (num_dv _ _ _ (ha.get i) i) (num_inv _)) ?_ | refine HFnF.mkAt (specTimes (dvS (divN a b i) b i (a.getD i 0) i) (invN (b.getD 0 0)) (num_dv _ _ _ (ha.get i) i) (num_inv _)) ?_ | refine CallSF.mk (FnAt.fn0 (specTimes (dvS (divN a b i) b i (a.getD i 0) i) (invN (b.getD 0 0)) (num_dv _ _ _ (ha.get i) i) (num_inv _))) ?_
        simp (maxSteps := 1000000) -dsimp -implicitDefEqProofs only [go_sem, ↓reduceIte, keep164, ib164, mk164, Tryz.f164]
        repeat' (with_reducible first | intro _ | refine And.intro ?_ ?_)
        all_goals try (first | omega | decide | exact Nat.le_refl _)
        rename_i b hb
        refine ⟨(i + 1, some b), ?_⟩
        simp only [hy, oheap_some, oval_some, oside_some]
        refine ⟨⟨by rw [List.length_append]; rfl, ?_⟩, ?_, ⟨by omega, hb.2⟩, by omega⟩
        · rw [IntWalk.i64_in _ (by omega)]; rfl
        · rw [← grow_row]; exact le_app hos
  · have hk' : k = a.length := by omega
    subst hk'
    rw [List.take_of_length_le (by omega)] at hos ⊢
    cases o with
    | none =>
      rw [oside_none] at hos
      simp (maxSteps := 1000000) -dsimp -implicitDefEqProofs only [go_sem, ↓reduceIte, keep164, ib164, mk164, Tryz.f164, oval_none, oheap_none, Nat.lt_irrefl, Int.lt_irrefl]
      intro _
      rw [hos]
      exact Shift.of (Sub.loose _ _ _) (Heap.le_refl _)
    | some n =>
      rw [oside_some] at hos
      simp (maxSteps := 1000000) -dsimp -implicitDefEqProofs only [go_sem, ↓reduceIte, keep164, ib164, mk164, Tryz.f164, oval_some, oheap_some, Nat.lt_irrefl, Int.lt_irrefl]
      intro _
      exact shift_ints _ hos (Heap.le_refl _) rfl
/-- A row of lists of numbers of this function's own, handed back. -/
theorem shift_intss {h h' : Heap} {n : Nat} (l : List (List Int)) (h0 : h n = none) (hl : (upd h n (.row 1 ((l.map fun s => [ints s]).map (List.map .v)))).le h') {len : Nat} (e : len = l.length) : Shift (.os n 1 0 len) h' (sls 1 (fun s => [ints s]) l) h :=
  shift_row (l.map fun s => [ints s]) h0 hl len (by rw [List.length_map]; exact e)
def keep296 : List Nat := [0, 1, 4, 5, 6, 11]
def ib296 : List Nat := [7, 19, 23]
def mk296 : Marks := fun _ => ([], .nil, [])
set_option maxRecDepth 100000 in
theorem l02Env (env : List (List Int)) (s : List Int) (hl : env.length ≤ 1048576) : Fn0 Tryz.prog 296 [sls 1 (fun s => [ints s]) env, ints s] (sls 1 (fun s => [ints s]) (env ++ [s])) := by
  refine fn0S 25 keep296 ib296 mk296 mix Tryz.func296 rfl (by kernel_rfl) (by simp) fun h => ?_
  simp (maxSteps := 1000000) -dsimp -implicitDefEqProofs only [go_sem, ↓reduceIte, keep296, ib296, mk296, Tryz.f296]
  refine ⟨Nat.zero_lt_one, ?_⟩
  refine loopF (keep := keep296) (ib := ib296) (mk := mk296) mix (by kernel_rfl) (fun x : Nat × Option Nat => [(0, sls 1 (fun s => [ints s]) env), (1, ints s), (5, oval 1 (env.take x.1).length x.2), (6, I x.1)]) (fun x => oheap h (.row 1 (((env.take x.1).map fun s => [ints s]).map (List.map .v))) x.2) (fun x => x.1 ≤ env.length ∧ oside h (env.take x.1) x.2) (fun x => env.length - x.1) (0, none) ⟨by simp [SatL, tget, oval], by simp only [oheap_none]; exact Heap.le_refl _, Nat.zero_le _, by simp [oside]⟩ ?_
  rintro ⟨k, o⟩ ⟨hk, hos⟩
  simp only at hk hos ⊢
  rcases Nat.lt_or_ge k env.length with hlt | hge
  · have ea : env[k]? = some env[k] := List.getElem?_eq_getElem hlt
    have hy : env.take (k + 1) = env.take k ++ [env[k]] := List.take_succ_eq_append_getElem hlt
    have hlk : (env.take k).length = k := by rw [List.length_take]; omega
    cases o with
    | none =>
      rw [oside_none] at hos
      rw [hos] at hy ⊢
      simp (maxSteps := 1000000) -dsimp -implicitDefEqProofs only [go_sem, ↓reduceIte, keep296, ib296, mk296, Tryz.f296, oval_none, oheap_none, hlt, ea]
      intro _
      repeat' (with_reducible first | intro _ | refine And.intro ?_ ?_)
      all_goals try (first | omega | decide)
      rename_i b hb
      refine ⟨(k + 1, some b), ?_⟩
      simp only [hy]
      refine ⟨⟨rfl, ?_⟩, Heap.le_refl _, ⟨by omega, hb⟩, by omega⟩
      rw [IntWalk.i64_in _ (by omega)]; rfl
    | some n =>
      rw [oside_some] at hos
      simp (maxSteps := 1000000) -dsimp -implicitDefEqProofs only [go_sem, ↓reduceIte, keep296, ib296, mk296, Tryz.f296, oval_some, oheap_some, hlt, ea]
      intro _
      repeat' (with_reducible first | intro _ | refine And.intro ?_ ?_)
      all_goals try (first | omega | decide | exact Nat.le_refl _)
      rename_i b hb
      refine ⟨(k + 1, some b), ?_⟩
      simp only [hy, oheap_some, oval_some, oside_some]
      refine ⟨⟨by rw [List.length_append]; rfl, ?_⟩, ?_, ⟨by omega, hb.2⟩, by omega⟩
      · rw [IntWalk.i64_in _ (by omega)]; rfl
      · rw [← grow_row]; exact le_app hos
  · have hk' : k = env.length := by omega
    subst hk'
    rw [List.take_length] at hos ⊢
    cases o with
    | none =>
      rw [oside_none] at hos
      simp (maxSteps := 1000000) -dsimp -implicitDefEqProofs only [go_sem, ↓reduceIte, keep296, ib296, mk296, Tryz.f296, oval_none, oheap_none, Nat.lt_irrefl, Int.lt_irrefl]
      subst hos
      exact fun _ => ⟨Nat.zero_lt_one, Nat.zero_lt_one, Nat.zero_lt_one, fun n hn => shift_intss [s] hn (Heap.le_refl _) rfl⟩
    | some n =>
      rw [oside_some] at hos
      simp (maxSteps := 1000000) -dsimp -implicitDefEqProofs only [go_sem, ↓reduceIte, keep296, ib296, mk296, Tryz.f296, oval_some, oheap_some, Nat.lt_irrefl, Int.lt_irrefl]
      exact fun _ => ⟨Nat.zero_lt_one, Nat.zero_lt_one, Nat.zero_lt_one, Nat.le_refl _, by omega, by omega, fun m hm => shift_intss (env ++ [s]) hm.2 (by rw [← grow_row]; exact le_app hos) (by rw [List.length_append]; rfl)⟩
open Go.Proofs
set_option linter.unusedVariables false
set_option linter.unusedSimpArgs false
def rBox (p : DProgram) (sz st : Nat) (c : Int) : HObj := .row 4 [[.v (.ip 1 [p.c] 0 0), .v (I sz), .v (I st), .v (I c)]]
def RnQ (h : Heap) (nb : Nat) (p : DProgram) (sz st : Nat) (c : Int) (X : Out (List Int)) : HVal → Heap → Prop := fun r h' => ∃ s t c', r = ints s ∧ h' = upd h nb (rBox p sz t c') ∧ serOK sz s ∧ st ≤ t ∧ t ≤ 3000 ∧ outR (runE c X) s t c'
def RnQL (h : Heap) (nb : Nat) (p : DProgram) (sz st : Nat) (c : Int) (n : Nat) (X : Out (List (List Int))) : HVal → Heap → Prop := fun r h' => ∃ l t c', r = intss l ∧ h' = upd h nb (rBox p sz t c') ∧ l.length = n ∧ (∀ s ∈ l, serOK sz s) ∧ st ≤ t ∧ t ≤ 3000 ∧ outR (runE c X) l t c'
def keep295 : List Nat := [0, 1, 4, 9]
def ib295 : List Nat := []
def mk295 : Marks := fun _ => ([], .nil, [])
theorem failS (h : Heap) (nb : Nat) (p : DProgram) (sz st : Nat) (c d : Int) (hb : h nb = some (rBox p sz st c)) (hsz : sz ≤ 1048576) : HFn Tryz.prog 295 [.op nb 4 0 0, I d] h fun r h' => r = ints (constL 0 sz) ∧ h' = upd h nb (rBox p sz st (if c = 0 then d else c)) := by
  have hb' := hb
  unfold rBox at hb'
  refine fnHF 19 keep295 ib295 mk295 mix Tryz.func295 rfl (by kernel_rfl) (by simp) ?_
  simp (maxSteps := 1000000) -dsimp -implicitDefEqProofs only [go_sem, ↓reduceIte, keep295, ib295, mk295, Tryz.f295, hb']
  refine ⟨fun hc => ?_, fun hc => ?_⟩
  · try simp (maxSteps := 1000000) -dsimp -implicitDefEqProofs only [go_sem, ↓reduceIte, keep295, ib295, mk295, Tryz.f295]
    first | refine HFnF.mk (l01Const 0 sz hsz) ?_ | refine CallSF.mk (l01Const 0 sz hsz) ?_ | refine HFnF.mkAt (l01Const 0 sz hsz) ?_ | refine CallSF.mk (FnAt.fn0 (l01Const 0 sz hsz)) ?_
    simp (maxSteps := 1000000) -dsimp -implicitDefEqProofs only [go_sem, ↓reduceIte, keep295, ib295, mk295, Tryz.f295]
    exact ⟨_, by rw [if_pos hc]; exact Heap.le_refl _, rfl⟩
  · try simp (maxSteps := 1000000) -dsimp -implicitDefEqProofs only [go_sem, ↓reduceIte, keep295, ib295, mk295, Tryz.f295, hb']
    first | refine HFnF.mk (l01Const 0 sz hsz) ?_ | refine CallSF.mk (l01Const 0 sz hsz) ?_ | refine HFnF.mkAt (l01Const 0 sz hsz) ?_ | refine CallSF.mk (FnAt.fn0 (l01Const 0 sz hsz)) ?_
    simp (maxSteps := 1000000) -dsimp -implicitDefEqProofs only [go_sem, ↓reduceIte, keep295, ib295, mk295, Tryz.f295]
    refine ⟨_, ?_, rfl⟩
    rw [if_neg hc, upd_self hb]
    exact Heap.le_refl _
def keep265 : List Nat := [0, 1, 2, 6, 7, 8, 9, 14, 25, 38, 39, 50, 59, 70, 82, 99, 119, 142, 151, 160, 169]
def ib265 : List Nat := []
def mk265 : Marks := fun id => match id with | 8 => ([7, 8], (.op 0 (.op 1 (.op 2 (.op 3 (.op 4 (.op 5 (.op 6 (.op 7 (.op 8 (.op 9 .nil)))))))))), []) | 19 => ([8, 9], (.op 0 (.op 1 (.op 2 (.op 3 (.op 4 (.op 5 (.op 6 (.op 7 (.op 8 (.op 9 (.op 10 .nil))))))))))), []) | _ => ([], .nil, [])
def RunAt (p : DProgram) (sz n : Nat) : Prop := ∀ (h : Heap) (nb st : Nat) (c : Int) (e : DExpr) (env : List (List Int)) (funcs : Int), h nb = some (rBox p sz st c) → st ≤ 3000 → 3001 ≤ n + st → e.ok p funcs env.length → 0 ≤ funcs → funcs ≤ p.fFuncs.length → (∀ s ∈ env, serOK sz s) → env.length ≤ 412 + st →
  HFn Tryz.prog 265 [.op nb 4 0 0, .ip 5 [e.c] 0 0, intss env] h (RnQ h nb p sz st c (evE p sz n st e env))
theorem ip_kid {l : List DExpr} {k : Nat} {x : DExpr} (h : l[k]? = some x) (i : Nat) (hi : i = k) : Sub (.ip 5 (l.map DExpr.c) i 0) (.ip 5 [x.c] 0 0) := by
  subst hi
  exact Sub.ip (by rw [List.getElem?_map, h]; rfl) (by simp)
theorem RunAt.at {p : DProgram} {sz n : Nat} (hv : RunAt p sz n) {l : List DExpr} {i : Nat} {e : DExpr} (hi : l[i]? = some e) (h : Heap) (nb st : Nat) (c : Int) (env : List (List Int)) (funcs : Int) (hb : h nb = some (rBox p sz st c)) (hst : st ≤ 3000) (hn : 3001 ≤ n + st) (hok : e.ok p funcs env.length) (hf0 : 0 ≤ funcs) (hf : funcs ≤ p.fFuncs.length) (henv : ∀ s ∈ env, serOK sz s) (hel : env.length ≤ 412 + st) :
    HFn Tryz.prog 265 [.op nb 4 0 0, .ip 5 (l.map DExpr.c) i 0, intss env] h (RnQ h nb p sz st c (evE p sz n st e env)) :=
  HFn.sub (.cons (.refl _) (.cons (ip_kid hi _ rfl) (.cons (.refl _) .nil))) (hv h nb st c e env funcs hb hst hn hok hf0 hf henv hel)
def keep213 : List Nat := [0, 1, 2, 6, 7, 8, 16]
def ib213 : List Nat := [9, 29]
def mk213 : Marks := fun _ => ([], .nil, [])
set_option maxRecDepth 100000 in
theorem outs_of {p : DProgram} {sz n : Nat} (hv : RunAt p sz n) (h : Heap) (nb st : Nat) (c : Int) (f : DFunc) (env : List (List Int)) (funcs : Int) (hb : h nb = some (rBox p sz st c)) (hst : st ≤ 3000) (hn : 3001 ≤ n + st)
    (hl : f.fOuts.length ≤ 1048576) (hok : ∀ e ∈ f.fOuts, e.ok p funcs env.length) (hf0 : 0 ≤ funcs) (hf : funcs ≤ p.fFuncs.length) (henv : ∀ s ∈ env, serOK sz s) (hel : env.length ≤ 412 + st) :
    HFn Tryz.prog 213 [.op nb 4 0 0, .ip 3 [f.c] 0 0, intss env] h (RnQL h nb p sz st c f.fOuts.length (seqE (fun t e => evE p sz n t e env) f.fOuts st)) := by
  rw [DFunc.c_eq]
  refine fnKF 32 keep213 ib213 mk213 mix Tryz.func213 rfl (by kernel_rfl) (by simp) ?_
  simp (maxSteps := 1000000) -dsimp -implicitDefEqProofs only [go_sem, ↓reduceIte, keep213, ib213, mk213, Tryz.f213]
  refine ⟨Nat.zero_lt_one, ?_⟩
  refine loopF (keep := keep213) (ib := ib213) (mk := mk213) mix (by kernel_rfl) (fun x : Nat × List (List Int) × Nat × Int × Option Nat => [(0, .op nb 4 0 0), (1, .ip 3 [[.str f.fName, I f.fParams, sls 5 DExpr.c f.fOuts]] 0 0), (2, intss env), (7, oval 1 x.2.1.length x.2.2.2.2), (8, I x.1)]) (fun x => oheap (upd h nb (rBox p sz x.2.2.1 x.2.2.2.1)) (.row 1 ((x.2.1.map fun s => [ints s]).map (List.map .v))) x.2.2.2.2) (fun x => x.1 ≤ f.fOuts.length ∧ x.2.1.length = x.1 ∧ (∀ s ∈ x.2.1, serOK sz s) ∧ st ≤ x.2.2.1 ∧ x.2.2.1 ≤ 3000 ∧ outR (runE c (seqE (fun t e => evE p sz n t e env) (f.fOuts.take x.1) st)) x.2.1 x.2.2.1 x.2.2.2.1 ∧ oside h x.2.1 x.2.2.2.2) (fun x => f.fOuts.length - x.1) (0, [], st, c, none) ⟨by simp [SatL, tget, oval], by simp only [oheap_none]; rw [upd_self hb]; exact Heap.le_refl _, Nat.zero_le _, rfl, by simp, Nat.le_refl _, hst, outR_init _ _ _, rfl⟩ ?_
  rintro ⟨k, vs, t, c', o⟩ ⟨hk, hvl, hvs, ht0, ht, ho, hos⟩
  simp only at hk hvl hvs ht0 ht ho hos ⊢
  rcases Nat.lt_or_ge k f.fOuts.length with hlt | hge
  · have ek : f.fOuts[k]? = some f.fOuts[k] := List.getElem?_eq_getElem hlt
    have hnext : ∀ (s : List Int) (t2 : Nat) (c2 : Int), outR (runE c' (evE p sz n t f.fOuts[k] env)) s t2 c2 → outR (runE c (seqE (fun t e => evE p sz n t e env) (f.fOuts.take (k + 1)) st)) (vs ++ [s]) t2 c2 := fun s t2 c2 h3 => by
      rw [List.take_succ_eq_append_getElem hlt, seqE_snoc]
      exact ho.thenC (h3.thenC (outR_init _ _ _))
    have hall : ∀ s, serOK sz s → ∀ x ∈ vs ++ [s], serOK sz x := fun s hs => serOK_snoc hvs hs
    cases o with
    | none =>
      rw [oside_none] at hos
      subst hos
      simp (maxSteps := 1000000) -dsimp -implicitDefEqProofs only [go_sem, ↓reduceIte, keep213, ib213, mk213, Tryz.f213, oval_none, oheap_none, hlt, ek]
      intro _
      refine HFnF.mkH (hv.at ek (upd h nb (rBox p sz t c')) nb t c' env funcs (upd_same _ _ _) ht (by omega) (hok _ (List.getElem_mem _)) hf0 hf henv (by omega)) ?_
      rintro r h' ⟨s, t2, c2, rfl, rfl, hs, h1, h2, h3⟩
      simp (maxSteps := 1000000) -dsimp -implicitDefEqProofs only [go_sem, ↓reduceIte, keep213, ib213, mk213, Tryz.f213]
      refine ⟨Nat.zero_lt_one, Nat.zero_lt_one, Nat.zero_lt_one, ?_⟩
      intro b q_b
      have d_b_nb : ¬ b = nb := by first | exact q_b.1 | exact q_b | exact q_b.2.1 | exact q_b.2 | exact q_b.2.2.1 | exact q_b.2.2 | exact q_b.2.2.2.1 | exact q_b.2.2.2 | exact q_b.2.2.2.2.1 | exact q_b.2.2.2.2 | exact q_b.2.2.2.2.2.1 | exact q_b.2.2.2.2.2 | exact q_b.2.2.2.2.2.2.1 | exact q_b.2.2.2.2.2.2 | exact q_b.2.2.2.2.2.2.2.1 | exact q_b.2.2.2.2.2.2.2 | exact q_b.2.2.2.2.2.2.2.2.1 | exact q_b.2.2.2.2.2.2.2.2 | exact q_b.2.2.2.2.2.2.2.2.2.1 | exact q_b.2.2.2.2.2.2.2.2.2 | exact q_b.2.2.2.2.2.2.2.2.2.2.1 | exact q_b.2.2.2.2.2.2.2.2.2.2 | exact q_b.2.2.2.2.2.2.2.2.2.2.2.1 | exact q_b.2.2.2.2.2.2.2.2.2.2.2 | exact q_b.2.2.2.2.2.2.2.2.2.2.2.2.1 | exact q_b.2.2.2.2.2.2.2.2.2.2.2.2 | exact q_b.2.2.2.2.2.2.2.2.2.2.2.2.2.1 | exact q_b.2.2.2.2.2.2.2.2.2.2.2.2.2
      have e_b_nb : (b = nb) = False := eq_false d_b_nb
      have e_nb_b : (nb = b) = False := eq_false (Ne.symm d_b_nb)
      have d_nb_b : ¬ nb = b := Ne.symm d_b_nb
      have z_b : h b = none := by first | exact q_b.1 | exact q_b | exact q_b.2.1 | exact q_b.2 | exact q_b.2.2.1 | exact q_b.2.2 | exact q_b.2.2.2.1 | exact q_b.2.2.2 | exact q_b.2.2.2.2.1 | exact q_b.2.2.2.2 | exact q_b.2.2.2.2.2.1 | exact q_b.2.2.2.2.2 | exact q_b.2.2.2.2.2.2.1 | exact q_b.2.2.2.2.2.2 | exact q_b.2.2.2.2.2.2.2.1 | exact q_b.2.2.2.2.2.2.2 | exact q_b.2.2.2.2.2.2.2.2.1 | exact q_b.2.2.2.2.2.2.2.2 | exact q_b.2.2.2.2.2.2.2.2.2.1 | exact q_b.2.2.2.2.2.2.2.2.2 | exact q_b.2.2.2.2.2.2.2.2.2.2.1 | exact q_b.2.2.2.2.2.2.2.2.2.2 | exact q_b.2.2.2.2.2.2.2.2.2.2.2.1 | exact q_b.2.2.2.2.2.2.2.2.2.2.2 | exact q_b.2.2.2.2.2.2.2.2.2.2.2.2.1 | exact q_b.2.2.2.2.2.2.2.2.2.2.2.2 | exact q_b.2.2.2.2.2.2.2.2.2.2.2.2.2.1 | exact q_b.2.2.2.2.2.2.2.2.2.2.2.2.2
      refine ⟨(k + 1, [s], t2, c2, some b), ⟨rfl, by rw [IntWalk.i64_in _ (by omega)]; rfl⟩, (leX_nil (by repeat' (first | exact leX_refl _ _ | refine leX_put (by simp only [upd_apply, ↓reduceIte, eq_self, if_true, e_nb_b, e_b_nb, List.map_cons, List.map_nil]) ?_ | refine leX_strip (by first | exact .inr (by assumption) | exact .inl (by simp)) ?_))), ⟨by omega, by simp only [List.length_nil] at hvl; subst hvl; rfl, fun x hx => hall s hs x hx, Nat.le_trans ht0 h1, h2, hnext s t2 c2 h3, z_b⟩, by simp only; omega⟩
    | some m =>
      rw [oside_some] at hos
      have d_m_nb : ¬ m = nb := fun e => by rw [e, hb] at hos; cases hos
      have d_nb_m : ¬ nb = m := Ne.symm d_m_nb
      have e_m_nb : (m = nb) = False := eq_false d_m_nb
      have e_nb_m : (nb = m) = False := eq_false d_nb_m
      simp (maxSteps := 1000000) -dsimp -implicitDefEqProofs only [go_sem, ↓reduceIte, keep213, ib213, mk213, Tryz.f213, oval_some, oheap_some, hlt, ek]
      intro _
      refine HFnF.mkH (hv.at ek (upd (upd h nb (rBox p sz t c')) m (.row 1 ((vs.map fun s => [ints s]).map (List.map .v)))) nb t c' env funcs (by rw [upd_ne _ _ _ _ d_nb_m, upd_same]) ht (by omega) (hok _ (List.getElem_mem _)) hf0 hf henv (by omega)) ?_
      rintro r h' ⟨s, t2, c2, rfl, rfl, hs, h1, h2, h3⟩
      simp (maxSteps := 1000000) -dsimp -implicitDefEqProofs only [go_sem, ↓reduceIte, keep213, ib213, mk213, Tryz.f213, upd_ne, e_m_nb, e_nb_m]
      refine ⟨Nat.zero_lt_one, Nat.zero_lt_one, Nat.zero_lt_one, Nat.le_refl _, by omega, by omega, ?_⟩
      intro b q_b
      have d_b_nb : ¬ b = nb := by first | exact q_b.1 | exact q_b | exact q_b.2.1 | exact q_b.2 | exact q_b.2.2.1 | exact q_b.2.2 | exact q_b.2.2.2.1 | exact q_b.2.2.2 | exact q_b.2.2.2.2.1 | exact q_b.2.2.2.2 | exact q_b.2.2.2.2.2.1 | exact q_b.2.2.2.2.2 | exact q_b.2.2.2.2.2.2.1 | exact q_b.2.2.2.2.2.2 | exact q_b.2.2.2.2.2.2.2.1 | exact q_b.2.2.2.2.2.2.2 | exact q_b.2.2.2.2.2.2.2.2.1 | exact q_b.2.2.2.2.2.2.2.2 | exact q_b.2.2.2.2.2.2.2.2.2.1 | exact q_b.2.2.2.2.2.2.2.2.2 | exact q_b.2.2.2.2.2.2.2.2.2.2.1 | exact q_b.2.2.2.2.2.2.2.2.2.2 | exact q_b.2.2.2.2.2.2.2.2.2.2.2.1 | exact q_b.2.2.2.2.2.2.2.2.2.2.2 | exact q_b.2.2.2.2.2.2.2.2.2.2.2.2.1 | exact q_b.2.2.2.2.2.2.2.2.2.2.2.2 | exact q_b.2.2.2.2.2.2.2.2.2.2.2.2.2.1 | exact q_b.2.2.2.2.2.2.2.2.2.2.2.2.2
      have e_b_nb : (b = nb) = False := eq_false d_b_nb
      have e_nb_b : (nb = b) = False := eq_false (Ne.symm d_b_nb)
      have d_nb_b : ¬ nb = b := Ne.symm d_b_nb
      have d_b_m : ¬ b = m := by first | exact q_b.1 | exact q_b | exact q_b.2.1 | exact q_b.2 | exact q_b.2.2.1 | exact q_b.2.2 | exact q_b.2.2.2.1 | exact q_b.2.2.2 | exact q_b.2.2.2.2.1 | exact q_b.2.2.2.2 | exact q_b.2.2.2.2.2.1 | exact q_b.2.2.2.2.2 | exact q_b.2.2.2.2.2.2.1 | exact q_b.2.2.2.2.2.2 | exact q_b.2.2.2.2.2.2.2.1 | exact q_b.2.2.2.2.2.2.2 | exact q_b.2.2.2.2.2.2.2.2.1 | exact q_b.2.2.2.2.2.2.2.2 | exact q_b.2.2.2.2.2.2.2.2.2.1 | exact q_b.2.2.2.2.2.2.2.2.2 | exact q_b.2.2.2.2.2.2.2.2.2.2.1 | exact q_b.2.2.2.2.2.2.2.2.2.2 | exact q_b.2.2.2.2.2.2.2.2.2.2.2.1 | exact q_b.2.2.2.2.2.2.2.2.2.2.2 | exact q_b.2.2.2.2.2.2.2.2.2.2.2.2.1 | exact q_b.2.2.2.2.2.2.2.2.2.2.2.2 | exact q_b.2.2.2.2.2.2.2.2.2.2.2.2.2.1 | exact q_b.2.2.2.2.2.2.2.2.2.2.2.2.2
      have e_b_m : (b = m) = False := eq_false d_b_m
      have e_m_b : (m = b) = False := eq_false (Ne.symm d_b_m)
      have d_m_b : ¬ m = b := Ne.symm d_b_m
      have z_b : h b = none := by first | exact q_b.1 | exact q_b | exact q_b.2.1 | exact q_b.2 | exact q_b.2.2.1 | exact q_b.2.2 | exact q_b.2.2.2.1 | exact q_b.2.2.2 | exact q_b.2.2.2.2.1 | exact q_b.2.2.2.2 | exact q_b.2.2.2.2.2.1 | exact q_b.2.2.2.2.2 | exact q_b.2.2.2.2.2.2.1 | exact q_b.2.2.2.2.2.2 | exact q_b.2.2.2.2.2.2.2.1 | exact q_b.2.2.2.2.2.2.2 | exact q_b.2.2.2.2.2.2.2.2.1 | exact q_b.2.2.2.2.2.2.2.2 | exact q_b.2.2.2.2.2.2.2.2.2.1 | exact q_b.2.2.2.2.2.2.2.2.2 | exact q_b.2.2.2.2.2.2.2.2.2.2.1 | exact q_b.2.2.2.2.2.2.2.2.2.2 | exact q_b.2.2.2.2.2.2.2.2.2.2.2.1 | exact q_b.2.2.2.2.2.2.2.2.2.2.2 | exact q_b.2.2.2.2.2.2.2.2.2.2.2.2.1 | exact q_b.2.2.2.2.2.2.2.2.2.2.2.2 | exact q_b.2.2.2.2.2.2.2.2.2.2.2.2.2.1 | exact q_b.2.2.2.2.2.2.2.2.2.2.2.2.2
      refine ⟨(k + 1, vs ++ [s], t2, c2, some b), ⟨by rw [oval_some, List.length_append]; rfl, by rw [IntWalk.i64_in _ (by omega)]; rfl⟩, ?_, ⟨by omega, by rw [List.length_append, hvl]; rfl, hall s hs, Nat.le_trans ht0 h1, h2, hnext s t2 c2 h3, z_b⟩, by simp only; omega⟩
      simp only [oheap_some]
      rw [← grow_row ints]
      exact (leX_nil (by repeat' (first | exact leX_refl _ _ | refine leX_put (by simp only [upd_apply, ↓reduceIte, eq_self, if_true, e_nb_b, e_nb_m, e_b_nb, e_b_m, e_m_nb, e_m_b]) ?_ | refine leX_strip (by first | exact .inr (by assumption) | exact .inl (by simp)) ?_)))
  · have hk' : k = f.fOuts.length := by omega
    subst hk'
    rw [List.take_length] at ho
    cases o with
    | none =>
      rw [oside_none] at hos
      subst hos
      simp (maxSteps := 1000000) -dsimp -implicitDefEqProofs only [go_sem, ↓reduceIte, keep213, ib213, mk213, Tryz.f213, oval_none, oheap_none, Nat.lt_irrefl, Int.lt_irrefl]
      intro _
      exact ⟨intss [], _, Shift.of (Sub.loose _ _ _) (Heap.le_refl _), [], t, c', rfl, rfl, hvl, hvs, ht0, ht, ho⟩
    | some m =>
      rw [oside_some] at hos
      simp (maxSteps := 1000000) -dsimp -implicitDefEqProofs only [go_sem, ↓reduceIte, keep213, ib213, mk213, Tryz.f213, oval_some, oheap_some, Nat.lt_irrefl, Int.lt_irrefl]
      intro _
      have hmn : ¬ m = nb := fun e => by rw [e, hb] at hos; cases hos
      exact ⟨intss vs, _, shift_row (vs.map fun s => [ints s]) (h := upd h nb (rBox p sz t c')) (by rw [upd_ne _ _ _ _ hmn, hos]) (Heap.le_refl _) _ (by rw [List.length_map]), vs, t, c', rfl, rfl, hvl, hvs, ht0, ht, ho⟩
open Go.Proofs
set_option linter.unusedVariables false
set_option linter.unusedSimpArgs false
def keep297 : List Nat := [0, 1, 2, 6, 7, 8, 9, 10, 18, 49, 67]
def ib297 : List Nat := [11, 31]
def mk297 : Marks := fun id => match id with | 6 => ([3], (.op 0 (.op 1 (.op 2 (.op 7 (.op 8 (.op 9 (.op 10 (.op 3 (.op 4 (.op 5 (.op 6 (.op 11 (.op 12 .nil))))))))))))), []) | 8 => ([11], (.op 0 (.op 1 (.op 2 (.op 3 (.op 4 (.op 5 (.op 6 (.op 7 (.op 8 (.op 9 (.op 10 (.op 11 (.op 12 .nil))))))))))))), []) | _ => ([], .nil, [])
set_option maxRecDepth 100000 in
theorem call_10 {p : DProgram} (hp : p.ok) {sz n : Nat} (hv : RunAt p sz n) (h : Heap) (nb st : Nat) (e : DExpr) (env : List (List Int)) (funcs : Int) (hb : h nb = some (rBox p sz st 0)) (hst : st ≤ 3000) (hn : 3001 ≤ n + st) (hok : e.ok p funcs env.length) (hf0 : 0 ≤ funcs) (hf : funcs ≤ p.fFuncs.length) (henv : ∀ s ∈ env, serOK sz s) (hel : env.length ≤ 412 + st) (hk : e.fKind = 10) :
    HFn Tryz.prog 297 [.op nb 4 0 0, .ip 5 [e.c] 0 0, intss env] h (RnQ h nb p sz st 0 ((seqE (fun t e => evE p sz n t e env) e.fKids st).andThen fun vs t => evE p sz n t (p.out e.fNum e.fPick) vs)) := by
  obtain ⟨f, F⟩ := callsOf hp hok hf (.inl hk)
  have f1 := F.lo
  have f2 := F.hi
  have f3 := F.pk
  have f4 := F.pk2
  have f5 := F.kids
  have f6 := F.params
  have f8 := F.outs
  have f9 := F.loop
  have hkok := kids_ok hok (by omega)
  rw [DExpr.c_eq]
  refine fnKF 81 keep297 ib297 mk297 mix Tryz.func297 rfl (by kernel_rfl) (by simp) ?_
  simp (maxSteps := 1000000) -dsimp -implicitDefEqProofs only [go_sem, ↓reduceIte, keep297, ib297, mk297, Tryz.f297]
  refine ⟨Nat.zero_lt_one, ?_⟩
  refine loopF (keep := keep297) (ib := ib297) (mk := mk297) mix (by kernel_rfl) (fun x : Nat × List (List Int) × Nat × Int × Option Nat => [(0, .op nb 4 0 0), (1, .ip 5 [[I e.fKind, I e.fNum, I e.fPick, I e.fCount, sls 5 DExpr.c e.fKids]] 0 0), (2, intss env), (7, oval 1 x.2.1.length x.2.2.2.2), (8, I x.1)]) (fun x => oheap (upd h nb (rBox p sz x.2.2.1 x.2.2.2.1)) (.row 1 ((x.2.1.map fun s => [ints s]).map (List.map .v))) x.2.2.2.2) (fun x => x.1 ≤ e.fKids.length ∧ x.2.1.length = x.1 ∧ (∀ s ∈ x.2.1, serOK sz s) ∧ st ≤ x.2.2.1 ∧ x.2.2.1 ≤ 3000 ∧ outR (runE 0 (seqE (fun t e => evE p sz n t e env) (e.fKids.take x.1) st)) x.2.1 x.2.2.1 x.2.2.2.1 ∧ oside h x.2.1 x.2.2.2.2) (fun x => e.fKids.length - x.1) (0, [], st, 0, none) ⟨by simp [SatL, tget, oval], by simp only [oheap_none]; rw [upd_self hb]; exact Heap.le_refl _, Nat.zero_le _, rfl, by simp, Nat.le_refl _, hst, outR_init _ _ _, rfl⟩ ?_
  rintro ⟨k, vs, t, c', o⟩ ⟨hk2, hvl, hvs, ht0, ht, ho, hos⟩
  simp only at hk2 hvl hvs ht0 ht ho hos ⊢
  rcases Nat.lt_or_ge k e.fKids.length with hlt | hge
  · have ek : e.fKids[k]? = some e.fKids[k] := List.getElem?_eq_getElem hlt
    have hnext : ∀ (s : List Int) (t2 : Nat) (c2 : Int), outR (runE c' (evE p sz n t e.fKids[k] env)) s t2 c2 → outR (runE 0 (seqE (fun t e => evE p sz n t e env) (e.fKids.take (k + 1)) st)) (vs ++ [s]) t2 c2 := fun s t2 c2 h3 => by
      rw [List.take_succ_eq_append_getElem hlt, seqE_snoc]
      exact ho.thenC (h3.thenC (outR_init _ _ _))
    have hall : ∀ s, serOK sz s → ∀ x ∈ vs ++ [s], serOK sz x := fun s hs => serOK_snoc hvs hs
    cases o with
    | none =>
      rw [oside_none] at hos
      subst hos
      simp (maxSteps := 1000000) -dsimp -implicitDefEqProofs only [go_sem, ↓reduceIte, keep297, ib297, mk297, Tryz.f297, oval_none, oheap_none, hlt, ek]
      intro _
      refine HFnF.mkH (hv.at ek (upd h nb (rBox p sz t c')) nb t c' env funcs (upd_same _ _ _) ht (by omega) (hkok _ (List.getElem_mem _)) hf0 hf henv (by omega)) ?_
      rintro r h' ⟨s, t2, c2, rfl, rfl, hs, h1, h2, h3⟩
      simp (maxSteps := 1000000) -dsimp -implicitDefEqProofs only [go_sem, ↓reduceIte, keep297, ib297, mk297, Tryz.f297]
      refine ⟨Nat.zero_lt_one, Nat.zero_lt_one, Nat.zero_lt_one, ?_⟩
      intro b q_b
      have d_b_nb : ¬ b = nb := by first | exact q_b.1 | exact q_b | exact q_b.2.1 | exact q_b.2 | exact q_b.2.2.1 | exact q_b.2.2 | exact q_b.2.2.2.1 | exact q_b.2.2.2 | exact q_b.2.2.2.2.1 | exact q_b.2.2.2.2 | exact q_b.2.2.2.2.2.1 | exact q_b.2.2.2.2.2 | exact q_b.2.2.2.2.2.2.1 | exact q_b.2.2.2.2.2.2 | exact q_b.2.2.2.2.2.2.2.1 | exact q_b.2.2.2.2.2.2.2 | exact q_b.2.2.2.2.2.2.2.2.1 | exact q_b.2.2.2.2.2.2.2.2 | exact q_b.2.2.2.2.2.2.2.2.2.1 | exact q_b.2.2.2.2.2.2.2.2.2 | exact q_b.2.2.2.2.2.2.2.2.2.2.1 | exact q_b.2.2.2.2.2.2.2.2.2.2 | exact q_b.2.2.2.2.2.2.2.2.2.2.2.1 | exact q_b.2.2.2.2.2.2.2.2.2.2.2 | exact q_b.2.2.2.2.2.2.2.2.2.2.2.2.1 | exact q_b.2.2.2.2.2.2.2.2.2.2.2.2 | exact q_b.2.2.2.2.2.2.2.2.2.2.2.2.2.1 | exact q_b.2.2.2.2.2.2.2.2.2.2.2.2.2
      have e_b_nb : (b = nb) = False := eq_false d_b_nb
      have e_nb_b : (nb = b) = False := eq_false (Ne.symm d_b_nb)
      have d_nb_b : ¬ nb = b := Ne.symm d_b_nb
      have z_b : h b = none := by first | exact q_b.1 | exact q_b | exact q_b.2.1 | exact q_b.2 | exact q_b.2.2.1 | exact q_b.2.2 | exact q_b.2.2.2.1 | exact q_b.2.2.2 | exact q_b.2.2.2.2.1 | exact q_b.2.2.2.2 | exact q_b.2.2.2.2.2.1 | exact q_b.2.2.2.2.2 | exact q_b.2.2.2.2.2.2.1 | exact q_b.2.2.2.2.2.2 | exact q_b.2.2.2.2.2.2.2.1 | exact q_b.2.2.2.2.2.2.2 | exact q_b.2.2.2.2.2.2.2.2.1 | exact q_b.2.2.2.2.2.2.2.2 | exact q_b.2.2.2.2.2.2.2.2.2.1 | exact q_b.2.2.2.2.2.2.2.2.2 | exact q_b.2.2.2.2.2.2.2.2.2.2.1 | exact q_b.2.2.2.2.2.2.2.2.2.2 | exact q_b.2.2.2.2.2.2.2.2.2.2.2.1 | exact q_b.2.2.2.2.2.2.2.2.2.2.2 | exact q_b.2.2.2.2.2.2.2.2.2.2.2.2.1 | exact q_b.2.2.2.2.2.2.2.2.2.2.2.2 | exact q_b.2.2.2.2.2.2.2.2.2.2.2.2.2.1 | exact q_b.2.2.2.2.2.2.2.2.2.2.2.2.2
      refine ⟨(k + 1, [s], t2, c2, some b), ⟨rfl, by rw [IntWalk.i64_in _ (by omega)]; rfl⟩, (leX_nil (by repeat' (first | exact leX_refl _ _ | refine leX_put (by simp only [upd_apply, ↓reduceIte, eq_self, if_true, e_nb_b, e_b_nb, List.map_cons, List.map_nil]) ?_ | refine leX_strip (by first | exact .inr (by assumption) | exact .inl (by simp)) ?_))), ⟨by omega, by simp only [List.length_nil] at hvl; subst hvl; rfl, fun x hx => hall s hs x hx, Nat.le_trans ht0 h1, h2, hnext s t2 c2 h3, z_b⟩, by simp only; omega⟩
    | some m =>
      rw [oside_some] at hos
      have d_m_nb : ¬ m = nb := fun e => by rw [e, hb] at hos; cases hos
      have d_nb_m : ¬ nb = m := Ne.symm d_m_nb
      have e_m_nb : (m = nb) = False := eq_false d_m_nb
      have e_nb_m : (nb = m) = False := eq_false d_nb_m
      simp (maxSteps := 1000000) -dsimp -implicitDefEqProofs only [go_sem, ↓reduceIte, keep297, ib297, mk297, Tryz.f297, oval_some, oheap_some, hlt, ek]
      intro _
      refine HFnF.mkH (hv.at ek (upd (upd h nb (rBox p sz t c')) m (.row 1 ((vs.map fun s => [ints s]).map (List.map .v)))) nb t c' env funcs (by rw [upd_ne _ _ _ _ d_nb_m, upd_same]) ht (by omega) (hkok _ (List.getElem_mem _)) hf0 hf henv (by omega)) ?_
      rintro r h' ⟨s, t2, c2, rfl, rfl, hs, h1, h2, h3⟩
      simp (maxSteps := 1000000) -dsimp -implicitDefEqProofs only [go_sem, ↓reduceIte, keep297, ib297, mk297, Tryz.f297, upd_ne, e_m_nb, e_nb_m]
      refine ⟨Nat.zero_lt_one, Nat.zero_lt_one, Nat.zero_lt_one, Nat.le_refl _, by omega, by omega, ?_⟩
      intro b q_b
      have d_b_nb : ¬ b = nb := by first | exact q_b.1 | exact q_b | exact q_b.2.1 | exact q_b.2 | exact q_b.2.2.1 | exact q_b.2.2 | exact q_b.2.2.2.1 | exact q_b.2.2.2 | exact q_b.2.2.2.2.1 | exact q_b.2.2.2.2 | exact q_b.2.2.2.2.2.1 | exact q_b.2.2.2.2.2 | exact q_b.2.2.2.2.2.2.1 | exact q_b.2.2.2.2.2.2 | exact q_b.2.2.2.2.2.2.2.1 | exact q_b.2.2.2.2.2.2.2 | exact q_b.2.2.2.2.2.2.2.2.1 | exact q_b.2.2.2.2.2.2.2.2 | exact q_b.2.2.2.2.2.2.2.2.2.1 | exact q_b.2.2.2.2.2.2.2.2.2 | exact q_b.2.2.2.2.2.2.2.2.2.2.1 | exact q_b.2.2.2.2.2.2.2.2.2.2 | exact q_b.2.2.2.2.2.2.2.2.2.2.2.1 | exact q_b.2.2.2.2.2.2.2.2.2.2.2 | exact q_b.2.2.2.2.2.2.2.2.2.2.2.2.1 | exact q_b.2.2.2.2.2.2.2.2.2.2.2.2 | exact q_b.2.2.2.2.2.2.2.2.2.2.2.2.2.1 | exact q_b.2.2.2.2.2.2.2.2.2.2.2.2.2
      have e_b_nb : (b = nb) = False := eq_false d_b_nb
      have e_nb_b : (nb = b) = False := eq_false (Ne.symm d_b_nb)
      have d_nb_b : ¬ nb = b := Ne.symm d_b_nb
      have d_b_m : ¬ b = m := by first | exact q_b.1 | exact q_b | exact q_b.2.1 | exact q_b.2 | exact q_b.2.2.1 | exact q_b.2.2 | exact q_b.2.2.2.1 | exact q_b.2.2.2 | exact q_b.2.2.2.2.1 | exact q_b.2.2.2.2 | exact q_b.2.2.2.2.2.1 | exact q_b.2.2.2.2.2 | exact q_b.2.2.2.2.2.2.1 | exact q_b.2.2.2.2.2.2 | exact q_b.2.2.2.2.2.2.2.1 | exact q_b.2.2.2.2.2.2.2 | exact q_b.2.2.2.2.2.2.2.2.1 | exact q_b.2.2.2.2.2.2.2.2 | exact q_b.2.2.2.2.2.2.2.2.2.1 | exact q_b.2.2.2.2.2.2.2.2.2 | exact q_b.2.2.2.2.2.2.2.2.2.2.1 | exact q_b.2.2.2.2.2.2.2.2.2.2 | exact q_b.2.2.2.2.2.2.2.2.2.2.2.1 | exact q_b.2.2.2.2.2.2.2.2.2.2.2 | exact q_b.2.2.2.2.2.2.2.2.2.2.2.2.1 | exact q_b.2.2.2.2.2.2.2.2.2.2.2.2 | exact q_b.2.2.2.2.2.2.2.2.2.2.2.2.2.1 | exact q_b.2.2.2.2.2.2.2.2.2.2.2.2.2
      have e_b_m : (b = m) = False := eq_false d_b_m
      have e_m_b : (m = b) = False := eq_false (Ne.symm d_b_m)
      have d_m_b : ¬ m = b := Ne.symm d_b_m
      have z_b : h b = none := by first | exact q_b.1 | exact q_b | exact q_b.2.1 | exact q_b.2 | exact q_b.2.2.1 | exact q_b.2.2 | exact q_b.2.2.2.1 | exact q_b.2.2.2 | exact q_b.2.2.2.2.1 | exact q_b.2.2.2.2 | exact q_b.2.2.2.2.2.1 | exact q_b.2.2.2.2.2 | exact q_b.2.2.2.2.2.2.1 | exact q_b.2.2.2.2.2.2 | exact q_b.2.2.2.2.2.2.2.1 | exact q_b.2.2.2.2.2.2.2 | exact q_b.2.2.2.2.2.2.2.2.1 | exact q_b.2.2.2.2.2.2.2.2 | exact q_b.2.2.2.2.2.2.2.2.2.1 | exact q_b.2.2.2.2.2.2.2.2.2 | exact q_b.2.2.2.2.2.2.2.2.2.2.1 | exact q_b.2.2.2.2.2.2.2.2.2.2 | exact q_b.2.2.2.2.2.2.2.2.2.2.2.1 | exact q_b.2.2.2.2.2.2.2.2.2.2.2 | exact q_b.2.2.2.2.2.2.2.2.2.2.2.2.1 | exact q_b.2.2.2.2.2.2.2.2.2.2.2.2 | exact q_b.2.2.2.2.2.2.2.2.2.2.2.2.2.1 | exact q_b.2.2.2.2.2.2.2.2.2.2.2.2.2
      refine ⟨(k + 1, vs ++ [s], t2, c2, some b), ⟨by rw [oval_some, List.length_append]; rfl, by rw [IntWalk.i64_in _ (by omega)]; rfl⟩, ?_, ⟨by omega, by rw [List.length_append, hvl]; rfl, hall s hs, Nat.le_trans ht0 h1, h2, hnext s t2 c2 h3, z_b⟩, by simp only; omega⟩
      simp only [oheap_some]
      rw [← grow_row ints]
      exact (leX_nil (by repeat' (first | exact leX_refl _ _ | refine leX_put (by simp only [upd_apply, ↓reduceIte, eq_self, if_true, e_nb_b, e_nb_m, e_b_nb, e_b_m, e_m_nb, e_m_b]) ?_ | refine leX_strip (by first | exact .inr (by assumption) | exact .inl (by simp)) ?_)))
  have hk' : k = e.fKids.length := by omega
  subst hk'
  rw [List.take_length] at ho
  have gp : vs[e.fPick.toNat]? = some (vs.getD e.fPick.toNat []) ∨ e.fKind = 10 := by
    by_cases h10 : e.fKind = 10
    · exact .inr h10
    · exact .inl (env_get (by have := f9 (by omega); omega))
  cases o with
  | none =>
    rw [oside_none] at hos
    subst hos
    simp (maxSteps := 1000000) -dsimp -implicitDefEqProofs only [go_sem, ↓reduceIte, keep297, ib297, mk297, Tryz.f297, oval_none, oheap_none, Nat.lt_irrefl, Int.lt_irrefl, rBox, hk, F.get, F.out, DFunc.c_eq, DProgram.c_eq]
    intro _
    refine ⟨f1, f2, f3, by omega, ?_⟩
    refine HFnF.mkH (HFn.sub (.cons (.refl _) (.cons (.refl _) (.cons (Sub.loose _ _ _) .nil))) (hv.at F.out (upd h nb (rBox p sz t c')) nb t c' [] e.fNum (upd_same _ _ _) ht (by omega) (by rw [hvl, f5]; exact F.oks _ (List.mem_of_getElem? F.out)) f1 (by omega) (by simp) (by simp))) ?_
    rintro r h' ⟨s, t2, c2, rfl, rfl, hs, b1, b2, b3⟩
    simp (maxSteps := 1000000) -dsimp -implicitDefEqProofs only [go_sem, ↓reduceIte, keep297, ib297, mk297, Tryz.f297]
    refine ⟨_, upd h nb (rBox p sz t2 c2), shift_le (by rw [upd_upd]; exact Heap.le_refl _), s, t2, c2, rfl, rfl, hs, by omega, b2, ?_⟩
    exact ho.thenC b3
  | some m =>
    rw [oside_some] at hos
    have d_m_nb : ¬ m = nb := fun e => by rw [e, hb] at hos; cases hos
    have d_nb_m : ¬ nb = m := Ne.symm d_m_nb
    have e_m_nb : (m = nb) = False := eq_false d_m_nb
    have e_nb_m : (nb = m) = False := eq_false d_nb_m
    simp (maxSteps := 1000000) -dsimp -implicitDefEqProofs only [go_sem, ↓reduceIte, keep297, ib297, mk297, Tryz.f297, oval_some, oheap_some, Nat.lt_irrefl, Int.lt_irrefl, rBox, upd_ne, e_m_nb, e_nb_m, hk, F.get, F.out, DFunc.c_eq, DProgram.c_eq]
    intro _
    refine ⟨f1, f2, f3, by omega, ?_⟩
    refine HFnF.giveX rfl rfl d_nb_m (by rw [List.length_map]) (by rw [upd_ne _ _ _ _ d_m_nb]; exact hos) ?_
    refine HFn.mono (hv.at F.out (upd (upd h nb (rBox p sz t c')) m .gone) nb t c' vs e.fNum (by rw [upd_ne _ _ _ _ d_nb_m, upd_same]) ht (by omega) (by rw [hvl, f5]; exact F.oks _ (List.mem_of_getElem? F.out)) f1 (by omega) hvs (by omega)) ?_
    rintro r h' ⟨s, t2, c2, rfl, rfl, hs, b1, b2, b3⟩
    simp (maxSteps := 1000000) -dsimp -implicitDefEqProofs only [go_sem, ↓reduceIte, keep297, ib297, mk297, Tryz.f297]
    refine ⟨_, upd h nb (rBox p sz t2 c2), shift_le (leX_nil (by repeat' (first | exact leX_refl _ _ | refine leX_put (by simp only [upd_apply, ↓reduceIte, eq_self, if_true, e_nb_m, e_m_nb]) ?_ | refine leX_strip (by first | exact .inr (by assumption) | exact .inl (by simp)) ?_))), s, t2, c2, rfl, rfl, hs, by omega, b2, ?_⟩
    exact ho.thenC b3
set_option maxRecDepth 100000 in
theorem call_11 {p : DProgram} (hp : p.ok) {sz n : Nat} (hv : RunAt p sz n) (h : Heap) (nb st : Nat) (e : DExpr) (env : List (List Int)) (funcs : Int) (hb : h nb = some (rBox p sz st 0)) (hst : st ≤ 3000) (hn : 3001 ≤ n + st) (hok : e.ok p funcs env.length) (hf0 : 0 ≤ funcs) (hf : funcs ≤ p.fFuncs.length) (henv : ∀ s ∈ env, serOK sz s) (hel : env.length ≤ 412 + st) (hk : e.fKind = 11) :
    HFn Tryz.prog 297 [.op nb 4 0 0, .ip 5 [e.c] 0 0, intss env] h (RnQ h nb p sz st 0 ((seqE (fun t e => evE p sz n t e env) e.fKids st).andThen fun vs t => (iterE (fun vs t => seqE (fun t e => evE p sz n t e vs) (p.outs e.fNum) t) e.fCount.toNat vs t).andThen fun vs t => .ok (vs.getD e.fPick.toNat [], t))) := by
  obtain ⟨f, F⟩ := callsOf hp hok hf (.inr hk)
  have f1 := F.lo
  have f2 := F.hi
  have f3 := F.pk
  have f4 := F.pk2
  have f5 := F.kids
  have f6 := F.params
  have f8 := F.outs
  have f9 := F.loop
  have hkok := kids_ok hok (by omega)
  rw [DExpr.c_eq]
  refine fnKF 81 keep297 ib297 mk297 mix Tryz.func297 rfl (by kernel_rfl) (by simp) ?_
  simp (maxSteps := 1000000) -dsimp -implicitDefEqProofs only [go_sem, ↓reduceIte, keep297, ib297, mk297, Tryz.f297]
  refine ⟨Nat.zero_lt_one, ?_⟩
  refine loopF (keep := keep297) (ib := ib297) (mk := mk297) mix (by kernel_rfl) (fun x : Nat × List (List Int) × Nat × Int × Option Nat => [(0, .op nb 4 0 0), (1, .ip 5 [[I e.fKind, I e.fNum, I e.fPick, I e.fCount, sls 5 DExpr.c e.fKids]] 0 0), (2, intss env), (7, oval 1 x.2.1.length x.2.2.2.2), (8, I x.1)]) (fun x => oheap (upd h nb (rBox p sz x.2.2.1 x.2.2.2.1)) (.row 1 ((x.2.1.map fun s => [ints s]).map (List.map .v))) x.2.2.2.2) (fun x => x.1 ≤ e.fKids.length ∧ x.2.1.length = x.1 ∧ (∀ s ∈ x.2.1, serOK sz s) ∧ st ≤ x.2.2.1 ∧ x.2.2.1 ≤ 3000 ∧ outR (runE 0 (seqE (fun t e => evE p sz n t e env) (e.fKids.take x.1) st)) x.2.1 x.2.2.1 x.2.2.2.1 ∧ oside h x.2.1 x.2.2.2.2) (fun x => e.fKids.length - x.1) (0, [], st, 0, none) ⟨by simp [SatL, tget, oval], by simp only [oheap_none]; rw [upd_self hb]; exact Heap.le_refl _, Nat.zero_le _, rfl, by simp, Nat.le_refl _, hst, outR_init _ _ _, rfl⟩ ?_
  rintro ⟨k, vs, t, c', o⟩ ⟨hk2, hvl, hvs, ht0, ht, ho, hos⟩
  simp only at hk2 hvl hvs ht0 ht ho hos ⊢
  rcases Nat.lt_or_ge k e.fKids.length with hlt | hge
  · have ek : e.fKids[k]? = some e.fKids[k] := List.getElem?_eq_getElem hlt
    have hnext : ∀ (s : List Int) (t2 : Nat) (c2 : Int), outR (runE c' (evE p sz n t e.fKids[k] env)) s t2 c2 → outR (runE 0 (seqE (fun t e => evE p sz n t e env) (e.fKids.take (k + 1)) st)) (vs ++ [s]) t2 c2 := fun s t2 c2 h3 => by
      rw [List.take_succ_eq_append_getElem hlt, seqE_snoc]
      exact ho.thenC (h3.thenC (outR_init _ _ _))
    have hall : ∀ s, serOK sz s → ∀ x ∈ vs ++ [s], serOK sz x := fun s hs => serOK_snoc hvs hs
    cases o with
    | none =>
      rw [oside_none] at hos
      subst hos
      simp (maxSteps := 1000000) -dsimp -implicitDefEqProofs only [go_sem, ↓reduceIte, keep297, ib297, mk297, Tryz.f297, oval_none, oheap_none, hlt, ek]
      intro _
      refine HFnF.mkH (hv.at ek (upd h nb (rBox p sz t c')) nb t c' env funcs (upd_same _ _ _) ht (by omega) (hkok _ (List.getElem_mem _)) hf0 hf henv (by omega)) ?_
      rintro r h' ⟨s, t2, c2, rfl, rfl, hs, h1, h2, h3⟩
      simp (maxSteps := 1000000) -dsimp -implicitDefEqProofs only [go_sem, ↓reduceIte, keep297, ib297, mk297, Tryz.f297]
      refine ⟨Nat.zero_lt_one, Nat.zero_lt_one, Nat.zero_lt_one, ?_⟩
      intro b q_b
      have d_b_nb : ¬ b = nb := by first | exact q_b.1 | exact q_b | exact q_b.2.1 | exact q_b.2 | exact q_b.2.2.1 | exact q_b.2.2 | exact q_b.2.2.2.1 | exact q_b.2.2.2 | exact q_b.2.2.2.2.1 | exact q_b.2.2.2.2 | exact q_b.2.2.2.2.2.1 | exact q_b.2.2.2.2.2 | exact q_b.2.2.2.2.2.2.1 | exact q_b.2.2.2.2.2.2 | exact q_b.2.2.2.2.2.2.2.1 | exact q_b.2.2.2.2.2.2.2 | exact q_b.2.2.2.2.2.2.2.2.1 | exact q_b.2.2.2.2.2.2.2.2 | exact q_b.2.2.2.2.2.2.2.2.2.1 | exact q_b.2.2.2.2.2.2.2.2.2 | exact q_b.2.2.2.2.2.2.2.2.2.2.1 | exact q_b.2.2.2.2.2.2.2.2.2.2 | exact q_b.2.2.2.2.2.2.2.2.2.2.2.1 | exact q_b.2.2.2.2.2.2.2.2.2.2.2 | exact q_b.2.2.2.2.2.2.2.2.2.2.2.2.1 | exact q_b.2.2.2.2.2.2.2.2.2.2.2.2 | exact q_b.2.2.2.2.2.2.2.2.2.2.2.2.2.1 | exact q_b.2.2.2.2.2.2.2.2.2.2.2.2.2
      have e_b_nb : (b = nb) = False := eq_false d_b_nb
      have e_nb_b : (nb = b) = False := eq_false (Ne.symm d_b_nb)
      have d_nb_b : ¬ nb = b := Ne.symm d_b_nb
      have z_b : h b = none := by first | exact q_b.1 | exact q_b | exact q_b.2.1 | exact q_b.2 | exact q_b.2.2.1 | exact q_b.2.2 | exact q_b.2.2.2.1 | exact q_b.2.2.2 | exact q_b.2.2.2.2.1 | exact q_b.2.2.2.2 | exact q_b.2.2.2.2.2.1 | exact q_b.2.2.2.2.2 | exact q_b.2.2.2.2.2.2.1 | exact q_b.2.2.2.2.2.2 | exact q_b.2.2.2.2.2.2.2.1 | exact q_b.2.2.2.2.2.2.2 | exact q_b.2.2.2.2.2.2.2.2.1 | exact q_b.2.2.2.2.2.2.2.2 | exact q_b.2.2.2.2.2.2.2.2.2.1 | exact q_b.2.2.2.2.2.2.2.2.2 | exact q_b.2.2.2.2.2.2.2.2.2.2.1 | exact q_b.2.2.2.2.2.2.2.2.2.2 | exact q_b.2.2.2.2.2.2.2.2.2.2.2.1 | exact q_b.2.2.2.2.2.2.2.2.2.2.2 | exact q_b.2.2.2.2.2.2.2.2.2.2.2.2.1 | exact q_b.2.2.2.2.2.2.2.2.2.2.2.2 | exact q_b.2.2.2.2.2.2.2.2.2.2.2.2.2.1 | exact q_b.2.2.2.2.2.2.2.2.2.2.2.2.2
      refine ⟨(k + 1, [s], t2, c2, some b), ⟨rfl, by rw [IntWalk.i64_in _ (by omega)]; rfl⟩, (leX_nil (by repeat' (first | exact leX_refl _ _ | refine leX_put (by simp only [upd_apply, ↓reduceIte, eq_self, if_true, e_nb_b, e_b_nb, List.map_cons, List.map_nil]) ?_ | refine leX_strip (by first | exact .inr (by assumption) | exact .inl (by simp)) ?_))), ⟨by omega, by simp only [List.length_nil] at hvl; subst hvl; rfl, fun x hx => hall s hs x hx, Nat.le_trans ht0 h1, h2, hnext s t2 c2 h3, z_b⟩, by simp only; omega⟩
    | some m =>
      rw [oside_some] at hos
      have d_m_nb : ¬ m = nb := fun e => by rw [e, hb] at hos; cases hos
      have d_nb_m : ¬ nb = m := Ne.symm d_m_nb
      have e_m_nb : (m = nb) = False := eq_false d_m_nb
      have e_nb_m : (nb = m) = False := eq_false d_nb_m
      simp (maxSteps := 1000000) -dsimp -implicitDefEqProofs only [go_sem, ↓reduceIte, keep297, ib297, mk297, Tryz.f297, oval_some, oheap_some, hlt, ek]
      intro _
      refine HFnF.mkH (hv.at ek (upd (upd h nb (rBox p sz t c')) m (.row 1 ((vs.map fun s => [ints s]).map (List.map .v)))) nb t c' env funcs (by rw [upd_ne _ _ _ _ d_nb_m, upd_same]) ht (by omega) (hkok _ (List.getElem_mem _)) hf0 hf henv (by omega)) ?_
      rintro r h' ⟨s, t2, c2, rfl, rfl, hs, h1, h2, h3⟩
      simp (maxSteps := 1000000) -dsimp -implicitDefEqProofs only [go_sem, ↓reduceIte, keep297, ib297, mk297, Tryz.f297, upd_ne, e_m_nb, e_nb_m]
      refine ⟨Nat.zero_lt_one, Nat.zero_lt_one, Nat.zero_lt_one, Nat.le_refl _, by omega, by omega, ?_⟩
      intro b q_b
      have d_b_nb : ¬ b = nb := by first | exact q_b.1 | exact q_b | exact q_b.2.1 | exact q_b.2 | exact q_b.2.2.1 | exact q_b.2.2 | exact q_b.2.2.2.1 | exact q_b.2.2.2 | exact q_b.2.2.2.2.1 | exact q_b.2.2.2.2 | exact q_b.2.2.2.2.2.1 | exact q_b.2.2.2.2.2 | exact q_b.2.2.2.2.2.2.1 | exact q_b.2.2.2.2.2.2 | exact q_b.2.2.2.2.2.2.2.1 | exact q_b.2.2.2.2.2.2.2 | exact q_b.2.2.2.2.2.2.2.2.1 | exact q_b.2.2.2.2.2.2.2.2 | exact q_b.2.2.2.2.2.2.2.2.2.1 | exact q_b.2.2.2.2.2.2.2.2.2 | exact q_b.2.2.2.2.2.2.2.2.2.2.1 | exact q_b.2.2.2.2.2.2.2.2.2.2 | exact q_b.2.2.2.2.2.2.2.2.2.2.2.1 | exact q_b.2.2.2.2.2.2.2.2.2.2.2 | exact q_b.2.2.2.2.2.2.2.2.2.2.2.2.1 | exact q_b.2.2.2.2.2.2.2.2.2.2.2.2 | exact q_b.2.2.2.2.2.2.2.2.2.2.2.2.2.1 | exact q_b.2.2.2.2.2.2.2.2.2.2.2.2.2
      have e_b_nb : (b = nb) = False := eq_false d_b_nb
      have e_nb_b : (nb = b) = False := eq_false (Ne.symm d_b_nb)
      have d_nb_b : ¬ nb = b := Ne.symm d_b_nb
      have d_b_m : ¬ b = m := by first | exact q_b.1 | exact q_b | exact q_b.2.1 | exact q_b.2 | exact q_b.2.2.1 | exact q_b.2.2 | exact q_b.2.2.2.1 | exact q_b.2.2.2 | exact q_b.2.2.2.2.1 | exact q_b.2.2.2.2 | exact q_b.2.2.2.2.2.1 | exact q_b.2.2.2.2.2 | exact q_b.2.2.2.2.2.2.1 | exact q_b.2.2.2.2.2.2 | exact q_b.2.2.2.2.2.2.2.1 | exact q_b.2.2.2.2.2.2.2 | exact q_b.2.2.2.2.2.2.2.2.1 | exact q_b.2.2.2.2.2.2.2.2 | exact q_b.2.2.2.2.2.2.2.2.2.1 | exact q_b.2.2.2.2.2.2.2.2.2 | exact q_b.2.2.2.2.2.2.2.2.2.2.1 | exact q_b.2.2.2.2.2.2.2.2.2.2 | exact q_b.2.2.2.2.2.2.2.2.2.2.2.1 | exact q_b.2.2.2.2.2.2.2.2.2.2.2 | exact q_b.2.2.2.2.2.2.2.2.2.2.2.2.1 | exact q_b.2.2.2.2.2.2.2.2.2.2.2.2 | exact q_b.2.2.2.2.2.2.2.2.2.2.2.2.2.1 | exact q_b.2.2.2.2.2.2.2.2.2.2.2.2.2
      have e_b_m : (b = m) = False := eq_false d_b_m
      have e_m_b : (m = b) = False := eq_false (Ne.symm d_b_m)
      have d_m_b : ¬ m = b := Ne.symm d_b_m
      have z_b : h b = none := by first | exact q_b.1 | exact q_b | exact q_b.2.1 | exact q_b.2 | exact q_b.2.2.1 | exact q_b.2.2 | exact q_b.2.2.2.1 | exact q_b.2.2.2 | exact q_b.2.2.2.2.1 | exact q_b.2.2.2.2 | exact q_b.2.2.2.2.2.1 | exact q_b.2.2.2.2.2 | exact q_b.2.2.2.2.2.2.1 | exact q_b.2.2.2.2.2.2 | exact q_b.2.2.2.2.2.2.2.1 | exact q_b.2.2.2.2.2.2.2 | exact q_b.2.2.2.2.2.2.2.2.1 | exact q_b.2.2.2.2.2.2.2.2 | exact q_b.2.2.2.2.2.2.2.2.2.1 | exact q_b.2.2.2.2.2.2.2.2.2 | exact q_b.2.2.2.2.2.2.2.2.2.2.1 | exact q_b.2.2.2.2.2.2.2.2.2.2 | exact q_b.2.2.2.2.2.2.2.2.2.2.2.1 | exact q_b.2.2.2.2.2.2.2.2.2.2.2 | exact q_b.2.2.2.2.2.2.2.2.2.2.2.2.1 | exact q_b.2.2.2.2.2.2.2.2.2.2.2.2 | exact q_b.2.2.2.2.2.2.2.2.2.2.2.2.2.1 | exact q_b.2.2.2.2.2.2.2.2.2.2.2.2.2
      refine ⟨(k + 1, vs ++ [s], t2, c2, some b), ⟨by rw [oval_some, List.length_append]; rfl, by rw [IntWalk.i64_in _ (by omega)]; rfl⟩, ?_, ⟨by omega, by rw [List.length_append, hvl]; rfl, hall s hs, Nat.le_trans ht0 h1, h2, hnext s t2 c2 h3, z_b⟩, by simp only; omega⟩
      simp only [oheap_some]
      rw [← grow_row ints]
      exact (leX_nil (by repeat' (first | exact leX_refl _ _ | refine leX_put (by simp only [upd_apply, ↓reduceIte, eq_self, if_true, e_nb_b, e_nb_m, e_b_nb, e_b_m, e_m_nb, e_m_b]) ?_ | refine leX_strip (by first | exact .inr (by assumption) | exact .inl (by simp)) ?_)))
  have hk' : k = e.fKids.length := by omega
  subst hk'
  rw [List.take_length] at ho
  have gp : vs[e.fPick.toNat]? = some (vs.getD e.fPick.toNat []) ∨ e.fKind = 10 := by
    by_cases h10 : e.fKind = 10
    · exact .inr h10
    · exact .inl (env_get (by have := f9 (by omega); omega))
  have gp' : vs[e.fPick.toNat]? = some (vs.getD e.fPick.toNat []) := gp.resolve_right (by omega)
  have g9 := f9 hk
  cases o with
  | none =>
    exfalso
    rw [oside_none] at hos
    rw [hos] at hvl
    simp at hvl
    omega
  | some m =>
    rw [oside_some] at hos
    have d_m_nb : ¬ m = nb := fun e => by rw [e, hb] at hos; cases hos
    have d_nb_m : ¬ nb = m := Ne.symm d_m_nb
    have e_m_nb : (m = nb) = False := eq_false d_m_nb
    have e_nb_m : (nb = m) = False := eq_false d_nb_m
    simp (maxSteps := 1000000) -dsimp -implicitDefEqProofs only [go_sem, ↓reduceIte, keep297, ib297, mk297, Tryz.f297, oval_some, oheap_some, Nat.lt_irrefl, Int.lt_irrefl, rBox, upd_ne, e_m_nb, e_nb_m, hk, F.get, F.out, DFunc.c_eq, DProgram.c_eq]
    intro _
    refine ⟨f1, f2, ?_⟩
    refine HWpF.give m (by rw [upd_ne _ _ _ _ d_m_nb]; exact hos) (by simp [sealOK, e_m_nb, e_nb_m]) ?_
    refine loopF (keep := keep297) (ib := ib297) (mk := mk297) mix (by kernel_rfl) (fun x : Nat × List (List Int) × Nat × Int => [(0, .op nb 4 0 0), (1, .ip 5 [[I 11, I e.fNum, I e.fPick, I e.fCount, sls 5 DExpr.c e.fKids]] 0 0), (7, intss x.2.1), (9, .ip 3 (p.fFuncs.map DFunc.c) e.fNum.toNat 0), (10, I x.1)]) (fun x => upd h nb (rBox p sz x.2.2.1 x.2.2.2)) (fun x => x.1 ≤ e.fCount.toNat ∧ x.2.1.length = f.fOuts.length ∧ (∀ s ∈ x.2.1, serOK sz s) ∧ t ≤ x.2.2.1 ∧ x.2.2.1 ≤ 3000 ∧ outR (runE c' (iterE (fun vs t => seqE (fun t e => evE p sz n t e vs) (p.outs e.fNum) t) x.1 vs t)) x.2.1 x.2.2.1 x.2.2.2) (fun x => e.fCount.toNat - x.1) (0, vs, t, c') ⟨by simp [SatL, tget, HVal.sealUp, e_m_nb, e_nb_m, List.take_of_length_le], (leX_nil (by repeat' (first | exact leX_refl _ _ | refine leX_put (by simp only [upd_apply, ↓reduceIte, eq_self, if_true, e_m_nb, e_nb_m, rBox, DProgram.c_eq]) ?_ | refine leX_strip (by first | exact .inr (by assumption) | exact .inl (by simp)) ?_))), Nat.zero_le _, by simp only; omega, hvs, Nat.le_refl _, ht, outR_init _ _ _⟩ ?_
    rintro ⟨k, us, u, d⟩ ⟨hk1, hul, hus, ht1, ht2, hd⟩
    simp only at hk1 hul hus ht1 ht2 hd ⊢
    have gu : us[e.fPick.toNat]? = some (us.getD e.fPick.toNat []) := env_get (by omega)
    simp (maxSteps := 1000000) -dsimp -implicitDefEqProofs only [go_sem, ↓reduceIte, keep297, ib297, mk297, Tryz.f297, rBox, gu]
    refine ⟨fun hlt => ?_, fun hge => ?_⟩
    · refine HFnF.mkH (HFn.sub (.cons (.refl _) (.cons (Sub.ip (by rw [List.getElem?_map, F.get]; rfl) (by simp [DFunc.c_eq])) (.cons (.refl _) .nil))) (outs_of hv (upd h nb (rBox p sz u d)) nb u d f us e.fNum (upd_same _ _ _) ht2 (by omega) (by omega) (by rw [hul, g9.2.2]; exact F.oks) f1 (by omega) hus (by omega))) ?_
      rintro r h' ⟨l2, t2, c2, rfl, rfl, hl2, hs2, b1, b2, b3⟩
      simp (maxSteps := 1000000) -dsimp -implicitDefEqProofs only [go_sem, ↓reduceIte, keep297, ib297, mk297, Tryz.f297]
      refine ⟨(k + 1, l2, t2, c2), ⟨rfl, by rw [IntWalk.i64_in _ (by omega)]; rfl⟩, by simp only [upd_upd]; exact Heap.le_refl _, ⟨by omega, hl2, hs2, by simp only; omega, b2, ?_⟩, by simp only; omega⟩
      simp only
      rw [iterE_snoc]
      refine hd.thenC ?_
      rw [F.eq]
      exact b3
    · have hke : k = e.fCount.toNat := by omega
      refine ⟨f3, by omega, _, _, shift_self _ _, us.getD e.fPick.toNat [], u, d, rfl, rfl, serOK_get hus (by omega), by omega, ht2, ?_⟩
      refine ho.thenC ?_
      rw [← hke]
      exact hd.thenC (outR_init _ _ _)
open Go.Proofs
set_option linter.unusedVariables false
set_option linter.unusedSimpArgs false
set_option maxRecDepth 100000 in
theorem expr_stop {p : DProgram} {sz n : Nat} (hsz : 1 ≤ sz ∧ sz ≤ 1048576) (h : Heap) (nb st : Nat) (c : Int) (e : DExpr) (env : List (List Int)) (hb : h nb = some (rBox p sz st c)) (hst : st ≤ 3000) (hs : ¬ c = 0 ∨ st = 3000) :
    HFn Tryz.prog 265 [.op nb 4 0 0, .ip 5 [e.c] 0 0, intss env] h (RnQ h nb p sz st c (evE p sz (n + 1) st e env)) := by
  rw [DExpr.c_eq]
  have hb' := hb
  unfold rBox at hb'
  refine fnKF 186 keep265 ib265 mk265 mix Tryz.func265 rfl (by kernel_rfl) (by simp) ?_
  simp (maxSteps := 1000000) -dsimp -implicitDefEqProofs only [go_sem, ↓reduceIte, keep265, ib265, mk265, Tryz.f265, hb']
  refine ⟨fun hc => ?_, fun hc => ?_⟩
  · have hc' : ¬ c = 0 := by simpa using hc
    refine HFnF.mkH (failS h nb p sz st c c hb hsz.2) ?_
    rintro r h' ⟨rfl, rfl⟩
    simp (maxSteps := 1000000) -dsimp -implicitDefEqProofs only [go_sem, ↓reduceIte, keep265, ib265, mk265, Tryz.f265]
    refine ⟨_, _, shift_self _ _, _, st, c, rfl, by rw [if_neg hc'], serOK_const num_zero, Nat.le_refl _, hst, by rw [runE_ne _ hc']; exact outR_err _ _ hc'⟩
  · have hc0 : c = 0 := by simpa using hc
    subst hc0
    have h3 : st = 3000 := by rcases hs with hs | hs; exact absurd rfl hs; exact hs
    subst h3
    try simp (maxSteps := 1000000) -dsimp -implicitDefEqProofs only [go_sem, ↓reduceIte, keep265, ib265, mk265, Tryz.f265, hb']
    refine ⟨fun _ => ?_, fun q => absurd q (by simp)⟩
    refine HFnF.mkH (failS h nb p sz 3000 0 7 hb hsz.2) ?_
    rintro r h' ⟨rfl, rfl⟩
    simp (maxSteps := 1000000) -dsimp -implicitDefEqProofs only [go_sem, ↓reduceIte, keep265, ib265, mk265, Tryz.f265]
    refine ⟨_, _, shift_self _ _, _, 3000, 7, rfl, rfl, serOK_const num_zero, Nat.le_refl _, hst, ?_⟩
    rw [runE_zero, evE, if_pos rfl]
    exact outR_err _ _ (by decide)
set_option maxRecDepth 100000 in
theorem expr_1 {p : DProgram} (hp : p.ok) {sz n : Nat} (hsz : 1 ≤ sz ∧ sz ≤ 1048576) (hv : RunAt p sz n) (h : Heap) (nb st : Nat) (e : DExpr) (env : List (List Int)) (funcs : Int) (hb : h nb = some (rBox p sz st 0)) (hst : st < 3000) (hn : 3001 ≤ n + 1 + st)
    (hok : e.ok p funcs env.length) (hf0 : 0 ≤ funcs) (hf : funcs ≤ p.fFuncs.length) (henv : ∀ s ∈ env, serOK sz s) (hel : env.length ≤ 412 + st) (hk : e.fKind = 1) :
    HFn Tryz.prog 265 [.op nb 4 0 0, .ip 5 [e.c] 0 0, intss env] h (RnQ h nb p sz st 0 (evE p sz (n + 1) st e env)) := by
  have hb' := hb
  unfold rBox at hb'
  have e3 : ((st : Int) = 3000) = False := eq_false (by omega)
  have ew : IntKind.i64.wrap ((st : Int) + 1) = ((st + 1 : Nat) : Int) := by rw [IntWalk.i64_in _ (by omega)]; rfl
  have hnode := (DExpr.ok_iff _ _ _ _).1 hok
  have h3 : ¬ st = 3000 := by omega
  have hnum : Num e.fNum := ((nodeOK_plain (by omega)).1 hnode.1).2.2.2.1 hk
  rw [DExpr.c_eq]
  refine fnKF 186 keep265 ib265 mk265 mix Tryz.func265 rfl (by kernel_rfl) (by simp) ?_
  simp (maxSteps := 1000000) -dsimp -implicitDefEqProofs only [go_sem, ↓reduceIte, keep265, ib265, mk265, Tryz.f265, hb', e3, ew, hk]
  first | refine HFnF.mk (l01Const e.fNum sz hsz.2) ?_ | refine CallSF.mk (l01Const e.fNum sz hsz.2) ?_ | refine HFnF.mkAt (l01Const e.fNum sz hsz.2) ?_ | refine CallSF.mk (FnAt.fn0 (l01Const e.fNum sz hsz.2)) ?_
  simp (maxSteps := 1000000) -dsimp -implicitDefEqProofs only [go_sem, ↓reduceIte, keep265, ib265, mk265, Tryz.f265]
  refine ⟨_, _, shift_self _ _, _, st + 1, 0, rfl, rfl, serOK_const hnum, Nat.le_succ _, hst, ?_⟩
  rw [runE_zero, evE_1 h3 hk]
  exact outR_ok _ _
set_option maxRecDepth 100000 in
theorem expr_2 {p : DProgram} (hp : p.ok) {sz n : Nat} (hsz : 1 ≤ sz ∧ sz ≤ 1048576) (hv : RunAt p sz n) (h : Heap) (nb st : Nat) (e : DExpr) (env : List (List Int)) (funcs : Int) (hb : h nb = some (rBox p sz st 0)) (hst : st < 3000) (hn : 3001 ≤ n + 1 + st)
    (hok : e.ok p funcs env.length) (hf0 : 0 ≤ funcs) (hf : funcs ≤ p.fFuncs.length) (henv : ∀ s ∈ env, serOK sz s) (hel : env.length ≤ 412 + st) (hk : e.fKind = 2) :
    HFn Tryz.prog 265 [.op nb 4 0 0, .ip 5 [e.c] 0 0, intss env] h (RnQ h nb p sz st 0 (evE p sz (n + 1) st e env)) := by
  have hb' := hb
  unfold rBox at hb'
  have e3 : ((st : Int) = 3000) = False := eq_false (by omega)
  have ew : IntKind.i64.wrap ((st : Int) + 1) = ((st + 1 : Nat) : Int) := by rw [IntWalk.i64_in _ (by omega)]; rfl
  have hnode := (DExpr.ok_iff _ _ _ _).1 hok
  have h3 : ¬ st = 3000 := by omega
  have hnum := ((nodeOK_plain (by omega)).1 hnode.1).2.2.2.2.1 hk
  have hlt : e.fNum.toNat < env.length := by omega
  rw [DExpr.c_eq]
  refine fnKF 186 keep265 ib265 mk265 mix Tryz.func265 rfl (by kernel_rfl) (by simp) ?_
  simp (maxSteps := 1000000) -dsimp -implicitDefEqProofs only [go_sem, ↓reduceIte, keep265, ib265, mk265, Tryz.f265, hb', e3, ew, hk, env_get hlt]
  refine ⟨hnum.1, by omega, _, _, shift_self _ _, _, st + 1, 0, rfl, rfl, serOK_get henv hlt, Nat.le_succ _, hst, ?_⟩
  rw [runE_zero, evE_2 h3 hk]
  exact outR_ok _ _
set_option maxRecDepth 100000 in
theorem expr_8 {p : DProgram} (hp : p.ok) {sz n : Nat} (hsz : 1 ≤ sz ∧ sz ≤ 1048576) (hv : RunAt p sz n) (h : Heap) (nb st : Nat) (e : DExpr) (env : List (List Int)) (funcs : Int) (hb : h nb = some (rBox p sz st 0)) (hst : st < 3000) (hn : 3001 ≤ n + 1 + st)
    (hok : e.ok p funcs env.length) (hf0 : 0 ≤ funcs) (hf : funcs ≤ p.fFuncs.length) (henv : ∀ s ∈ env, serOK sz s) (hel : env.length ≤ 412 + st) (hk : e.fKind = 8) :
    HFn Tryz.prog 265 [.op nb 4 0 0, .ip 5 [e.c] 0 0, intss env] h (RnQ h nb p sz st 0 (evE p sz (n + 1) st e env)) := by
  have hb' := hb
  unfold rBox at hb'
  have e3 : ((st : Int) = 3000) = False := eq_false (by omega)
  have ew : IntKind.i64.wrap ((st : Int) + 1) = ((st + 1 : Nat) : Int) := by rw [IntWalk.i64_in _ (by omega)]; rfl
  have hnode := (DExpr.ok_iff _ _ _ _).1 hok
  have h3 : ¬ st = 3000 := by omega
  have hlen := kids_len hok (by omega)
  rw [hk, show kidsN 8 = 3 from rfl] at hlen
  have g0 : e.fKids[Int.toNat 0]? = some (e.kid 0) := DExpr.kid_get (by omega)
  have g1 : e.fKids[Int.toNat 1]? = some (e.kid 1) := DExpr.kid_get (by omega)
  have g2 : e.fKids[Int.toNat 2]? = some (e.kid 2) := DExpr.kid_get (by omega)
  have o0 := DExpr.kid_ok hok (i := 0) (by omega)
  have o1 := DExpr.kid_ok hok (i := 1) (by omega)
  have o2 := DExpr.kid_ok hok (i := 2) (by omega)
  rw [moreV_ne (by omega)] at o0 o1 o2
  rw [DExpr.c_eq]
  refine fnKF 186 keep265 ib265 mk265 mix Tryz.func265 rfl (by kernel_rfl) (by simp) ?_
  simp (maxSteps := 1000000) -dsimp -implicitDefEqProofs only [go_sem, ↓reduceIte, keep265, ib265, mk265, Tryz.f265, hb', e3, ew, hk, g0]
  refine ⟨by omega, ?_⟩
  refine HFnF.mkH (hv.at g0 (upd h nb (rBox p sz (st + 1) 0)) nb (st + 1) 0 env funcs (upd_same _ _ _) (by omega) (by omega) o0 hf0 hf henv (by omega)) ?_
  rintro r h' ⟨s1, t1, c1, rfl, rfl, hs1, a1, a2, a3⟩
  have gs : s1[Int.toNat 0]? = some (s1.getD 0 0) := getD_get (by rw [hs1.1]; omega)
  simp (maxSteps := 1000000) -dsimp -implicitDefEqProofs only [go_sem, ↓reduceIte, keep265, ib265, mk265, Tryz.f265, gs, g1, g2]
  refine ⟨by rw [hs1.1]; omega, fun hz => ⟨by omega, ?_⟩, fun hz => ⟨by omega, ?_⟩⟩
  · rw [upd_upd]
    refine HFnF.mkH (hv.at g1 (upd h nb (rBox p sz t1 c1)) nb t1 c1 env funcs (upd_same _ _ _) (by omega) (by omega) o1 hf0 hf henv (by omega)) ?_
    rintro r h' ⟨s2, t2, c2, rfl, rfl, hs2, b1, b2, b3⟩
    simp (maxSteps := 1000000) -dsimp -implicitDefEqProofs only [go_sem, ↓reduceIte, keep265, ib265, mk265, Tryz.f265]
    refine ⟨_, _, shift_self _ _, s2, t2, c2, rfl, by rw [upd_upd], hs2, by omega, b2, ?_⟩
    rw [evE_8 h3 hk]
    refine a3.thenC ?_
    rw [if_pos hz]
    exact b3
  · rw [upd_upd]
    refine HFnF.mkH (hv.at g2 (upd h nb (rBox p sz t1 c1)) nb t1 c1 env funcs (upd_same _ _ _) (by omega) (by omega) o2 hf0 hf henv (by omega)) ?_
    rintro r h' ⟨s2, t2, c2, rfl, rfl, hs2, b1, b2, b3⟩
    simp (maxSteps := 1000000) -dsimp -implicitDefEqProofs only [go_sem, ↓reduceIte, keep265, ib265, mk265, Tryz.f265]
    refine ⟨_, _, shift_self _ _, s2, t2, c2, rfl, by rw [upd_upd], hs2, by omega, b2, ?_⟩
    rw [evE_8 h3 hk]
    refine a3.thenC ?_
    rw [if_neg hz]
    exact b3
set_option maxRecDepth 100000 in
theorem expr_9 {p : DProgram} (hp : p.ok) {sz n : Nat} (hsz : 1 ≤ sz ∧ sz ≤ 1048576) (hv : RunAt p sz n) (h : Heap) (nb st : Nat) (e : DExpr) (env : List (List Int)) (funcs : Int) (hb : h nb = some (rBox p sz st 0)) (hst : st < 3000) (hn : 3001 ≤ n + 1 + st)
    (hok : e.ok p funcs env.length) (hf0 : 0 ≤ funcs) (hf : funcs ≤ p.fFuncs.length) (henv : ∀ s ∈ env, serOK sz s) (hel : env.length ≤ 412 + st) (hk : e.fKind = 9) :
    HFn Tryz.prog 265 [.op nb 4 0 0, .ip 5 [e.c] 0 0, intss env] h (RnQ h nb p sz st 0 (evE p sz (n + 1) st e env)) := by
  have hb' := hb
  unfold rBox at hb'
  have e3 : ((st : Int) = 3000) = False := eq_false (by omega)
  have ew : IntKind.i64.wrap ((st : Int) + 1) = ((st + 1 : Nat) : Int) := by rw [IntWalk.i64_in _ (by omega)]; rfl
  have hnode := (DExpr.ok_iff _ _ _ _).1 hok
  have h3 : ¬ st = 3000 := by omega
  have hlen := kids_len hok (by omega)
  rw [hk, show kidsN 9 = 2 from rfl] at hlen
  have g0 : e.fKids[Int.toNat 0]? = some (e.kid 0) := DExpr.kid_get (by omega)
  have g1 : e.fKids[Int.toNat 1]? = some (e.kid 1) := DExpr.kid_get (by omega)
  have o0 := DExpr.kid_ok hok (i := 0) (by omega)
  have o1 := DExpr.kid_ok hok (i := 1) (by omega)
  rw [moreV_ne (by omega)] at o0
  rw [hk, show moreV 9 1 (env.length : Int) = env.length + 1 from rfl] at o1
  rw [DExpr.c_eq]
  refine fnKF 186 keep265 ib265 mk265 mix Tryz.func265 rfl (by kernel_rfl) (by simp) ?_
  simp (maxSteps := 1000000) -dsimp -implicitDefEqProofs only [go_sem, ↓reduceIte, keep265, ib265, mk265, Tryz.f265, hb', e3, ew, hk, g0, g1]
  refine ⟨by omega, ?_⟩
  refine HFnF.mkH (hv.at g0 (upd h nb (rBox p sz (st + 1) 0)) nb (st + 1) 0 env funcs (upd_same _ _ _) (by omega) (by omega) o0 hf0 hf henv (by omega)) ?_
  rintro r h' ⟨s1, t1, c1, rfl, rfl, hs1, a1, a2, a3⟩
  simp (maxSteps := 1000000) -dsimp -implicitDefEqProofs only [go_sem, ↓reduceIte, keep265, ib265, mk265, Tryz.f265, g0, g1]
  refine ⟨by omega, ?_⟩
  first | refine HFnF.mk (l02Env env s1 (by omega)) ?_ | refine CallSF.mk (l02Env env s1 (by omega)) ?_ | refine HFnF.mkAt (l02Env env s1 (by omega)) ?_ | refine CallSF.mk (FnAt.fn0 (l02Env env s1 (by omega))) ?_
  simp (maxSteps := 1000000) -dsimp -implicitDefEqProofs only [go_sem, ↓reduceIte, keep265, ib265, mk265, Tryz.f265]
  rw [upd_upd]
  refine HFnF.mkH (hv.at g1 (upd h nb (rBox p sz t1 c1)) nb t1 c1 (env ++ [s1]) funcs (upd_same _ _ _) (by omega) (by omega) (by rw [List.length_append]; exact o1) hf0 hf (serOK_snoc henv hs1) (by rw [List.length_append]; show env.length + 1 ≤ _; omega)) ?_
  rintro r h' ⟨s2, t2, c2, rfl, rfl, hs2, b1, b2, b3⟩
  simp (maxSteps := 1000000) -dsimp -implicitDefEqProofs only [go_sem, ↓reduceIte, keep265, ib265, mk265, Tryz.f265]
  refine ⟨_, upd h nb (rBox p sz t2 c2), shift_le (by rw [upd_upd]; exact Heap.le_refl _), s2, t2, c2, rfl, rfl, hs2, by omega, b2, ?_⟩
  rw [evE_9 h3 hk]
  exact a3.thenC b3
set_option maxRecDepth 100000 in
theorem expr_10 {p : DProgram} (hp : p.ok) {sz n : Nat} (hsz : 1 ≤ sz ∧ sz ≤ 1048576) (hv : RunAt p sz n) (h : Heap) (nb st : Nat) (e : DExpr) (env : List (List Int)) (funcs : Int) (hb : h nb = some (rBox p sz st 0)) (hst : st < 3000) (hn : 3001 ≤ n + 1 + st)
    (hok : e.ok p funcs env.length) (hf0 : 0 ≤ funcs) (hf : funcs ≤ p.fFuncs.length) (henv : ∀ s ∈ env, serOK sz s) (hel : env.length ≤ 412 + st) (hk : e.fKind = 10) :
    HFn Tryz.prog 265 [.op nb 4 0 0, .ip 5 [e.c] 0 0, intss env] h (RnQ h nb p sz st 0 (evE p sz (n + 1) st e env)) := by
  have hb' := hb
  unfold rBox at hb'
  have e3 : ((st : Int) = 3000) = False := eq_false (by omega)
  have ew : IntKind.i64.wrap ((st : Int) + 1) = ((st + 1 : Nat) : Int) := by rw [IntWalk.i64_in _ (by omega)]; rfl
  have hnode := (DExpr.ok_iff _ _ _ _).1 hok
  have h3 : ¬ st = 3000 := by omega
  have hcl := call_10 hp hv (upd h nb (rBox p sz (st + 1) 0)) nb (st + 1) e env funcs (upd_same _ _ _) (by omega) (by omega) hok hf0 hf henv (by omega) hk
  rw [DExpr.c_eq, hk] at hcl
  rw [DExpr.c_eq]
  refine fnKF 186 keep265 ib265 mk265 mix Tryz.func265 rfl (by kernel_rfl) (by simp) ?_
  simp (maxSteps := 1000000) -dsimp -implicitDefEqProofs only [go_sem, ↓reduceIte, keep265, ib265, mk265, Tryz.f265, hb', e3, ew, hk]
  refine HFnF.mkH hcl ?_
  rintro r h' ⟨s2, t2, c2, rfl, rfl, hs2, b1, b2, b3⟩
  simp (maxSteps := 1000000) -dsimp -implicitDefEqProofs only [go_sem, ↓reduceIte, keep265, ib265, mk265, Tryz.f265]
  refine ⟨_, upd h nb (rBox p sz t2 c2), shift_le (by rw [upd_upd]; exact Heap.le_refl _), s2, t2, c2, rfl, rfl, hs2, by omega, b2, ?_⟩
  rw [evE_10 h3 hk]
  exact b3
set_option maxRecDepth 100000 in
theorem expr_11 {p : DProgram} (hp : p.ok) {sz n : Nat} (hsz : 1 ≤ sz ∧ sz ≤ 1048576) (hv : RunAt p sz n) (h : Heap) (nb st : Nat) (e : DExpr) (env : List (List Int)) (funcs : Int) (hb : h nb = some (rBox p sz st 0)) (hst : st < 3000) (hn : 3001 ≤ n + 1 + st)
    (hok : e.ok p funcs env.length) (hf0 : 0 ≤ funcs) (hf : funcs ≤ p.fFuncs.length) (henv : ∀ s ∈ env, serOK sz s) (hel : env.length ≤ 412 + st) (hk : e.fKind = 11) :
    HFn Tryz.prog 265 [.op nb 4 0 0, .ip 5 [e.c] 0 0, intss env] h (RnQ h nb p sz st 0 (evE p sz (n + 1) st e env)) := by
  have hb' := hb
  unfold rBox at hb'
  have e3 : ((st : Int) = 3000) = False := eq_false (by omega)
  have ew : IntKind.i64.wrap ((st : Int) + 1) = ((st + 1 : Nat) : Int) := by rw [IntWalk.i64_in _ (by omega)]; rfl
  have hnode := (DExpr.ok_iff _ _ _ _).1 hok
  have h3 : ¬ st = 3000 := by omega
  have hcl := call_11 hp hv (upd h nb (rBox p sz (st + 1) 0)) nb (st + 1) e env funcs (upd_same _ _ _) (by omega) (by omega) hok hf0 hf henv (by omega) hk
  rw [DExpr.c_eq, hk] at hcl
  rw [DExpr.c_eq]
  refine fnKF 186 keep265 ib265 mk265 mix Tryz.func265 rfl (by kernel_rfl) (by simp) ?_
  simp (maxSteps := 1000000) -dsimp -implicitDefEqProofs only [go_sem, ↓reduceIte, keep265, ib265, mk265, Tryz.f265, hb', e3, ew, hk]
  refine HFnF.mkH hcl ?_
  rintro r h' ⟨s2, t2, c2, rfl, rfl, hs2, b1, b2, b3⟩
  simp (maxSteps := 1000000) -dsimp -implicitDefEqProofs only [go_sem, ↓reduceIte, keep265, ib265, mk265, Tryz.f265]
  refine ⟨_, upd h nb (rBox p sz t2 c2), shift_le (by rw [upd_upd]; exact Heap.le_refl _), s2, t2, c2, rfl, rfl, hs2, by omega, b2, ?_⟩
  rw [evE_11 h3 hk]
  exact b3
open Go.Proofs
set_option linter.unusedVariables false
set_option linter.unusedSimpArgs false
theorem kids_one {e : DExpr} (h : e.fKids.length = 1) : e.fKids = [e.kid 0] := by
  have h0 := DExpr.kid_eq (e := e) (i := 0) (by omega)
  rw [h0]
  apply List.ext_getElem (by simp [h])
  intro i hi hi2
  match i, hi2 with
  | 0, _ => rfl
theorem kids_two {e : DExpr} (h : e.fKids.length = 2) : e.fKids = [e.kid 0, e.kid 1] := by
  have h0 := DExpr.kid_eq (e := e) (i := 0) (by omega)
  have h1 := DExpr.kid_eq (e := e) (i := 1) (by omega)
  rw [h0, h1]
  apply List.ext_getElem (by simp [h])
  intro i hi hi2
  match i, hi2 with
  | 0, _ => rfl
  | 1, _ => rfl
theorem evE_un {p : DProgram} {sz n st : Nat} {e : DExpr} {env : List (List Int)} (h3 : ¬ st = 3000) (hk : e.fKind = 7) (hl : e.fKids.length = 1) : evE p sz (n + 1) st e env = (evE p sz n (st + 1) (e.kid 0) env).andThen fun v t => .ok (sclL v 1000002, t) := by
  rw [evE_op h3 (by omega), kids_one hl, hk]
  simp only [seqE, Out.andThen_assoc, Out.andThen_ok, opE]
  rfl
theorem evE_bin {p : DProgram} {sz n st : Nat} {e : DExpr} {env : List (List Int)} (h3 : ¬ st = 3000) (hk : e.fKind = 3 ∨ e.fKind = 4 ∨ e.fKind = 5 ∨ e.fKind = 6) (hl : e.fKids.length = 2) : evE p sz (n + 1) st e env = (evE p sz n (st + 1) (e.kid 0) env).andThen fun a t => (evE p sz n t (e.kid 1) env).andThen fun b t => opE e.fKind [a, b] t := by
  rw [evE_op h3 (by omega), kids_two hl]
  simp only [seqE, Out.andThen_assoc, Out.andThen_ok]
set_option maxRecDepth 100000 in
theorem expr_7 {p : DProgram} (hp : p.ok) {sz n : Nat} (hsz : 1 ≤ sz ∧ sz ≤ 1048576) (hv : RunAt p sz n) (h : Heap) (nb st : Nat) (e : DExpr) (env : List (List Int)) (funcs : Int) (hb : h nb = some (rBox p sz st 0)) (hst : st < 3000) (hn : 3001 ≤ n + 1 + st)
    (hok : e.ok p funcs env.length) (hf0 : 0 ≤ funcs) (hf : funcs ≤ p.fFuncs.length) (henv : ∀ s ∈ env, serOK sz s) (hel : env.length ≤ 412 + st) (hk : e.fKind = 7) :
    HFn Tryz.prog 265 [.op nb 4 0 0, .ip 5 [e.c] 0 0, intss env] h (RnQ h nb p sz st 0 (evE p sz (n + 1) st e env)) := by
  have hb' := hb
  unfold rBox at hb'
  have e3 : ((st : Int) = 3000) = False := eq_false (by omega)
  have ew : IntKind.i64.wrap ((st : Int) + 1) = ((st + 1 : Nat) : Int) := by rw [IntWalk.i64_in _ (by omega)]; rfl
  have hnode := (DExpr.ok_iff _ _ _ _).1 hok
  have h3 : ¬ st = 3000 := by omega
  have hlen := kids_len hok (by omega)
  rw [hk, show kidsN 7 = 1 from rfl] at hlen
  have g0 : e.fKids[Int.toNat 0]? = some (e.kid 0) := DExpr.kid_get (by omega)
  have o0 := DExpr.kid_ok hok (i := 0) (by omega)
  rw [moreV_ne (by omega)] at o0
  rw [DExpr.c_eq]
  refine fnKF 186 keep265 ib265 mk265 mix Tryz.func265 rfl (by kernel_rfl) (by simp) ?_
  simp (maxSteps := 1000000) -dsimp -implicitDefEqProofs only [go_sem, ↓reduceIte, keep265, ib265, mk265, Tryz.f265, hb', e3, ew, hk, g0]
  refine ⟨by omega, ?_⟩
  refine HFnF.mkH (hv.at g0 (upd h nb (rBox p sz (st + 1) 0)) nb (st + 1) 0 env funcs (upd_same _ _ _) (by omega) (by omega) o0 hf0 hf henv (by omega)) ?_
  rintro r h' ⟨s1, t1, c1, rfl, rfl, hs1, a1, a2, a3⟩
  simp (maxSteps := 1000000) -dsimp -implicitDefEqProofs only [go_sem, ↓reduceIte, keep265, ib265, mk265, Tryz.f265]
  first | refine HFnF.mk (l01Scale s1 1000002 (by unfold Num; omega) (by rw [hs1.1]; omega) hs1.2) ?_ | refine CallSF.mk (l01Scale s1 1000002 (by unfold Num; omega) (by rw [hs1.1]; omega) hs1.2) ?_ | refine HFnF.mkAt (l01Scale s1 1000002 (by unfold Num; omega) (by rw [hs1.1]; omega) hs1.2) ?_ | refine CallSF.mk (FnAt.fn0 (l01Scale s1 1000002 (by unfold Num; omega) (by rw [hs1.1]; omega) hs1.2)) ?_
  simp (maxSteps := 1000000) -dsimp -implicitDefEqProofs only [go_sem, ↓reduceIte, keep265, ib265, mk265, Tryz.f265]
  refine ⟨_, upd h nb (rBox p sz t1 c1), shift_le (by rw [upd_upd]; exact Heap.le_refl _), _, t1, c1, rfl, rfl, serOK_scl _ hs1, by omega, a2, ?_⟩
  rw [evE_un h3 hk (by omega)]
  exact a3.thenC (outR_init _ _ _)
set_option maxRecDepth 100000 in
theorem expr_3 {p : DProgram} (hp : p.ok) {sz n : Nat} (hsz : 1 ≤ sz ∧ sz ≤ 1048576) (hv : RunAt p sz n) (h : Heap) (nb st : Nat) (e : DExpr) (env : List (List Int)) (funcs : Int) (hb : h nb = some (rBox p sz st 0)) (hst : st < 3000) (hn : 3001 ≤ n + 1 + st)
    (hok : e.ok p funcs env.length) (hf0 : 0 ≤ funcs) (hf : funcs ≤ p.fFuncs.length) (henv : ∀ s ∈ env, serOK sz s) (hel : env.length ≤ 412 + st) (hk : e.fKind = 3) :
    HFn Tryz.prog 265 [.op nb 4 0 0, .ip 5 [e.c] 0 0, intss env] h (RnQ h nb p sz st 0 (evE p sz (n + 1) st e env)) := by
  have hb' := hb
  unfold rBox at hb'
  have e3 : ((st : Int) = 3000) = False := eq_false (by omega)
  have ew : IntKind.i64.wrap ((st : Int) + 1) = ((st + 1 : Nat) : Int) := by rw [IntWalk.i64_in _ (by omega)]; rfl
  have hnode := (DExpr.ok_iff _ _ _ _).1 hok
  have h3 : ¬ st = 3000 := by omega
  have hlen := kids_len hok (by omega)
  rw [hk, show kidsN 3 = 2 from rfl] at hlen
  have g0 : e.fKids[Int.toNat 0]? = some (e.kid 0) := DExpr.kid_get (by omega)
  have g1 : e.fKids[Int.toNat 1]? = some (e.kid 1) := DExpr.kid_get (by omega)
  have o0 := DExpr.kid_ok hok (i := 0) (by omega)
  have o1 := DExpr.kid_ok hok (i := 1) (by omega)
  rw [moreV_ne (by omega)] at o0 o1
  rw [DExpr.c_eq]
  refine fnKF 186 keep265 ib265 mk265 mix Tryz.func265 rfl (by kernel_rfl) (by simp) ?_
  simp (maxSteps := 1000000) -dsimp -implicitDefEqProofs only [go_sem, ↓reduceIte, keep265, ib265, mk265, Tryz.f265, hb', e3, ew, hk, g0]
  refine ⟨by omega, ?_⟩
  refine HFnF.mkH (hv.at g0 (upd h nb (rBox p sz (st + 1) 0)) nb (st + 1) 0 env funcs (upd_same _ _ _) (by omega) (by omega) o0 hf0 hf henv (by omega)) ?_
  rintro r h' ⟨s1, t1, c1, rfl, rfl, hs1, a1, a2, a3⟩
  simp (maxSteps := 1000000) -dsimp -implicitDefEqProofs only [go_sem, ↓reduceIte, keep265, ib265, mk265, Tryz.f265, g1]
  refine ⟨by omega, ?_⟩
  rw [upd_upd]
  refine HFnF.mkH (hv.at g1 (upd h nb (rBox p sz t1 c1)) nb t1 c1 env funcs (upd_same _ _ _) (by omega) (by omega) o1 hf0 hf henv (by omega)) ?_
  rintro r h' ⟨s2, t2, c2, rfl, rfl, hs2, b1, b2, b3⟩
  rw [upd_upd]
  simp (maxSteps := 1000000) -dsimp -implicitDefEqProofs only [go_sem, ↓reduceIte, keep265, ib265, mk265, Tryz.f265, hk]
  first | refine HFnF.mk (l01Add s1 s2 (by rw [hs1.1, hs2.1]) (by rw [hs1.1]; omega) hs1.2 hs2.2) ?_ | refine CallSF.mk (l01Add s1 s2 (by rw [hs1.1, hs2.1]) (by rw [hs1.1]; omega) hs1.2 hs2.2) ?_ | refine HFnF.mkAt (l01Add s1 s2 (by rw [hs1.1, hs2.1]) (by rw [hs1.1]; omega) hs1.2 hs2.2) ?_ | refine CallSF.mk (FnAt.fn0 (l01Add s1 s2 (by rw [hs1.1, hs2.1]) (by rw [hs1.1]; omega) hs1.2 hs2.2)) ?_
  simp (maxSteps := 1000000) -dsimp -implicitDefEqProofs only [go_sem, ↓reduceIte, keep265, ib265, mk265, Tryz.f265]
  refine ⟨_, upd h nb (rBox p sz t2 c2), shift_le (Heap.le_refl _), _, t2, c2, rfl, rfl, serOK_add hs1 hs2, by omega, b2, ?_⟩
  rw [evE_bin h3 (by omega) (by omega), hk]
  exact a3.thenC (b3.thenC (outR_init _ _ _))
set_option maxRecDepth 100000 in
theorem expr_4 {p : DProgram} (hp : p.ok) {sz n : Nat} (hsz : 1 ≤ sz ∧ sz ≤ 1048576) (hv : RunAt p sz n) (h : Heap) (nb st : Nat) (e : DExpr) (env : List (List Int)) (funcs : Int) (hb : h nb = some (rBox p sz st 0)) (hst : st < 3000) (hn : 3001 ≤ n + 1 + st)
    (hok : e.ok p funcs env.length) (hf0 : 0 ≤ funcs) (hf : funcs ≤ p.fFuncs.length) (henv : ∀ s ∈ env, serOK sz s) (hel : env.length ≤ 412 + st) (hk : e.fKind = 4) :
    HFn Tryz.prog 265 [.op nb 4 0 0, .ip 5 [e.c] 0 0, intss env] h (RnQ h nb p sz st 0 (evE p sz (n + 1) st e env)) := by
  have hb' := hb
  unfold rBox at hb'
  have e3 : ((st : Int) = 3000) = False := eq_false (by omega)
  have ew : IntKind.i64.wrap ((st : Int) + 1) = ((st + 1 : Nat) : Int) := by rw [IntWalk.i64_in _ (by omega)]; rfl
  have hnode := (DExpr.ok_iff _ _ _ _).1 hok
  have h3 : ¬ st = 3000 := by omega
  have hlen := kids_len hok (by omega)
  rw [hk, show kidsN 4 = 2 from rfl] at hlen
  have g0 : e.fKids[Int.toNat 0]? = some (e.kid 0) := DExpr.kid_get (by omega)
  have g1 : e.fKids[Int.toNat 1]? = some (e.kid 1) := DExpr.kid_get (by omega)
  have o0 := DExpr.kid_ok hok (i := 0) (by omega)
  have o1 := DExpr.kid_ok hok (i := 1) (by omega)
  rw [moreV_ne (by omega)] at o0 o1
  rw [DExpr.c_eq]
  refine fnKF 186 keep265 ib265 mk265 mix Tryz.func265 rfl (by kernel_rfl) (by simp) ?_
  simp (maxSteps := 1000000) -dsimp -implicitDefEqProofs only [go_sem, ↓reduceIte, keep265, ib265, mk265, Tryz.f265, hb', e3, ew, hk, g0]
  refine ⟨by omega, ?_⟩
  refine HFnF.mkH (hv.at g0 (upd h nb (rBox p sz (st + 1) 0)) nb (st + 1) 0 env funcs (upd_same _ _ _) (by omega) (by omega) o0 hf0 hf henv (by omega)) ?_
  rintro r h' ⟨s1, t1, c1, rfl, rfl, hs1, a1, a2, a3⟩
  simp (maxSteps := 1000000) -dsimp -implicitDefEqProofs only [go_sem, ↓reduceIte, keep265, ib265, mk265, Tryz.f265, g1]
  refine ⟨by omega, ?_⟩
  rw [upd_upd]
  refine HFnF.mkH (hv.at g1 (upd h nb (rBox p sz t1 c1)) nb t1 c1 env funcs (upd_same _ _ _) (by omega) (by omega) o1 hf0 hf henv (by omega)) ?_
  rintro r h' ⟨s2, t2, c2, rfl, rfl, hs2, b1, b2, b3⟩
  rw [upd_upd]
  simp (maxSteps := 1000000) -dsimp -implicitDefEqProofs only [go_sem, ↓reduceIte, keep265, ib265, mk265, Tryz.f265, hk]
  first | refine HFnF.mk (l01Sub s1 s2 (by rw [hs1.1, hs2.1]) (by rw [hs1.1]; omega) hs1.2 hs2.2) ?_ | refine CallSF.mk (l01Sub s1 s2 (by rw [hs1.1, hs2.1]) (by rw [hs1.1]; omega) hs1.2 hs2.2) ?_ | refine HFnF.mkAt (l01Sub s1 s2 (by rw [hs1.1, hs2.1]) (by rw [hs1.1]; omega) hs1.2 hs2.2) ?_ | refine CallSF.mk (FnAt.fn0 (l01Sub s1 s2 (by rw [hs1.1, hs2.1]) (by rw [hs1.1]; omega) hs1.2 hs2.2)) ?_
  simp (maxSteps := 1000000) -dsimp -implicitDefEqProofs only [go_sem, ↓reduceIte, keep265, ib265, mk265, Tryz.f265]
  refine ⟨_, upd h nb (rBox p sz t2 c2), shift_le (Heap.le_refl _), _, t2, c2, rfl, rfl, serOK_sub hs1 hs2, by omega, b2, ?_⟩
  rw [evE_bin h3 (by omega) (by omega), hk]
  exact a3.thenC (b3.thenC (outR_init _ _ _))
set_option maxRecDepth 100000 in
theorem expr_5 {p : DProgram} (hp : p.ok) {sz n : Nat} (hsz : 1 ≤ sz ∧ sz ≤ 1048576) (hv : RunAt p sz n) (h : Heap) (nb st : Nat) (e : DExpr) (env : List (List Int)) (funcs : Int) (hb : h nb = some (rBox p sz st 0)) (hst : st < 3000) (hn : 3001 ≤ n + 1 + st)
    (hok : e.ok p funcs env.length) (hf0 : 0 ≤ funcs) (hf : funcs ≤ p.fFuncs.length) (henv : ∀ s ∈ env, serOK sz s) (hel : env.length ≤ 412 + st) (hk : e.fKind = 5) :
    HFn Tryz.prog 265 [.op nb 4 0 0, .ip 5 [e.c] 0 0, intss env] h (RnQ h nb p sz st 0 (evE p sz (n + 1) st e env)) := by
  have hb' := hb
  unfold rBox at hb'
  have e3 : ((st : Int) = 3000) = False := eq_false (by omega)
  have ew : IntKind.i64.wrap ((st : Int) + 1) = ((st + 1 : Nat) : Int) := by rw [IntWalk.i64_in _ (by omega)]; rfl
  have hnode := (DExpr.ok_iff _ _ _ _).1 hok
  have h3 : ¬ st = 3000 := by omega
  have hlen := kids_len hok (by omega)
  rw [hk, show kidsN 5 = 2 from rfl] at hlen
  have g0 : e.fKids[Int.toNat 0]? = some (e.kid 0) := DExpr.kid_get (by omega)
  have g1 : e.fKids[Int.toNat 1]? = some (e.kid 1) := DExpr.kid_get (by omega)
  have o0 := DExpr.kid_ok hok (i := 0) (by omega)
  have o1 := DExpr.kid_ok hok (i := 1) (by omega)
  rw [moreV_ne (by omega)] at o0 o1
  rw [DExpr.c_eq]
  refine fnKF 186 keep265 ib265 mk265 mix Tryz.func265 rfl (by kernel_rfl) (by simp) ?_
  simp (maxSteps := 1000000) -dsimp -implicitDefEqProofs only [go_sem, ↓reduceIte, keep265, ib265, mk265, Tryz.f265, hb', e3, ew, hk, g0]
  refine ⟨by omega, ?_⟩
  refine HFnF.mkH (hv.at g0 (upd h nb (rBox p sz (st + 1) 0)) nb (st + 1) 0 env funcs (upd_same _ _ _) (by omega) (by omega) o0 hf0 hf henv (by omega)) ?_
  rintro r h' ⟨s1, t1, c1, rfl, rfl, hs1, a1, a2, a3⟩
  simp (maxSteps := 1000000) -dsimp -implicitDefEqProofs only [go_sem, ↓reduceIte, keep265, ib265, mk265, Tryz.f265, g1]
  refine ⟨by omega, ?_⟩
  rw [upd_upd]
  refine HFnF.mkH (hv.at g1 (upd h nb (rBox p sz t1 c1)) nb t1 c1 env funcs (upd_same _ _ _) (by omega) (by omega) o1 hf0 hf henv (by omega)) ?_
  rintro r h' ⟨s2, t2, c2, rfl, rfl, hs2, b1, b2, b3⟩
  rw [upd_upd]
  simp (maxSteps := 1000000) -dsimp -implicitDefEqProofs only [go_sem, ↓reduceIte, keep265, ib265, mk265, Tryz.f265, hk]
  first | refine HFnF.mk (l01Mul s1 s2 (by rw [hs1.1, hs2.1]) (by rw [hs1.1]; omega) hs1.2 hs2.2) ?_ | refine CallSF.mk (l01Mul s1 s2 (by rw [hs1.1, hs2.1]) (by rw [hs1.1]; omega) hs1.2 hs2.2) ?_ | refine HFnF.mkAt (l01Mul s1 s2 (by rw [hs1.1, hs2.1]) (by rw [hs1.1]; omega) hs1.2 hs2.2) ?_ | refine CallSF.mk (FnAt.fn0 (l01Mul s1 s2 (by rw [hs1.1, hs2.1]) (by rw [hs1.1]; omega) hs1.2 hs2.2)) ?_
  simp (maxSteps := 1000000) -dsimp -implicitDefEqProofs only [go_sem, ↓reduceIte, keep265, ib265, mk265, Tryz.f265]
  refine ⟨_, upd h nb (rBox p sz t2 c2), shift_le (Heap.le_refl _), _, t2, c2, rfl, rfl, serOK_mul _ hs1, by omega, b2, ?_⟩
  rw [evE_bin h3 (by omega) (by omega), hk]
  exact a3.thenC (b3.thenC (outR_init _ _ _))
set_option maxRecDepth 100000 in
theorem expr_6 {p : DProgram} (hp : p.ok) {sz n : Nat} (hsz : 1 ≤ sz ∧ sz ≤ 1048576) (hv : RunAt p sz n) (h : Heap) (nb st : Nat) (e : DExpr) (env : List (List Int)) (funcs : Int) (hb : h nb = some (rBox p sz st 0)) (hst : st < 3000) (hn : 3001 ≤ n + 1 + st)
    (hok : e.ok p funcs env.length) (hf0 : 0 ≤ funcs) (hf : funcs ≤ p.fFuncs.length) (henv : ∀ s ∈ env, serOK sz s) (hel : env.length ≤ 412 + st) (hk : e.fKind = 6) :
    HFn Tryz.prog 265 [.op nb 4 0 0, .ip 5 [e.c] 0 0, intss env] h (RnQ h nb p sz st 0 (evE p sz (n + 1) st e env)) := by
  have hb' := hb
  unfold rBox at hb'
  have e3 : ((st : Int) = 3000) = False := eq_false (by omega)
  have ew : IntKind.i64.wrap ((st : Int) + 1) = ((st + 1 : Nat) : Int) := by rw [IntWalk.i64_in _ (by omega)]; rfl
  have hnode := (DExpr.ok_iff _ _ _ _).1 hok
  have h3 : ¬ st = 3000 := by omega
  have hlen := kids_len hok (by omega)
  rw [hk, show kidsN 6 = 2 from rfl] at hlen
  have g0 : e.fKids[Int.toNat 0]? = some (e.kid 0) := DExpr.kid_get (by omega)
  have g1 : e.fKids[Int.toNat 1]? = some (e.kid 1) := DExpr.kid_get (by omega)
  have o0 := DExpr.kid_ok hok (i := 0) (by omega)
  have o1 := DExpr.kid_ok hok (i := 1) (by omega)
  rw [moreV_ne (by omega)] at o0 o1
  rw [DExpr.c_eq]
  refine fnKF 186 keep265 ib265 mk265 mix Tryz.func265 rfl (by kernel_rfl) (by simp) ?_
  simp (maxSteps := 1000000) -dsimp -implicitDefEqProofs only [go_sem, ↓reduceIte, keep265, ib265, mk265, Tryz.f265, hb', e3, ew, hk, g0]
  refine ⟨by omega, ?_⟩
  refine HFnF.mkH (hv.at g0 (upd h nb (rBox p sz (st + 1) 0)) nb (st + 1) 0 env funcs (upd_same _ _ _) (by omega) (by omega) o0 hf0 hf henv (by omega)) ?_
  rintro r h' ⟨s1, t1, c1, rfl, rfl, hs1, a1, a2, a3⟩
  simp (maxSteps := 1000000) -dsimp -implicitDefEqProofs only [go_sem, ↓reduceIte, keep265, ib265, mk265, Tryz.f265, g1]
  refine ⟨by omega, ?_⟩
  rw [upd_upd]
  refine HFnF.mkH (hv.at g1 (upd h nb (rBox p sz t1 c1)) nb t1 c1 env funcs (upd_same _ _ _) (by omega) (by omega) o1 hf0 hf henv (by omega)) ?_
  rintro r h' ⟨s2, t2, c2, rfl, rfl, hs2, b1, b2, b3⟩
  rw [upd_upd]
  have gs : s2[Int.toNat 0]? = some (s2.getD 0 0) := getD_get (by rw [hs2.1]; omega)
  simp (maxSteps := 1000000) -dsimp -implicitDefEqProofs only [go_sem, ↓reduceIte, keep265, ib265, mk265, Tryz.f265, hk, rBox, gs]
  refine ⟨fun hc => ?_, fun hc => ?_⟩
  · subst hc
    refine ⟨by rw [hs2.1]; omega, fun hz => ?_, fun hz => ?_⟩
    · refine HFnF.mkH (failS (upd h nb (rBox p sz t2 0)) nb p sz t2 0 6 (upd_same _ _ _) hsz.2) ?_
      rintro r h' ⟨rfl, rfl⟩
      simp (maxSteps := 1000000) -dsimp -implicitDefEqProofs only [go_sem, ↓reduceIte, keep265, ib265, mk265, Tryz.f265]
      refine ⟨_, upd h nb (rBox p sz t2 6), shift_le (by rw [upd_upd]; exact Heap.le_refl _), _, t2, 6, rfl, rfl, serOK_const num_zero, by omega, b2, ?_⟩
      rw [evE_bin h3 (by omega) (by omega), hk]
      refine a3.thenC (b3.thenC ?_)
      have : opE 6 [s1, s2] t2 = .error 6 := by rw [opE, if_neg (by decide), if_neg (by decide), if_neg (by decide), if_neg (by decide)]; exact if_pos hz
      rw [runE_zero, this]
      exact outR_err _ _ (by decide)
    · refine HFnF.mk (l01Div s1 s2 (by rw [hs1.1, hs2.1]) (by rw [hs1.1]; omega) (by rw [hs1.1]; omega) hs1.2 hs2.2) ?_
      simp (maxSteps := 1000000) -dsimp -implicitDefEqProofs only [go_sem, ↓reduceIte, keep265, ib265, mk265, Tryz.f265]
      refine ⟨_, upd h nb (rBox p sz t2 0), shift_le (Heap.le_refl _), _, t2, 0, rfl, rfl, serOK_div _ hs1, by omega, b2, ?_⟩
      rw [evE_bin h3 (by omega) (by omega), hk]
      refine a3.thenC (b3.thenC ?_)
      have : opE 6 [s1, s2] t2 = .ok (divL s1 s2, t2) := by rw [opE, if_neg (by decide), if_neg (by decide), if_neg (by decide), if_neg (by decide)]; exact if_neg hz
      rw [runE_zero, this]
      exact outR_ok _ _
  · refine HFnF.mkH (failS (upd h nb (rBox p sz t2 c2)) nb p sz t2 c2 6 (upd_same _ _ _) hsz.2) ?_
    rintro r h' ⟨rfl, rfl⟩
    simp (maxSteps := 1000000) -dsimp -implicitDefEqProofs only [go_sem, ↓reduceIte, keep265, ib265, mk265, Tryz.f265]
    refine ⟨_, upd h nb (rBox p sz t2 c2), shift_le (by rw [upd_upd, if_neg hc]; exact Heap.le_refl _), _, t2, c2, rfl, rfl, serOK_const num_zero, by omega, b2, ?_⟩
    rw [evE_bin h3 (by omega) (by omega), hk]
    exact a3.thenC (b3.thenC (by rw [runE_ne _ hc]; exact outR_err _ _ hc))
theorem run {p : DProgram} (hp : p.ok) {sz : Nat} (hsz : 1 ≤ sz ∧ sz ≤ 1048576) : ∀ n, RunAt p sz n
  | 0 => fun h nb st c e env funcs hb hst hn => by omega
  | n + 1 => fun h nb st c e env funcs hb hst hn hok hf0 hf henv hel => by
    have hv := run hp hsz n
    by_cases hs : ¬ c = 0 ∨ st = 3000
    · exact expr_stop hsz h nb st c e env hb hst hs
    have hc : c = 0 := Classical.byContradiction fun q => hs (.inl q)
    have h3 : st < 3000 := by
      rcases Nat.lt_or_ge st 3000 with h | h
      · exact h
      · exact absurd (.inr (by omega)) hs
    subst hc
    rcases node_kind ((DExpr.ok_iff _ _ _ _).1 hok).1 with hk | hk | hk | hk | hk | hk | hk | hk | hk | hk | hk
    · exact expr_1 hp hsz hv h nb st e env funcs hb h3 hn hok hf0 hf henv hel hk
    · exact expr_2 hp hsz hv h nb st e env funcs hb h3 hn hok hf0 hf henv hel hk
    · exact expr_3 hp hsz hv h nb st e env funcs hb h3 hn hok hf0 hf henv hel hk
    · exact expr_4 hp hsz hv h nb st e env funcs hb h3 hn hok hf0 hf henv hel hk
    · exact expr_5 hp hsz hv h nb st e env funcs hb h3 hn hok hf0 hf henv hel hk
    · exact expr_6 hp hsz hv h nb st e env funcs hb h3 hn hok hf0 hf henv hel hk
    · exact expr_7 hp hsz hv h nb st e env funcs hb h3 hn hok hf0 hf henv hel hk
    · exact expr_8 hp hsz hv h nb st e env funcs hb h3 hn hok hf0 hf henv hel hk
    · exact expr_9 hp hsz hv h nb st e env funcs hb h3 hn hok hf0 hf henv hel hk
    · exact expr_10 hp hsz hv h nb st e env funcs hb h3 hn hok hf0 hf henv hel hk
    · exact expr_11 hp hsz hv h nb st e env funcs hb h3 hn hok hf0 hf henv hel hk
open Go.Proofs
set_option linter.unusedVariables false
set_option linter.unusedSimpArgs false
/-- A row of this function's own is given up with what is handed back. -/
theorem shift_seal {h h' : Heap} {n sz : Nat} {x r : HVal} (es : List (List HVal)) (h0 : h n = none) (hl : (upd h n (.row sz (es.map (List.map .v)))).le h') (hb : sealOK n sz es.length x = true) (hr : x.sealUp n es = r) : Shift x h' r h := by
  subst hr
  refine (Shift.of (Sub.refl _) hl).trans ((Shift.sealUp (upd_same _ _ _) (by rw [List.length_map]; exact hb)).trans ?_)
  rw [valRows_map]
  exact shift_le ((le_upd h0).2 ((le_upd h0).2 (Heap.le_refl h)))
/-- A row of this function's own is given away with a call of a function that hands back one value. -/
theorem HFnF.give0 {P : Program} {f : FuncId} {args args' : List HVal} {h : Heap} {K : HVal → Heap → Prop} {t : Tag K} {r : HVal} {n sz : Nat} {es : List (List HVal)} (a : Fn0 P f args' r) (hb : sealOKL n sz es.length args = true) (he : sealL n es args = args') (k : K r (upd h n .gone)) :
    HFnF P f args (upd h n (.row sz (es.map (List.map .v)))) K t := by
  refine HFnF.give n (upd_same _ _ _) (by rw [List.length_map]; exact hb) ?_
  rw [upd_upd, valRows_map, he]
  exact Fn0.call a k
/-- The last value of a row says less. -/
theorem wk_last {h g : Heap} {b : Nat} {A : List (List Cell)} {x y : HVal} (hb : h b = some (.row 1 (A ++ [[.v x]]))) (s : Sub x y) (hg : g.le (upd h b (.row 1 (A ++ [[.v y]])))) : g.wk h :=
  Heap.wk.trans (Heap.wk_of_le hg) (Heap.wk_row (m := b) (fun q hq => upd_ne _ _ _ _ hq) hb (upd_same _ _ _) (RowsWk.sub (.cons s .nil) A))
end Go.Hl

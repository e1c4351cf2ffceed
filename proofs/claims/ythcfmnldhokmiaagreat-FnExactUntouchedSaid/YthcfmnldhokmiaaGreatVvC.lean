/-
  Contracts of functions and laws of the layer over the walk.
-/
import Derived.Test.YthcfmnldhokmiaaGreatVvB
namespace Go.Hl
open Go.Proofs
set_option linter.unusedVariables false
set_option linter.unusedSimpArgs false
def keep242 : List Nat := [0, 1, 4, 5, 6, 11, 12, 13]
def ib242 : List Nat := []
def mk242 : Marks := fun _ => ([], .nil, [])
set_option maxRecDepth 100000 in
theorem scaledN (a : List Int) (m : Int) (hm : Num m) (hl : a.length ≤ 1048576) (ha : Nums a) : FnN Tryz.prog 242 [sls 1 (fun n => [I n]) a, I m] (QS (OS (oP I) 1 (sclL a m))) := by
  refine fnNF 27 keep242 ib242 mk242 mix Tryz.func242 rfl (by kernel_rfl) (by simp) fun h => ?_
  simp (maxSteps := 1000000) -dsimp -implicitDefEqProofs only [go_sem, ↓reduceIte, keep242, ib242, mk242, Tryz.f242]
  intro _
  refine ⟨Nat.zero_lt_one, Nat.le_refl _, by omega, by omega, fun n hn _ => ?_⟩
  have hc := sclL_len a m
  rw [rowZero]
  refine loopRow (keep := keep242) (ib := ib242) (mk := mk242) mix (by kernel_rfl) (fun k : Nat => [(0, sls 1 (fun n => [I n]) a), (1, I m), (5, .os n 1 0 a.length), (11, I a.length), (12, I k)]) n (fun k => .row 1 (((upL (sclL a m) k).map fun n => [I n]).map (List.map .v))) (fun k => k ≤ a.length) (fun k => a.length - k) 0 ⟨by simp [SatL, tget], by rw [upd_same, upL_zero, hc], Nat.zero_le _⟩ ?_
  intro k hk
  rcases Nat.lt_or_ge k a.length with hlt | hge
  · have ea : a[k]? = some a[k] := List.getElem?_eq_getElem hlt
    have eu := upL_get (c := sclL a m) (k := k) (by omega)
    have el := upL_len (sclL a m) (k := k) (by omega)
    simp (maxSteps := 1000000) -dsimp -implicitDefEqProofs only [go_sem, ↓reduceIte, keep242, ib242, mk242, Tryz.f242, upd_upd, hlt, ea, eu, el, hc]
    have h1 := num_mul (ha _ (List.getElem_mem hlt)) hm
    refine ⟨k + 1, by rw [IntWalk.i64_in _ (by omega)]; rfl, ?_, by omega, by omega⟩
    have hv : (sclL a m)[k]'(by omega) = a[k] * m % 1000003 := by simp [sclL]
    rw [wmod h1.1 (by omega), ← upL_set (by omega), hv, ← rowSet I]
    exact Heap.le_refl _
  · have hk' : k = a.length := by omega
    subst hk'
    simp (maxSteps := 1000000) -dsimp -implicitDefEqProofs only [go_sem, ↓reduceIte, keep242, ib242, mk242, Tryz.f242, upd_upd, Nat.lt_irrefl]
    have hu : upL (sclL a m) a.length = sclL a m := by rw [← hc]; exact upL_all _
    rw [hu, show a.length = (sclL a m).length from hc.symm]
    exact own_row hn
theorem seal1 {P : Program} {f : FuncId} {args : List HVal} {l : List Int} (a : FnN P f args (QS (OS (oP I) 1 l))) : Fn0 P f args (sls 1 (fun n => [I n]) l) := QS.fn0 a (fun y hy => OS.dat (c := fun n => [I n]) (fun _ _ q => oP_dat q) hy)
theorem scaled (a : List Int) (m : Int) (hm : Num m) (hl : a.length ≤ 1048576) (ha : Nums a) : Fn0 Tryz.prog 242 [sls 1 (fun n => [I n]) a, I m] (sls 1 (fun n => [I n]) (sclL a m)) := seal1 (scaledN a m hm hl ha)
theorem addedS (a b : List Int) (hab : b.length = a.length) (hl : a.length ≤ 1048576) (ha : Nums a) (hb : Nums b) : Fn0 Tryz.prog 90 [sls 1 (fun n => [I n]) a, sls 1 (fun n => [I n]) b] (sls 1 (fun n => [I n]) (addL a b)) := seal1 (added a b hab hl (nums_lt ha) (nums_lt hb))
def keep225 : List Nat := [0, 1, 4]
def ib225 : List Nat := []
def mk225 : Marks := fun _ => ([], .nil, [])
theorem reducedN (a b : List Int) (hab : b.length = a.length) (hl : a.length ≤ 1048576) (ha : Nums a) (hb : Nums b) : FnN Tryz.prog 225 [sls 1 (fun n => [I n]) a, sls 1 (fun n => [I n]) b] (QS (OS (oP I) 1 (subL a b))) := by
  refine fnNF 9 keep225 ib225 mk225 mix Tryz.func225 rfl (by kernel_rfl) (by simp) fun h => ?_
  simp (maxSteps := 1000000) -dsimp -implicitDefEqProofs only [go_sem, ↓reduceIte, keep225, ib225, mk225, Tryz.f225]
  first | refine HFnF.mk (scaled b 1000002 (by unfold Num; omega) (by omega) hb) ?_ | refine CallSF.mk (scaled b 1000002 (by unfold Num; omega) (by omega) hb) ?_ | refine HFnF.mkAt (scaled b 1000002 (by unfold Num; omega) (by omega) hb) ?_ | refine CallSF.mk (FnAt.fn0 (scaled b 1000002 (by unfold Num; omega) (by omega) hb)) ?_
  simp (maxSteps := 1000000) -dsimp -implicitDefEqProofs only [go_sem, ↓reduceIte, keep225, ib225, mk225, Tryz.f225]
  refine HFnF.wn0 (added a (sclL b 1000002) (by rw [sclL_len]; exact hab) hl (nums_lt ha) (nums_lt (serOK_scl _ ⟨rfl, hb⟩).2)) ?_
  rintro r l g ⟨y, oy, rfl, rfl⟩ wn
  simp (maxSteps := 1000000) -dsimp -implicitDefEqProofs only [go_sem, ↓reduceIte, keep225, ib225, mk225, Tryz.f225, oy.flat, oy.one]
  exact ⟨_, g, _, shift_self _ _, ⟨y, oy, rfl, rfl⟩, wn⟩
theorem reduced (a b : List Int) (hab : b.length = a.length) (hl : a.length ≤ 1048576) (ha : Nums a) (hb : Nums b) : Fn0 Tryz.prog 225 [sls 1 (fun n => [I n]) a, sls 1 (fun n => [I n]) b] (sls 1 (fun n => [I n]) (subL a b)) := seal1 (reducedN a b hab hl ha hb)
def keep281 : List Nat := [0, 1, 4]
def ib281 : List Nat := []
def mk281 : Marks := fun _ => ([], .nil, [])
theorem minus (a b : Int) : Fn0 Tryz.prog 281 [I a, I b] (I ((a - b) % 1000003)) := by
  refine fn0F 10 keep281 ib281 mk281 mix Tryz.func281 rfl (by kernel_rfl) (by simp) fun h => ?_
  simp (maxSteps := 1000000) -dsimp -implicitDefEqProofs only [go_sem, ↓reduceIte, keep281, ib281, mk281, Tryz.f281]
  first | refine HFnF.mk (Residue b) ?_ | refine CallSF.mk (Residue b) ?_ | refine HFnF.mkAt (Residue b) ?_ | refine CallSF.mk (FnAt.fn0 (Residue b)) ?_
  simp (maxSteps := 1000000) -dsimp -implicitDefEqProofs only [go_sem, ↓reduceIte, keep281, ib281, mk281, Tryz.f281]
  rw [IntWalk.i64_in _ (by omega)]
  first | refine HFnF.mk (Plus a (1000003 - b % 1000003)) ?_ | refine CallSF.mk (Plus a (1000003 - b % 1000003)) ?_ | refine HFnF.mkAt (Plus a (1000003 - b % 1000003)) ?_ | refine CallSF.mk (FnAt.fn0 (Plus a (1000003 - b % 1000003))) ?_
  simp (maxSteps := 1000000) -dsimp -implicitDefEqProofs only [go_sem, ↓reduceIte, keep281, ib281, mk281, Tryz.f281]
  omega
def keep91 : List Nat := [0, 1, 4, 5, 6, 7, 12, 13, 14, 18]
def ib91 : List Nat := []
def mk91 : Marks := fun id => match id with | 8 => ([5, 20], (.op 0 (.op 1 (.op 2 (.op 3 (.op 4 (.op 6 (.op 7 (.op 8 (.op 9 (.op 10 (.op 11 (.op 12 (.op 13 (.op 14 (.op 15 (.op 16 (.op 5 (.op 17 (.op 18 (.op 19 (.op 20 .nil))))))))))))))))))))), []) | _ => ([], .nil, [])
set_option maxRecDepth 100000 in
theorem productN (a b : List Int) (hab : b.length = a.length) (hl : a.length ≤ 1048576) (ha : Nums a) (hb : Nums b) : FnN Tryz.prog 91 [sls 1 (fun n => [I n]) a, sls 1 (fun n => [I n]) b] (QS (OS (oP I) 1 (mulL a b))) := by
  refine fnNF 43 keep91 ib91 mk91 mix Tryz.func91 rfl (by kernel_rfl) (by simp) fun h => ?_
  simp (maxSteps := 1000000) -dsimp -implicitDefEqProofs only [go_sem, ↓reduceIte, keep91, ib91, mk91, Tryz.f91]
  intro _
  refine ⟨Nat.zero_lt_one, Nat.le_refl _, by omega, by omega, fun n hn _ => ?_⟩
  have hc := mulL_len a b
  rw [rowZero]
  refine loopRow (keep := keep91) (ib := ib91) (mk := mk91) mix (by kernel_rfl) (fun k : Nat => [(0, sls 1 (fun n => [I n]) a), (1, sls 1 (fun n => [I n]) b), (5, .os n 1 0 a.length), (12, I a.length), (13, I k)]) n (fun k => .row 1 (((upL (mulL a b) k).map fun n => [I n]).map (List.map .v))) (fun k => k ≤ a.length) (fun k => a.length - k) 0 ⟨by simp [SatL, tget], by rw [upd_same, upL_zero, hc], Nat.zero_le _⟩ ?_
  intro k hk
  rcases Nat.lt_or_ge k a.length with hlt | hge
  · simp (maxSteps := 1000000) -dsimp -implicitDefEqProofs only [go_sem, ↓reduceIte, keep91, ib91, mk91, Tryz.f91, upd_upd, hlt]
    refine loopRow (keep := keep91) (ib := ib91) (mk := mk91) mix (by kernel_rfl) (fun i : Nat => [(0, sls 1 (fun n => [I n]) a), (1, sls 1 (fun n => [I n]) b), (5, .os n 1 0 a.length), (6, I k), (7, I i), (12, I a.length), (13, I k)]) n (fun i => .row 1 ((((upL (mulL a b) k).set k (cvS a b k i)).map fun n => [I n]).map (List.map .v))) (fun i => i ≤ k + 1) (fun i => k + 1 - i) 0 ⟨by simp [SatL, tget], by rw [upd_same, cvS, upL_set0 (by omega)], Nat.zero_le _⟩ ?_
    intro i hi
    have el : ((upL (mulL a b) k).set k (cvS a b k i)).length = a.length := by rw [List.length_set, upL_len _ (by omega), hc]
    have eu : ((upL (mulL a b) k).set k (cvS a b k i))[k]? = some (cvS a b k i) := by rw [List.getElem?_set_self (by rw [List.length_set] at el; omega)]
    rcases Nat.lt_or_ge i (k + 1) with hlt2 | hge2
    · have ea := getD_get (l := a) (i := i) (by omega)
      have eb := getD_get (l := b) (i := k - i) (by omega)
      have ew : IntKind.i64.wrap ((k : Int) - (i : Int)) = ((k - i : Nat) : Int) := by rw [IntWalk.i64_in _ (by omega)]; omega
      simp (maxSteps := 1000000) -dsimp -implicitDefEqProofs only [go_sem, ↓reduceIte, keep91, ib91, mk91, Tryz.f91, upd_upd, hlt, ea, eb, eu, el, hc, ew]
      refine ⟨fun _ => ⟨by omega, by omega, i + 1, by rw [IntWalk.i64_in _ (by omega)]; rfl, ?_, by omega, by omega⟩, fun q => absurd (by omega) q⟩
      have h1 := num_mul (ha.get i) (hb.get (k - i))
      have h2 := num_cv a b k i
      unfold Num at h2
      rw [IntWalk.i64_in (a.getD i 0 * b.getD (k - i) 0) (by omega), wmod (by omega) (by omega), show (upL (mulL a b) k).set k (cvS a b k (i + 1)) = ((upL (mulL a b) k).set k (cvS a b k i)).set k ((cvS a b k i + a.getD i 0 * b.getD (k - i) 0) % 1000003) by rw [List.set_set, cvS], ← rowSet I]
      exact Heap.le_refl _
    · have hi' : i = k + 1 := by omega
      subst hi'
      simp (maxSteps := 1000000) -dsimp -implicitDefEqProofs only [go_sem, ↓reduceIte, keep91, ib91, mk91, Tryz.f91, upd_upd, hlt]
      refine ⟨fun q => absurd q (by omega), fun _ => ⟨k + 1, by rw [IntWalk.i64_in _ (by omega)]; rfl, ?_, by omega, by omega⟩⟩
      have hv : (mulL a b)[k]'(by omega) = cvS a b k (k + 1) := by simp [mulL]
      rw [← hv, upL_set (by omega)]
      exact Heap.le_refl _
  · have hk' : k = a.length := by omega
    subst hk'
    simp (maxSteps := 1000000) -dsimp -implicitDefEqProofs only [go_sem, ↓reduceIte, keep91, ib91, mk91, Tryz.f91, upd_upd, Nat.lt_irrefl]
    have hu : upL (mulL a b) a.length = mulL a b := by rw [← hc]; exact upL_all _
    rw [hu, show a.length = (mulL a b).length from hc.symm]
    exact own_row hn
theorem product (a b : List Int) (hab : b.length = a.length) (hl : a.length ≤ 1048576) (ha : Nums a) (hb : Nums b) : Fn0 Tryz.prog 91 [sls 1 (fun n => [I n]) a, sls 1 (fun n => [I n]) b] (sls 1 (fun n => [I n]) (mulL a b)) := seal1 (productN a b hab hl ha hb)
def keep245 : List Nat := [0, 1, 4, 5, 6, 8, 12, 17]
def ib245 : List Nat := []
def mk245 : Marks := fun _ => ([], .nil, [])
set_option maxRecDepth 100000 in
theorem Power (a n : Int) (hn : 0 ≤ n) (hn2 : n ≤ 4294967296) : Fn0 Tryz.prog 245 [I a, I n] (I (pwN (a % 1000003) n.toNat)) := by
  refine fn0F 27 keep245 ib245 mk245 mix Tryz.func245 rfl (by kernel_rfl) (by simp) fun h => ?_
  simp (maxSteps := 1000000) -dsimp -implicitDefEqProofs only [go_sem, ↓reduceIte, keep245, ib245, mk245, Tryz.f245]
  refine ⟨fun q => absurd q (by omega), fun _ => ?_⟩
  first | refine HFnF.mk (Residue a) ?_ | refine CallSF.mk (Residue a) ?_ | refine HFnF.mkAt (Residue a) ?_ | refine CallSF.mk (FnAt.fn0 (Residue a)) ?_
  simp (maxSteps := 1000000) -dsimp -implicitDefEqProofs only [go_sem, ↓reduceIte, keep245, ib245, mk245, Tryz.f245]
  generalize hT : pwN (a % 1000003) n.toNat = T
  refine loopSame (keep := keep245) (ib := ib245) (mk := mk245) mix (by kernel_rfl) (fun x : Int × Int × Int => [(1, I x.2.2), (5, I x.1), (6, I x.2.1)]) (fun x => (0 ≤ x.1 ∧ x.1 < 1000003) ∧ (0 ≤ x.2.1 ∧ x.2.1 < 1000003) ∧ (0 ≤ x.2.2 ∧ x.2.2 ≤ 4294967296) ∧ x.1 * x.2.1 ^ x.2.2.toNat % 1000003 = T) (fun x => x.2.2.toNat) (1, a % 1000003, n) ⟨by simp [SatL, tget], ⟨by simp, by simp⟩, modP _, ⟨hn, hn2⟩, by rw [Int.one_mul]; exact hT⟩ ?_
  rintro ⟨x, b, m⟩ ⟨hx, hb, hm, hp⟩
  simp only at hx hb hm hp ⊢
  simp (maxSteps := 1000000) -dsimp -implicitDefEqProofs only [go_sem, ↓reduceIte, keep245, ib245, mk245, Tryz.f245]
  have h1 := num_mul (x := x) (y := b) (by unfold Num; omega) (by unfold Num; omega)
  have h2 := num_mul (x := b) (y := b) (by unfold Num; omega) (by unfold Num; omega)
  rw [Int.tmod_eq_emod_of_nonneg hm.1, Int.tdiv_eq_ediv_of_nonneg hm.1, IntWalk.i64_in (m / 2) (by omega), wmod h1.1 (by omega), wmod h2.1 (by omega)]
  refine ⟨fun hg => ⟨fun ho => ⟨(x * b % 1000003, b * b % 1000003, m / 2), ⟨rfl, rfl, rfl⟩, ⟨modP _, modP _, (show 0 ≤ m / 2 ∧ m / 2 ≤ 4294967296 by omega), pw_odd hm.1 ho hp⟩, by simp only; omega⟩, fun ho => ⟨(x, b * b % 1000003, m / 2), ⟨rfl, rfl, rfl⟩, ⟨hx, modP _, (show 0 ≤ m / 2 ∧ m / 2 ≤ 4294967296 by omega), pw_even hm.1 ho hp⟩, by simp only; omega⟩⟩, fun hg => ?_⟩
  have : m.toNat = 0 := by omega
  rw [this, pw_done x b hx] at hp
  exact hp
def keep177 : List Nat := [0, 2]
def ib177 : List Nat := []
def mk177 : Marks := fun _ => ([], .nil, [])
theorem inverse (a : Int) : Fn0 Tryz.prog 177 [I a] (I (invN a)) := by
  refine fn0F 5 keep177 ib177 mk177 mix Tryz.func177 rfl (by kernel_rfl) (by simp) fun h => ?_
  simp (maxSteps := 1000000) -dsimp -implicitDefEqProofs only [go_sem, ↓reduceIte, keep177, ib177, mk177, Tryz.f177]
  first | refine HFnF.mk (Power a 1000001 (by decide) (by decide)) ?_ | refine CallSF.mk (Power a 1000001 (by decide) (by decide)) ?_ | refine HFnF.mkAt (Power a 1000001 (by decide) (by decide)) ?_ | refine CallSF.mk (FnAt.fn0 (Power a 1000001 (by decide) (by decide))) ?_
  simp (maxSteps := 1000000) -dsimp -implicitDefEqProofs only [go_sem, ↓reduceIte, keep177, ib177, mk177, Tryz.f177]
  rfl
def keep243 : List Nat := [0, 1, 4, 5, 6, 7, 8, 9, 18, 19, 20, 28]
def ib243 : List Nat := []
def mk243 : Marks := fun id => match id with | 1 => ([2], (.op 0 (.op 1 (.op 3 (.op 4 (.op 5 (.op 6 (.op 2 (.op 7 (.op 8 .nil))))))))), []) | 9 => ([4], (.op 0 (.op 1 (.op 2 (.op 3 (.op 5 (.op 6 (.op 7 (.op 8 (.op 9 (.op 10 (.op 4 (.op 11 (.op 12 (.op 13 .nil)))))))))))))), []) | _ => ([], .nil, [])
set_option maxRecDepth 100000 in
theorem quotientN (a b : List Int) (hab : b.length = a.length) (hl : a.length ≤ 1048576) (h0 : 0 < a.length) (ha : Nums a) (hb : Nums b) : FnN Tryz.prog 243 [sls 1 (fun n => [I n]) a, sls 1 (fun n => [I n]) b] (QS (OS (oP I) 1 (divL a b))) := by
  have e0 : b[Int.toNat 0]? = some (b.getD 0 0) := getD_get (l := b) (i := 0) (by omega)
  refine fnNF 53 keep243 ib243 mk243 mix Tryz.func243 rfl (by kernel_rfl) (by simp) fun h => ?_
  simp (maxSteps := 1000000) -dsimp -implicitDefEqProofs only [go_sem, ↓reduceIte, keep243, ib243, mk243, Tryz.f243, e0]
  refine ⟨by omega, ?_⟩
  first | refine HFnF.mk (inverse (b.getD 0 0)) ?_ | refine CallSF.mk (inverse (b.getD 0 0)) ?_ | refine HFnF.mkAt (inverse (b.getD 0 0)) ?_ | refine CallSF.mk (FnAt.fn0 (inverse (b.getD 0 0))) ?_
  simp (maxSteps := 1000000) -dsimp -implicitDefEqProofs only [go_sem, ↓reduceIte, keep243, ib243, mk243, Tryz.f243]
  refine ⟨Nat.zero_lt_one, Nat.le_refl _, by omega, by omega, fun n hn _ => ?_⟩
  have hc := divL_len a b
  rw [rowZero]
  refine loopRow (keep := keep243) (ib := ib243) (mk := mk243) mix (by kernel_rfl) (fun k : Nat => [(0, sls 1 (fun n => [I n]) a), (1, sls 1 (fun n => [I n]) b), (5, .os n 1 0 a.length), (6, I (invN (b.getD 0 0))), (18, I a.length), (19, I k)]) n (fun k => .row 1 (((upL (divL a b) k).map fun n => [I n]).map (List.map .v))) (fun k => k ≤ a.length) (fun k => a.length - k) 0 ⟨by simp [SatL, tget], by rw [upd_same, upL_zero, hc], Nat.zero_le _⟩ ?_
  intro k hk
  rcases Nat.lt_or_ge k a.length with hlt | hge
  · have ek := getD_get hlt
    simp (maxSteps := 1000000) -dsimp -implicitDefEqProofs only [go_sem, ↓reduceIte, keep243, ib243, mk243, Tryz.f243, upd_upd, hlt, ek]
    refine loopSame (keep := keep243) (ib := ib243) (mk := mk243) mix (by kernel_rfl) (fun i : Nat => [(0, sls 1 (fun n => [I n]) a), (1, sls 1 (fun n => [I n]) b), (5, .os n 1 0 a.length), (6, I (invN (b.getD 0 0))), (7, I k), (8, I (dvS (divN a b k) b k (a.getD k 0) i)), (9, I i), (18, I a.length), (19, I k)]) (fun i => i ≤ k) (fun i => k - i) 0 ⟨by simp [SatL, tget, dvS], Nat.zero_le _⟩ ?_
    intro i hi
    have el := upL_len (divL a b) (k := k) (by omega)
    have eu := upL_get (c := divL a b) (k := k) (by omega)
    rcases Nat.lt_or_ge i k with hlt2 | hge2
    · have ei := upL_div_get (a := a) (b := b) (i := i) hk hlt2
      have eb := getD_get (l := b) (i := k - i) (by omega)
      have ew : IntKind.i64.wrap ((k : Int) - (i : Int)) = ((k - i : Nat) : Int) := by rw [IntWalk.i64_in _ (by omega)]; omega
      simp (maxSteps := 1000000) -dsimp -implicitDefEqProofs only [go_sem, ↓reduceIte, keep243, ib243, mk243, Tryz.f243, upd_upd, hlt2, ei, eb, el, hc, ew]
      have h1 := num_mul ((nums_div a b k).get i) (hb.get (k - i))
      refine ⟨by omega, by omega, ?_⟩
      rw [IntWalk.i64_in _ (by omega)]
      first | refine HFnF.mk (minus (dvS (divN a b k) b k (a.getD k 0) i) ((divN a b k).getD i 0 * b.getD (k - i) 0)) ?_ | refine CallSF.mk (minus (dvS (divN a b k) b k (a.getD k 0) i) ((divN a b k).getD i 0 * b.getD (k - i) 0)) ?_ | refine HFnF.mkAt (minus (dvS (divN a b k) b k (a.getD k 0) i) ((divN a b k).getD i 0 * b.getD (k - i) 0)) ?_ | refine CallSF.mk (FnAt.fn0 (minus (dvS (divN a b k) b k (a.getD k 0) i) ((divN a b k).getD i 0 * b.getD (k - i) 0))) ?_
      simp (maxSteps := 1000000) -dsimp -implicitDefEqProofs only [go_sem, ↓reduceIte, keep243, ib243, mk243, Tryz.f243, upd_upd, hlt2, ei, eb, el, hc, ew]
      exact ⟨i + 1, ⟨rfl, by rw [IntWalk.i64_in _ (by omega)]; rfl⟩, by omega, by omega⟩
    · have hi' : i = k := by omega
      subst hi'
      simp (maxSteps := 1000000) -dsimp -implicitDefEqProofs only [go_sem, ↓reduceIte, keep243, ib243, mk243, Tryz.f243, upd_upd, Nat.lt_irrefl, hlt, eu, el, hc]
      have h1 := num_mul (num_dv (divN a b i) b i (ha.get i) i) (num_inv (b.getD 0 0))
      refine ⟨i + 1, by rw [IntWalk.i64_in _ (by omega)]; rfl, ?_, by omega, by omega⟩
      rw [wmod h1.1 (by omega), ← divL_get hlt, ← upL_set (by omega), ← rowSet I]
      exact Heap.le_refl _
  · have hk' : k = a.length := by omega
    subst hk'
    simp (maxSteps := 1000000) -dsimp -implicitDefEqProofs only [go_sem, ↓reduceIte, keep243, ib243, mk243, Tryz.f243, upd_upd, Nat.lt_irrefl]
    have hu : upL (divL a b) a.length = divL a b := by rw [← hc]; exact upL_all _
    rw [hu, show a.length = (divL a b).length from hc.symm]
    exact own_row hn
theorem quotient (a b : List Int) (hab : b.length = a.length) (hl : a.length ≤ 1048576) (h0 : 0 < a.length) (ha : Nums a) (hb : Nums b) : Fn0 Tryz.prog 243 [sls 1 (fun n => [I n]) a, sls 1 (fun n => [I n]) b] (sls 1 (fun n => [I n]) (divL a b)) := seal1 (quotientN a b hab hl h0 ha hb)
/-- A row of numbers of this function's own, handed back. -/
theorem shift_ints {h h' : Heap} {n : Nat} (l : List Int) (h0 : h n = none) (hl : (upd h n (.row 1 ((l.map fun n => [I n]).map (List.map .v)))).le h') {len : Nat} (e : len = l.length) : Shift (.os n 1 0 len) h' (sls 1 (fun n => [I n]) l) h :=
  shift_row (l.map fun n => [I n]) h0 hl len (by rw [List.length_map]; exact e)
theorem constL_len (n : Int) (sz : Nat) : (constL n sz).length = sz := by simp [constL]
theorem rep_get {sz : Nat} {x : List HVal} (h : 0 < sz) : (List.replicate sz x)[Int.toNat 0]? = some x := by
  show (List.replicate sz x)[0]? = some x
  rw [List.getElem?_replicate, if_pos h]
theorem rowConst (n : Int) (sz : Nat) : ((List.replicate sz [HVal.int .i64 0]).map (List.map Cell.v)).set 0 [Cell.v (I n)] = ((constL n sz).map fun n => [I n]).map (List.map .v) := by
  rw [rowZero, constL, rowSet I]
def keep300 : List Nat := [0, 1, 4, 5]
def ib300 : List Nat := []
def mk300 : Marks := fun _ => ([], .nil, [])
set_option maxRecDepth 100000 in
theorem constantI (h : Heap) (nb : Nat) (c0 c2 c3 : Cell) (n : Int) (sz : Nat) (hb : h nb = some (.row 4 [[c0, .v (I ((sz : Int) - 1)), c2, c3]])) (ho : 1 ≤ sz ∧ sz ≤ 1048576) : HFn Tryz.prog 300 [.op nb 4 0 0, I n] h fun r h' => r = sls 1 (fun n => [I n]) (constL n sz) ∧ h' = h := by
  have e1 : IntKind.i64.wrap ((sz : Int) - 1 + 1) = (sz : Int) := by rw [IntWalk.i64_in _ (by omega)]; omega
  have e2 := rep_get (x := [HVal.int .i64 0]) ho.1
  refine fnKF 16 keep300 ib300 mk300 mix Tryz.func300 rfl (by kernel_rfl) (by simp) ?_
  simp (maxSteps := 1000000) -dsimp -implicitDefEqProofs only [go_sem, ↓reduceIte, keep300, ib300, mk300, Tryz.f300, hb, e1, Int.toNat_natCast, e2]
  refine ⟨Nat.zero_lt_one, by omega, by omega, by omega, fun m hm => ⟨by omega, ?_⟩⟩
  rw [upd_upd, show Int.toNat 0 = 0 from rfl, rowConst]
  exact ⟨_, h, shift_ints _ hm (Heap.le_refl _) (constL_len n sz).symm, rfl, rfl⟩
open Go.Proofs
set_option linter.unusedVariables false
set_option linter.unusedSimpArgs false
def evBox (p : DProgram) (sz st : Nat) (c : Int) : HObj := .row 4 [[.v (sls 3 DFunc.c p.fFuncs), .v (I ((sz : Int) - 1)), .v (I st), .v (I c)]]
abbrev intss (l : List (List Int)) : HVal := sls 1 (fun s => [ints s]) l
/-- What an evaluation of one expression makes of the box of the evaluation. -/
def EvQ (h : Heap) (nb : Nat) (p : DProgram) (sz st : Nat) (c : Int) (X : Out (List Int)) : HVal → Heap → Prop := fun r h' => ∃ s t c', r = ints s ∧ h' = upd h nb (evBox p sz t c') ∧ serOK sz s ∧ st ≤ t ∧ t ≤ 3000 ∧ outR (runE c X) s t c'
def EvQL (h : Heap) (nb : Nat) (p : DProgram) (sz st : Nat) (c : Int) (n : Nat) (X : Out (List (List Int))) : HVal → Heap → Prop := fun r h' => ∃ l t c', r = intss l ∧ h' = upd h nb (evBox p sz t c') ∧ l.length = n ∧ (∀ s ∈ l, serOK sz s) ∧ st ≤ t ∧ t ≤ 3000 ∧ outR (runE c X) l t c'
def keep272 : List Nat := [0, 1, 2, 4, 6, 7, 8, 13, 20, 34, 35, 41, 48, 59, 74, 102, 106, 107, 126, 138, 159, 168, 177, 186, 197]
def ib272 : List Nat := [4, 90]
def mk272 : Marks := fun id => match id with | 17 => ([6, 13, 15, 16], (.op 0 (.op 1 (.op 2 (.op 3 (.op 4 (.op 5 (.op 7 (.op 8 (.op 9 (.op 10 (.op 11 (.op 12 (.op 6 (.op 13 (.op 14 (.op 15 (.op 16 (.op 17 .nil)))))))))))))))))), []) | 23 => ([5, 16], (.op 0 (.op 1 (.op 2 (.op 3 (.op 4 (.op 6 (.op 7 (.op 11 (.op 12 (.op 15 (.op 5 (.op 8 (.op 9 (.op 10 (.op 13 (.op 14 (.op 16 (.op 17 .nil)))))))))))))))))), []) | 28 => ([5, 12], (.op 0 (.op 1 (.op 2 (.op 3 (.op 4 (.op 6 (.op 7 (.op 11 (.op 5 (.op 8 (.op 9 (.op 10 (.op 12 (.op 13 .nil)))))))))))))), []) | 31 => ([6], (.op 0 (.op 1 (.op 2 (.op 3 (.op 4 (.op 5 (.op 6 (.op 7 .nil)))))))), []) | 33 => ([6], (.op 0 (.op 1 (.op 2 (.op 3 (.op 4 (.op 5 (.op 6 (.op 7 .nil)))))))), []) | 35 => ([6], (.op 0 (.op 1 (.op 2 (.op 3 (.op 4 (.op 5 (.op 6 (.op 7 .nil)))))))), []) | 41 => ([6], (.op 0 (.op 1 (.op 2 (.op 3 (.op 4 (.op 5 (.op 6 (.op 7 .nil)))))))), []) | _ => ([], .nil, [])
def ValueAt (p : DProgram) (sz n : Nat) : Prop := ∀ (h : Heap) (nb st : Nat) (c : Int) (e : DExpr) (env : List (List Int)) (funcs : Int), h nb = some (evBox p sz st c) → st ≤ 3000 → 3001 ≤ n + st → e.ok p funcs env.length → 0 ≤ funcs → funcs ≤ p.fFuncs.length → (∀ s ∈ env, serOK sz s) → env.length ≤ 412 + st →
  HFn Tryz.prog 272 [.op nb 4 0 0, .agg e.c, intss env] h (EvQ h nb p sz st c (evE p sz n st e env))
def keep230 : List Nat := [0, 1, 2, 6, 7, 9, 11, 12, 13, 14]
def ib230 : List Nat := [10, 22]
def mk230 : Marks := fun _ => ([], .nil, [])
set_option maxRecDepth 100000 in
theorem all_of {p : DProgram} {sz n : Nat} (hv : ValueAt p sz n) (h : Heap) (nb st : Nat) (c : Int) (l : List DExpr) (env : List (List Int)) (funcs : Int) (hb : h nb = some (evBox p sz st c)) (hst : st ≤ 3000) (hn : 3001 ≤ n + st)
    (hl : l.length ≤ 1048576) (hok : ∀ e ∈ l, e.ok p funcs env.length) (hf0 : 0 ≤ funcs) (hf : funcs ≤ p.fFuncs.length) (henv : ∀ s ∈ env, serOK sz s) (hel : env.length ≤ 412 + st) :
    HFn Tryz.prog 230 [.op nb 4 0 0, sls 5 DExpr.c l, intss env] h (EvQL h nb p sz st c l.length (seqE (fun t e => evE p sz n t e env) l st)) := by
  refine fnKF 26 keep230 ib230 mk230 mix Tryz.func230 rfl (by kernel_rfl) (by simp) ?_
  simp (maxSteps := 1000000) -dsimp -implicitDefEqProofs only [go_sem, ↓reduceIte, keep230, ib230, mk230, Tryz.f230]
  refine ⟨Nat.zero_lt_one, fun _ => ?_⟩
  refine loopF (keep := keep230) (ib := ib230) (mk := mk230) mix (by kernel_rfl) (fun x : Nat × List (List Int) × Nat × Int × Option Nat => [(0, .op nb 4 0 0), (2, intss env), (7, oval 1 x.2.1.length x.2.2.2.2), (11, sls 5 DExpr.c l), (12, I l.length), (13, I x.1)]) (fun x => oheap (upd h nb (evBox p sz x.2.2.1 x.2.2.2.1)) (.row 1 ((x.2.1.map fun s => [ints s]).map (List.map .v))) x.2.2.2.2) (fun x => x.1 ≤ l.length ∧ x.2.1.length = x.1 ∧ (∀ s ∈ x.2.1, serOK sz s) ∧ st ≤ x.2.2.1 ∧ x.2.2.1 ≤ 3000 ∧ outR (runE c (seqE (fun t e => evE p sz n t e env) (l.take x.1) st)) x.2.1 x.2.2.1 x.2.2.2.1 ∧ oside h x.2.1 x.2.2.2.2) (fun x => l.length - x.1) (0, [], st, c, none) ⟨by simp [SatL, tget, oval], by simp only [oheap_none]; rw [upd_self hb]; exact Heap.le_refl _, Nat.zero_le _, rfl, by simp, Nat.le_refl _, hst, outR_init _ _ _, rfl⟩ ?_
  rintro ⟨k, vs, t, c', o⟩ ⟨hk, hvl, hvs, ht0, ht, ho, hos⟩
  simp only at hk hvl hvs ht0 ht ho hos ⊢
  rcases Nat.lt_or_ge k l.length with hlt | hge
  · have ek : l[k]? = some l[k] := List.getElem?_eq_getElem hlt
    have hnext : ∀ (s : List Int) (t2 : Nat) (c2 : Int), outR (runE c' (evE p sz n t l[k] env)) s t2 c2 → outR (runE c (seqE (fun t e => evE p sz n t e env) (l.take (k + 1)) st)) (vs ++ [s]) t2 c2 := fun s t2 c2 h3 => by
      rw [List.take_succ_eq_append_getElem hlt, seqE_snoc]
      exact ho.thenC (h3.thenC (outR_init _ _ _))
    have hall : ∀ s, serOK sz s → ∀ x ∈ vs ++ [s], serOK sz x := fun s hs x hx => by
      rcases List.mem_append.1 hx with hx | hx
      · exact hvs x hx
      · rw [List.mem_singleton.1 hx]; exact hs
    cases o with
    | none =>
      rw [oside_none] at hos
      subst hos
      simp (maxSteps := 1000000) -dsimp -implicitDefEqProofs only [go_sem, ↓reduceIte, keep230, ib230, mk230, Tryz.f230, oval_none, oheap_none, hlt, ek, DExpr.c_eq]
      intro m9 q_m9
      have d_m9_nb : ¬ m9 = nb := by first | exact q_m9.1 | exact q_m9 | exact q_m9.2.1 | exact q_m9.2 | exact q_m9.2.2.1 | exact q_m9.2.2 | exact q_m9.2.2.2.1 | exact q_m9.2.2.2 | exact q_m9.2.2.2.2.1 | exact q_m9.2.2.2.2 | exact q_m9.2.2.2.2.2.1 | exact q_m9.2.2.2.2.2 | exact q_m9.2.2.2.2.2.2.1 | exact q_m9.2.2.2.2.2.2 | exact q_m9.2.2.2.2.2.2.2.1 | exact q_m9.2.2.2.2.2.2.2 | exact q_m9.2.2.2.2.2.2.2.2.1 | exact q_m9.2.2.2.2.2.2.2.2 | exact q_m9.2.2.2.2.2.2.2.2.2.1 | exact q_m9.2.2.2.2.2.2.2.2.2 | exact q_m9.2.2.2.2.2.2.2.2.2.2.1 | exact q_m9.2.2.2.2.2.2.2.2.2.2 | exact q_m9.2.2.2.2.2.2.2.2.2.2.2.1 | exact q_m9.2.2.2.2.2.2.2.2.2.2.2 | exact q_m9.2.2.2.2.2.2.2.2.2.2.2.2.1 | exact q_m9.2.2.2.2.2.2.2.2.2.2.2.2 | exact q_m9.2.2.2.2.2.2.2.2.2.2.2.2.2.1 | exact q_m9.2.2.2.2.2.2.2.2.2.2.2.2.2
      have e_m9_nb : (m9 = nb) = False := eq_false d_m9_nb
      have e_nb_m9 : (nb = m9) = False := eq_false (Ne.symm d_m9_nb)
      have d_nb_m9 : ¬ nb = m9 := Ne.symm d_m9_nb
      have z_m9 : h m9 = none := by first | exact q_m9.1 | exact q_m9 | exact q_m9.2.1 | exact q_m9.2 | exact q_m9.2.2.1 | exact q_m9.2.2 | exact q_m9.2.2.2.1 | exact q_m9.2.2.2 | exact q_m9.2.2.2.2.1 | exact q_m9.2.2.2.2 | exact q_m9.2.2.2.2.2.1 | exact q_m9.2.2.2.2.2 | exact q_m9.2.2.2.2.2.2.1 | exact q_m9.2.2.2.2.2.2 | exact q_m9.2.2.2.2.2.2.2.1 | exact q_m9.2.2.2.2.2.2.2 | exact q_m9.2.2.2.2.2.2.2.2.1 | exact q_m9.2.2.2.2.2.2.2.2 | exact q_m9.2.2.2.2.2.2.2.2.2.1 | exact q_m9.2.2.2.2.2.2.2.2.2 | exact q_m9.2.2.2.2.2.2.2.2.2.2.1 | exact q_m9.2.2.2.2.2.2.2.2.2.2 | exact q_m9.2.2.2.2.2.2.2.2.2.2.2.1 | exact q_m9.2.2.2.2.2.2.2.2.2.2.2 | exact q_m9.2.2.2.2.2.2.2.2.2.2.2.2.1 | exact q_m9.2.2.2.2.2.2.2.2.2.2.2.2 | exact q_m9.2.2.2.2.2.2.2.2.2.2.2.2.2.1 | exact q_m9.2.2.2.2.2.2.2.2.2.2.2.2.2
      rw [upd_upd]
      have hvk := hv (upd (upd h nb (evBox p sz t c')) m9 (.row 5 [l[k].c.map .v])) nb t c' l[k] env funcs (by rw [upd_ne _ _ _ _ d_nb_m9, upd_same]) ht (by omega) (hok _ (List.getElem_mem _)) hf0 hf henv (by omega)
      rw [DExpr.c_eq] at hvk
      refine HFnF.mkH hvk ?_
      rintro r h' ⟨s, t2, c2, rfl, rfl, hs, h1, h2, h3⟩
      simp (maxSteps := 1000000) -dsimp -implicitDefEqProofs only [go_sem, ↓reduceIte, keep230, ib230, mk230, Tryz.f230]
      refine ⟨Nat.zero_lt_one, Nat.zero_lt_one, Nat.zero_lt_one, ?_⟩
      intro b q_b
      have d_b_nb : ¬ b = nb := by first | exact q_b.1 | exact q_b | exact q_b.2.1 | exact q_b.2 | exact q_b.2.2.1 | exact q_b.2.2 | exact q_b.2.2.2.1 | exact q_b.2.2.2 | exact q_b.2.2.2.2.1 | exact q_b.2.2.2.2 | exact q_b.2.2.2.2.2.1 | exact q_b.2.2.2.2.2 | exact q_b.2.2.2.2.2.2.1 | exact q_b.2.2.2.2.2.2 | exact q_b.2.2.2.2.2.2.2.1 | exact q_b.2.2.2.2.2.2.2 | exact q_b.2.2.2.2.2.2.2.2.1 | exact q_b.2.2.2.2.2.2.2.2 | exact q_b.2.2.2.2.2.2.2.2.2.1 | exact q_b.2.2.2.2.2.2.2.2.2 | exact q_b.2.2.2.2.2.2.2.2.2.2.1 | exact q_b.2.2.2.2.2.2.2.2.2.2 | exact q_b.2.2.2.2.2.2.2.2.2.2.2.1 | exact q_b.2.2.2.2.2.2.2.2.2.2.2 | exact q_b.2.2.2.2.2.2.2.2.2.2.2.2.1 | exact q_b.2.2.2.2.2.2.2.2.2.2.2.2 | exact q_b.2.2.2.2.2.2.2.2.2.2.2.2.2.1 | exact q_b.2.2.2.2.2.2.2.2.2.2.2.2.2
      have e_b_nb : (b = nb) = False := eq_false d_b_nb
      have e_nb_b : (nb = b) = False := eq_false (Ne.symm d_b_nb)
      have d_nb_b : ¬ nb = b := Ne.symm d_b_nb
      have d_b_m9 : ¬ b = m9 := by first | exact q_b.1 | exact q_b | exact q_b.2.1 | exact q_b.2 | exact q_b.2.2.1 | exact q_b.2.2 | exact q_b.2.2.2.1 | exact q_b.2.2.2 | exact q_b.2.2.2.2.1 | exact q_b.2.2.2.2 | exact q_b.2.2.2.2.2.1 | exact q_b.2.2.2.2.2 | exact q_b.2.2.2.2.2.2.1 | exact q_b.2.2.2.2.2.2 | exact q_b.2.2.2.2.2.2.2.1 | exact q_b.2.2.2.2.2.2.2 | exact q_b.2.2.2.2.2.2.2.2.1 | exact q_b.2.2.2.2.2.2.2.2 | exact q_b.2.2.2.2.2.2.2.2.2.1 | exact q_b.2.2.2.2.2.2.2.2.2 | exact q_b.2.2.2.2.2.2.2.2.2.2.1 | exact q_b.2.2.2.2.2.2.2.2.2.2 | exact q_b.2.2.2.2.2.2.2.2.2.2.2.1 | exact q_b.2.2.2.2.2.2.2.2.2.2.2 | exact q_b.2.2.2.2.2.2.2.2.2.2.2.2.1 | exact q_b.2.2.2.2.2.2.2.2.2.2.2.2 | exact q_b.2.2.2.2.2.2.2.2.2.2.2.2.2.1 | exact q_b.2.2.2.2.2.2.2.2.2.2.2.2.2
      have e_b_m9 : (b = m9) = False := eq_false d_b_m9
      have e_m9_b : (m9 = b) = False := eq_false (Ne.symm d_b_m9)
      have d_m9_b : ¬ m9 = b := Ne.symm d_b_m9
      have z_b : h b = none := by first | exact q_b.1 | exact q_b | exact q_b.2.1 | exact q_b.2 | exact q_b.2.2.1 | exact q_b.2.2 | exact q_b.2.2.2.1 | exact q_b.2.2.2 | exact q_b.2.2.2.2.1 | exact q_b.2.2.2.2 | exact q_b.2.2.2.2.2.1 | exact q_b.2.2.2.2.2 | exact q_b.2.2.2.2.2.2.1 | exact q_b.2.2.2.2.2.2 | exact q_b.2.2.2.2.2.2.2.1 | exact q_b.2.2.2.2.2.2.2 | exact q_b.2.2.2.2.2.2.2.2.1 | exact q_b.2.2.2.2.2.2.2.2 | exact q_b.2.2.2.2.2.2.2.2.2.1 | exact q_b.2.2.2.2.2.2.2.2.2 | exact q_b.2.2.2.2.2.2.2.2.2.2.1 | exact q_b.2.2.2.2.2.2.2.2.2.2 | exact q_b.2.2.2.2.2.2.2.2.2.2.2.1 | exact q_b.2.2.2.2.2.2.2.2.2.2.2 | exact q_b.2.2.2.2.2.2.2.2.2.2.2.2.1 | exact q_b.2.2.2.2.2.2.2.2.2.2.2.2 | exact q_b.2.2.2.2.2.2.2.2.2.2.2.2.2.1 | exact q_b.2.2.2.2.2.2.2.2.2.2.2.2.2
      refine ⟨(k + 1, [s], t2, c2, some b), ⟨rfl, by rw [IntWalk.i64_in _ (by omega)]; rfl⟩, (leX_nil (by repeat' (first | exact leX_refl _ _ | refine leX_put (by simp only [upd_apply, ↓reduceIte, eq_self, if_true, e_nb_m9, e_nb_b, e_m9_nb, e_m9_b, e_b_nb, e_b_m9, List.map_cons, List.map_nil]) ?_ | refine leX_strip (by first | exact .inr (by assumption) | exact .inl (by simp)) ?_))), ⟨by omega, by simp only [List.length_nil] at hvl; subst hvl; rfl, fun x hx => hall s hs x hx, Nat.le_trans ht0 h1, h2, hnext s t2 c2 h3, z_b⟩, by simp only; omega⟩
    | some m =>
      rw [oside_some] at hos
      have d_m_nb : ¬ m = nb := fun e => by rw [e, hb] at hos; cases hos
      have d_nb_m : ¬ nb = m := Ne.symm d_m_nb
      have e_m_nb : (m = nb) = False := eq_false d_m_nb
      have e_nb_m : (nb = m) = False := eq_false d_nb_m
      simp (maxSteps := 1000000) -dsimp -implicitDefEqProofs only [go_sem, ↓reduceIte, keep230, ib230, mk230, Tryz.f230, oval_some, oheap_some, hlt, ek, DExpr.c_eq]
      intro m9 q_m9
      have d_m9_m : ¬ m9 = m := by first | exact q_m9.1 | exact q_m9 | exact q_m9.2.1 | exact q_m9.2 | exact q_m9.2.2.1 | exact q_m9.2.2 | exact q_m9.2.2.2.1 | exact q_m9.2.2.2 | exact q_m9.2.2.2.2.1 | exact q_m9.2.2.2.2 | exact q_m9.2.2.2.2.2.1 | exact q_m9.2.2.2.2.2 | exact q_m9.2.2.2.2.2.2.1 | exact q_m9.2.2.2.2.2.2 | exact q_m9.2.2.2.2.2.2.2.1 | exact q_m9.2.2.2.2.2.2.2 | exact q_m9.2.2.2.2.2.2.2.2.1 | exact q_m9.2.2.2.2.2.2.2.2 | exact q_m9.2.2.2.2.2.2.2.2.2.1 | exact q_m9.2.2.2.2.2.2.2.2.2 | exact q_m9.2.2.2.2.2.2.2.2.2.2.1 | exact q_m9.2.2.2.2.2.2.2.2.2.2 | exact q_m9.2.2.2.2.2.2.2.2.2.2.2.1 | exact q_m9.2.2.2.2.2.2.2.2.2.2.2 | exact q_m9.2.2.2.2.2.2.2.2.2.2.2.2.1 | exact q_m9.2.2.2.2.2.2.2.2.2.2.2.2 | exact q_m9.2.2.2.2.2.2.2.2.2.2.2.2.2.1 | exact q_m9.2.2.2.2.2.2.2.2.2.2.2.2.2
      have e_m9_m : (m9 = m) = False := eq_false d_m9_m
      have e_m_m9 : (m = m9) = False := eq_false (Ne.symm d_m9_m)
      have d_m_m9 : ¬ m = m9 := Ne.symm d_m9_m
      have d_m9_nb : ¬ m9 = nb := by first | exact q_m9.1 | exact q_m9 | exact q_m9.2.1 | exact q_m9.2 | exact q_m9.2.2.1 | exact q_m9.2.2 | exact q_m9.2.2.2.1 | exact q_m9.2.2.2 | exact q_m9.2.2.2.2.1 | exact q_m9.2.2.2.2 | exact q_m9.2.2.2.2.2.1 | exact q_m9.2.2.2.2.2 | exact q_m9.2.2.2.2.2.2.1 | exact q_m9.2.2.2.2.2.2 | exact q_m9.2.2.2.2.2.2.2.1 | exact q_m9.2.2.2.2.2.2.2 | exact q_m9.2.2.2.2.2.2.2.2.1 | exact q_m9.2.2.2.2.2.2.2.2 | exact q_m9.2.2.2.2.2.2.2.2.2.1 | exact q_m9.2.2.2.2.2.2.2.2.2 | exact q_m9.2.2.2.2.2.2.2.2.2.2.1 | exact q_m9.2.2.2.2.2.2.2.2.2.2 | exact q_m9.2.2.2.2.2.2.2.2.2.2.2.1 | exact q_m9.2.2.2.2.2.2.2.2.2.2.2 | exact q_m9.2.2.2.2.2.2.2.2.2.2.2.2.1 | exact q_m9.2.2.2.2.2.2.2.2.2.2.2.2 | exact q_m9.2.2.2.2.2.2.2.2.2.2.2.2.2.1 | exact q_m9.2.2.2.2.2.2.2.2.2.2.2.2.2
      have e_m9_nb : (m9 = nb) = False := eq_false d_m9_nb
      have e_nb_m9 : (nb = m9) = False := eq_false (Ne.symm d_m9_nb)
      have d_nb_m9 : ¬ nb = m9 := Ne.symm d_m9_nb
      have z_m9 : h m9 = none := by first | exact q_m9.1 | exact q_m9 | exact q_m9.2.1 | exact q_m9.2 | exact q_m9.2.2.1 | exact q_m9.2.2 | exact q_m9.2.2.2.1 | exact q_m9.2.2.2 | exact q_m9.2.2.2.2.1 | exact q_m9.2.2.2.2 | exact q_m9.2.2.2.2.2.1 | exact q_m9.2.2.2.2.2 | exact q_m9.2.2.2.2.2.2.1 | exact q_m9.2.2.2.2.2.2 | exact q_m9.2.2.2.2.2.2.2.1 | exact q_m9.2.2.2.2.2.2.2 | exact q_m9.2.2.2.2.2.2.2.2.1 | exact q_m9.2.2.2.2.2.2.2.2 | exact q_m9.2.2.2.2.2.2.2.2.2.1 | exact q_m9.2.2.2.2.2.2.2.2.2 | exact q_m9.2.2.2.2.2.2.2.2.2.2.1 | exact q_m9.2.2.2.2.2.2.2.2.2.2 | exact q_m9.2.2.2.2.2.2.2.2.2.2.2.1 | exact q_m9.2.2.2.2.2.2.2.2.2.2.2 | exact q_m9.2.2.2.2.2.2.2.2.2.2.2.2.1 | exact q_m9.2.2.2.2.2.2.2.2.2.2.2.2 | exact q_m9.2.2.2.2.2.2.2.2.2.2.2.2.2.1 | exact q_m9.2.2.2.2.2.2.2.2.2.2.2.2.2
      rw [upd_upd]
      have hvk := hv (upd (upd (upd h nb (evBox p sz t c')) m (.row 1 ((vs.map fun s => [ints s]).map (List.map .v)))) m9 (.row 5 [l[k].c.map .v])) nb t c' l[k] env funcs (by rw [upd_ne _ _ _ _ d_nb_m9, upd_ne _ _ _ _ d_nb_m, upd_same]) ht (by omega) (hok _ (List.getElem_mem _)) hf0 hf henv (by omega)
      rw [DExpr.c_eq] at hvk
      refine HFnF.mkH hvk ?_
      rintro r h' ⟨s, t2, c2, rfl, rfl, hs, h1, h2, h3⟩
      simp (maxSteps := 1000000) -dsimp -implicitDefEqProofs only [go_sem, ↓reduceIte, keep230, ib230, mk230, Tryz.f230, upd_ne, e_m_nb, e_m_m9, e_nb_m, e_nb_m9, e_m9_m, e_m9_nb]
      refine ⟨Nat.zero_lt_one, Nat.zero_lt_one, Nat.zero_lt_one, Nat.le_refl _, by omega, by omega, ?_⟩
      intro b q_b
      have d_b_nb : ¬ b = nb := by first | exact q_b.1 | exact q_b | exact q_b.2.1 | exact q_b.2 | exact q_b.2.2.1 | exact q_b.2.2 | exact q_b.2.2.2.1 | exact q_b.2.2.2 | exact q_b.2.2.2.2.1 | exact q_b.2.2.2.2 | exact q_b.2.2.2.2.2.1 | exact q_b.2.2.2.2.2 | exact q_b.2.2.2.2.2.2.1 | exact q_b.2.2.2.2.2.2 | exact q_b.2.2.2.2.2.2.2.1 | exact q_b.2.2.2.2.2.2.2 | exact q_b.2.2.2.2.2.2.2.2.1 | exact q_b.2.2.2.2.2.2.2.2 | exact q_b.2.2.2.2.2.2.2.2.2.1 | exact q_b.2.2.2.2.2.2.2.2.2 | exact q_b.2.2.2.2.2.2.2.2.2.2.1 | exact q_b.2.2.2.2.2.2.2.2.2.2 | exact q_b.2.2.2.2.2.2.2.2.2.2.2.1 | exact q_b.2.2.2.2.2.2.2.2.2.2.2 | exact q_b.2.2.2.2.2.2.2.2.2.2.2.2.1 | exact q_b.2.2.2.2.2.2.2.2.2.2.2.2 | exact q_b.2.2.2.2.2.2.2.2.2.2.2.2.2.1 | exact q_b.2.2.2.2.2.2.2.2.2.2.2.2.2
      have e_b_nb : (b = nb) = False := eq_false d_b_nb
      have e_nb_b : (nb = b) = False := eq_false (Ne.symm d_b_nb)
      have d_nb_b : ¬ nb = b := Ne.symm d_b_nb
      have d_b_m9 : ¬ b = m9 := by first | exact q_b.1 | exact q_b | exact q_b.2.1 | exact q_b.2 | exact q_b.2.2.1 | exact q_b.2.2 | exact q_b.2.2.2.1 | exact q_b.2.2.2 | exact q_b.2.2.2.2.1 | exact q_b.2.2.2.2 | exact q_b.2.2.2.2.2.1 | exact q_b.2.2.2.2.2 | exact q_b.2.2.2.2.2.2.1 | exact q_b.2.2.2.2.2.2 | exact q_b.2.2.2.2.2.2.2.1 | exact q_b.2.2.2.2.2.2.2 | exact q_b.2.2.2.2.2.2.2.2.1 | exact q_b.2.2.2.2.2.2.2.2 | exact q_b.2.2.2.2.2.2.2.2.2.1 | exact q_b.2.2.2.2.2.2.2.2.2 | exact q_b.2.2.2.2.2.2.2.2.2.2.1 | exact q_b.2.2.2.2.2.2.2.2.2.2 | exact q_b.2.2.2.2.2.2.2.2.2.2.2.1 | exact q_b.2.2.2.2.2.2.2.2.2.2.2 | exact q_b.2.2.2.2.2.2.2.2.2.2.2.2.1 | exact q_b.2.2.2.2.2.2.2.2.2.2.2.2 | exact q_b.2.2.2.2.2.2.2.2.2.2.2.2.2.1 | exact q_b.2.2.2.2.2.2.2.2.2.2.2.2.2
      have e_b_m9 : (b = m9) = False := eq_false d_b_m9
      have e_m9_b : (m9 = b) = False := eq_false (Ne.symm d_b_m9)
      have d_m9_b : ¬ m9 = b := Ne.symm d_b_m9
      have d_b_m : ¬ b = m := by first | exact q_b.1 | exact q_b | exact q_b.2.1 | exact q_b.2 | exact q_b.2.2.1 | exact q_b.2.2 | exact q_b.2.2.2.1 | exact q_b.2.2.2 | exact q_b.2.2.2.2.1 | exact q_b.2.2.2.2 | exact q_b.2.2.2.2.2.1 | exact q_b.2.2.2.2.2 | exact q_b.2.2.2.2.2.2.1 | exact q_b.2.2.2.2.2.2 | exact q_b.2.2.2.2.2.2.2.1 | exact q_b.2.2.2.2.2.2.2 | exact q_b.2.2.2.2.2.2.2.2.1 | exact q_b.2.2.2.2.2.2.2.2 | exact q_b.2.2.2.2.2.2.2.2.2.1 | exact q_b.2.2.2.2.2.2.2.2.2 | exact q_b.2.2.2.2.2.2.2.2.2.2.1 | exact q_b.2.2.2.2.2.2.2.2.2.2 | exact q_b.2.2.2.2.2.2.2.2.2.2.2.1 | exact q_b.2.2.2.2.2.2.2.2.2.2.2 | exact q_b.2.2.2.2.2.2.2.2.2.2.2.2.1 | exact q_b.2.2.2.2.2.2.2.2.2.2.2.2 | exact q_b.2.2.2.2.2.2.2.2.2.2.2.2.2.1 | exact q_b.2.2.2.2.2.2.2.2.2.2.2.2.2
      have e_b_m : (b = m) = False := eq_false d_b_m
      have e_m_b : (m = b) = False := eq_false (Ne.symm d_b_m)
      have d_m_b : ¬ m = b := Ne.symm d_b_m
      have z_b : h b = none := by first | exact q_b.1 | exact q_b | exact q_b.2.1 | exact q_b.2 | exact q_b.2.2.1 | exact q_b.2.2 | exact q_b.2.2.2.1 | exact q_b.2.2.2 | exact q_b.2.2.2.2.1 | exact q_b.2.2.2.2 | exact q_b.2.2.2.2.2.1 | exact q_b.2.2.2.2.2 | exact q_b.2.2.2.2.2.2.1 | exact q_b.2.2.2.2.2.2 | exact q_b.2.2.2.2.2.2.2.1 | exact q_b.2.2.2.2.2.2.2 | exact q_b.2.2.2.2.2.2.2.2.1 | exact q_b.2.2.2.2.2.2.2.2 | exact q_b.2.2.2.2.2.2.2.2.2.1 | exact q_b.2.2.2.2.2.2.2.2.2 | exact q_b.2.2.2.2.2.2.2.2.2.2.1 | exact q_b.2.2.2.2.2.2.2.2.2.2 | exact q_b.2.2.2.2.2.2.2.2.2.2.2.1 | exact q_b.2.2.2.2.2.2.2.2.2.2.2 | exact q_b.2.2.2.2.2.2.2.2.2.2.2.2.1 | exact q_b.2.2.2.2.2.2.2.2.2.2.2.2 | exact q_b.2.2.2.2.2.2.2.2.2.2.2.2.2.1 | exact q_b.2.2.2.2.2.2.2.2.2.2.2.2.2
      refine ⟨(k + 1, vs ++ [s], t2, c2, some b), ⟨by rw [oval_some, List.length_append]; rfl, by rw [IntWalk.i64_in _ (by omega)]; rfl⟩, ?_, ⟨by omega, by rw [List.length_append, hvl]; rfl, hall s hs, Nat.le_trans ht0 h1, h2, hnext s t2 c2 h3, z_b⟩, by simp only; omega⟩
      simp only [oheap_some]
      rw [← grow_row ints]
      exact (leX_nil (by repeat' (first | exact leX_refl _ _ | refine leX_put (by simp only [upd_apply, ↓reduceIte, eq_self, if_true, e_nb_m9, e_nb_b, e_nb_m, e_m9_nb, e_m9_b, e_m9_m, e_b_nb, e_b_m9, e_b_m, e_m_nb, e_m_m9, e_m_b]) ?_ | refine leX_strip (by first | exact .inr (by assumption) | exact .inl (by simp)) ?_)))
  · have hk' : k = l.length := by omega
    subst hk'
    rw [List.take_length] at ho
    cases o with
    | none =>
      rw [oside_none] at hos
      subst hos
      simp (maxSteps := 1000000) -dsimp -implicitDefEqProofs only [go_sem, ↓reduceIte, keep230, ib230, mk230, Tryz.f230, oval_none, oheap_none, Nat.lt_irrefl]
      exact ⟨intss [], _, Shift.of (Sub.loose _ _ _) (Heap.le_refl _), [], t, c', rfl, rfl, hvl, hvs, ht0, ht, ho⟩
    | some m =>
      rw [oside_some] at hos
      simp (maxSteps := 1000000) -dsimp -implicitDefEqProofs only [go_sem, ↓reduceIte, keep230, ib230, mk230, Tryz.f230, oval_some, oheap_some, Nat.lt_irrefl]
      have hmn : ¬ m = nb := fun e => by rw [e, hb] at hos; cases hos
      exact ⟨intss vs, _, shift_row (vs.map fun s => [ints s]) (h := upd h nb (evBox p sz t c')) (by rw [upd_ne _ _ _ _ hmn, hos]) (Heap.le_refl _) _ (by rw [List.length_map]), vs, t, c', rfl, rfl, hvl, hvs, ht0, ht, ho⟩
open Go.Proofs
set_option linter.unusedVariables false
set_option linter.unusedSimpArgs false
theorem seal_c (m : Nat) (es : List (List HVal)) (x : DExpr) : sealL m es x.c = x.c := by rw [DExpr.c_eq]; rfl
theorem sealOK_c (m sz k : Nat) (x : DExpr) : sealOKL m sz k x.c = true := by rw [DExpr.c_eq]; rfl
/-- A row is given up in the midst of a walk. -/
theorem HWpF.give {P : Program} {N : Nat} {c : Code} {Q : Exit → Tmps → Heap → Prop} {τ : Tmps} {h : Heap} {t : Tag (c, Q)} (n : Nat) {es : List (List HVal)} (hh : h n = none) (hb : τ.all (fun p => sealOK n 1 es.length p.2) = true)
    (x : HWpF P N c Q (τ.map fun p => (p.1, p.2.sealUp n es)) (upd h n .gone) ()) : HWpF P N c Q τ (upd h n (.row 1 (es.map (List.map .v)))) t := by
  have y := HWp.sealed (c := c) (Q := Q) (τ := τ) (N := N) (P := P) (h := upd h n (.row 1 (es.map (List.map .v)))) n (sz := 1) (es := es.map (List.map .v)) (upd_same _ _ _) (by simpa using hb)
  rw [upd_upd, valRows_map] at y
  exact y x
/-- An environment of this function's own is given away with a call. -/
theorem HFnF.giveX {P : Program} {f : FuncId} {h : Heap} {K : HVal → Heap → Prop} {t : Tag K} {nb m k len : Nat} {x : HVal} {es : List (List HVal)} (hx : x.sealUp m es = x) (hx2 : sealOK m 1 es.length x = true) (hne : ¬ nb = m) (hl : len = es.length) (hm : h m = none) (a : HFn P f [.op nb k 0 0, x, .sl 1 es false] (upd h m .gone) K) :
    HFnF P f [.op nb k 0 0, x, .os m 1 0 len] (upd h m (.row 1 (es.map (List.map .v)))) K t := by
  subst hl
  refine HFnF.give m (upd_same _ _ _) (by simp [sealOKL, sealOK, hx2, hne]) ?_
  rw [upd_upd, valRows_map]
  have h1 : sealL m es [.op nb k 0 0, x, .os m 1 0 es.length] = [.op nb k 0 0, x, .sl 1 es false] := by
    simp only [sealL, HVal.sealUp, hx, if_neg hne, if_true, List.drop_zero, List.take_length]
  rw [h1]
  exact a
theorem HFnF.giveEnv {P : Program} {f : FuncId} {h : Heap} {K : HVal → Heap → Prop} {t : Tag K} {nb m k len : Nat} {e : DExpr} {es : List (List HVal)} (hne : ¬ nb = m) (hl : len = es.length) (hm : h m = none) (a : HFn P f [.op nb k 0 0, .agg e.c, .sl 1 es false] (upd h m .gone) K) :
    HFnF P f [.op nb k 0 0, .agg e.c, .os m 1 0 len] (upd h m (.row 1 (es.map (List.map .v)))) K t := by
  subst hl
  refine HFnF.give m (upd_same _ _ _) (by simp [sealOKL, sealOK, sealOK_c, hne]) ?_
  rw [upd_upd, valRows_map]
  have h1 : sealL m es [.op nb k 0 0, .agg e.c, .os m 1 0 es.length] = [.op nb k 0 0, .agg e.c, .sl 1 es false] := by
    simp only [sealL, HVal.sealUp, seal_c, if_neg hne, if_true, List.drop_zero, List.take_length]
  rw [h1]
  exact a
theorem serOK_snoc {sz : Nat} {env : List (List Int)} {s : List Int} (he : ∀ x ∈ env, serOK sz x) (hs : serOK sz s) : ∀ x ∈ env ++ [s], serOK sz x := fun x hx => by
  rcases List.mem_append.1 hx with hx | hx
  · exact he x hx
  · rw [List.mem_singleton.1 hx]; exact hs
def keep301 : List Nat := [0, 2]
def ib301 : List Nat := []
def mk301 : Marks := fun _ => ([], .nil, [])
theorem clipSS (l : List (List Int)) (hl : l.length ≤ 1048576) : Fn0 Tryz.prog 301 [intss l] (.sl 1 (l.map fun s => [ints s]) true) := by
  refine fn0F 9 keep301 ib301 mk301 mix Tryz.func301 rfl (by kernel_rfl) (by simp) fun h => ?_
  simp (maxSteps := 1000000) -dsimp -implicitDefEqProofs only [go_sem, ↓reduceIte, keep301, ib301, mk301, Tryz.f301]
  repeat' (with_reducible first | intro _ | refine And.intro ?_ ?_)
  all_goals try omega
  rw [List.take_of_length_le (by rw [List.length_map]; exact Nat.le_refl _)]
theorem num_zero : Num 0 := by unfold Num; simp
set_option maxRecDepth 100000 in
theorem value_stop {p : DProgram} {sz n : Nat} (hsz : 1 ≤ sz ∧ sz ≤ 1048576) (h : Heap) (nb st : Nat) (c : Int) (e : DExpr) (env : List (List Int)) (hb : h nb = some (evBox p sz st c)) (hst : st ≤ 3000) (hs : ¬ c = 0 ∨ st = 3000) :
    HFn Tryz.prog 272 [.op nb 4 0 0, .agg e.c, intss env] h (EvQ h nb p sz st c (evE p sz (n + 1) st e env)) := by
  rw [DExpr.c_eq]
  have hb' := hb
  unfold evBox at hb'
  refine fnKF 210 keep272 ib272 mk272 mix Tryz.func272 rfl (by kernel_rfl) (by simp) ?_
  simp (maxSteps := 1000000) -dsimp -implicitDefEqProofs only [go_sem, ↓reduceIte, keep272, ib272, mk272, Tryz.f272, hb']
  refine ⟨fun hc => ?_, fun hc => ?_⟩
  · refine HFnF.mkH (constantI _ nb _ _ _ 0 sz hb' hsz) ?_
    rintro r h' ⟨rfl, rfl⟩
    simp (maxSteps := 1000000) -dsimp -implicitDefEqProofs only [go_sem, ↓reduceIte, keep272, ib272, mk272, Tryz.f272]
    have hc' : ¬ c = 0 := by simpa using hc
    exact ⟨_, _, shift_self _ _, _, st, c, rfl, (upd_self hb).symm, serOK_const num_zero, Nat.le_refl _, hst, by rw [runE_ne _ hc']; exact outR_err _ _ hc'⟩
  · have hc0 : c = 0 := by simpa using hc
    subst hc0
    have h3 : st = 3000 := by rcases hs with hs | hs; exact absurd rfl hs; exact hs
    subst h3
    try simp (maxSteps := 1000000) -dsimp -implicitDefEqProofs only [go_sem, ↓reduceIte, keep272, ib272, mk272, Tryz.f272, hb']
    refine ⟨fun _ => ?_, fun q => absurd q (by simp)⟩
    refine HFnF.mkH (constantI _ nb _ _ _ 0 sz (upd_same _ _ _) hsz) ?_
    rintro r h' ⟨rfl, rfl⟩
    simp (maxSteps := 1000000) -dsimp -implicitDefEqProofs only [go_sem, ↓reduceIte, keep272, ib272, mk272, Tryz.f272]
    refine ⟨_, _, shift_self _ _, _, 3000, 7, rfl, rfl, serOK_const num_zero, Nat.le_refl _, hst, ?_⟩
    rw [runE_zero, evE, if_pos rfl]
    exact outR_err _ _ (by decide)
set_option maxRecDepth 100000 in
theorem value_1 {p : DProgram} (hp : p.ok) {sz n : Nat} (hsz : 1 ≤ sz ∧ sz ≤ 1048576) (hv : ValueAt p sz n) (h : Heap) (nb st : Nat) (e : DExpr) (env : List (List Int)) (funcs : Int) (hb : h nb = some (evBox p sz st 0)) (hst : st < 3000) (hn : 3001 ≤ n + 1 + st)
    (hok : e.ok p funcs env.length) (hf0 : 0 ≤ funcs) (hf : funcs ≤ p.fFuncs.length) (henv : ∀ s ∈ env, serOK sz s) (hel : env.length ≤ 412 + st) (hk : e.fKind = 1) :
    HFn Tryz.prog 272 [.op nb 4 0 0, .agg e.c, intss env] h (EvQ h nb p sz st 0 (evE p sz (n + 1) st e env)) := by
  rw [DExpr.c_eq]
  have hb' := hb
  unfold evBox at hb'
  have e3 : ((st : Int) = 3000) = False := eq_false (by omega)
  have ew : IntKind.i64.wrap ((st : Int) + 1) = ((st + 1 : Nat) : Int) := by rw [IntWalk.i64_in _ (by omega)]; rfl
  have hnode := (DExpr.ok_iff _ _ _ _).1 hok
  have h3 : ¬ st = 3000 := by omega
  have hnum : Num e.fNum := ((nodeOK_plain (by omega)).1 hnode.1).2.2.2.1 hk
  refine fnKF 210 keep272 ib272 mk272 mix Tryz.func272 rfl (by kernel_rfl) (by simp) ?_
  simp (maxSteps := 1000000) -dsimp -implicitDefEqProofs only [go_sem, ↓reduceIte, keep272, ib272, mk272, Tryz.f272, hb', e3, ew, hk]
  refine HFnF.mkH (constantI _ nb _ _ _ e.fNum sz (upd_same _ _ _) hsz) ?_
  rintro r h' ⟨rfl, rfl⟩
  simp (maxSteps := 1000000) -dsimp -implicitDefEqProofs only [go_sem, ↓reduceIte, keep272, ib272, mk272, Tryz.f272]
  refine ⟨_, _, shift_self _ _, _, st + 1, 0, rfl, rfl, serOK_const hnum, Nat.le_succ _, hst, ?_⟩
  rw [runE_zero, evE_1 h3 hk]
  exact outR_ok _ _
set_option maxRecDepth 100000 in
theorem value_2 {p : DProgram} (hp : p.ok) {sz n : Nat} (hsz : 1 ≤ sz ∧ sz ≤ 1048576) (hv : ValueAt p sz n) (h : Heap) (nb st : Nat) (e : DExpr) (env : List (List Int)) (funcs : Int) (hb : h nb = some (evBox p sz st 0)) (hst : st < 3000) (hn : 3001 ≤ n + 1 + st)
    (hok : e.ok p funcs env.length) (hf0 : 0 ≤ funcs) (hf : funcs ≤ p.fFuncs.length) (henv : ∀ s ∈ env, serOK sz s) (hel : env.length ≤ 412 + st) (hk : e.fKind = 2) :
    HFn Tryz.prog 272 [.op nb 4 0 0, .agg e.c, intss env] h (EvQ h nb p sz st 0 (evE p sz (n + 1) st e env)) := by
  rw [DExpr.c_eq]
  have hb' := hb
  unfold evBox at hb'
  have e3 : ((st : Int) = 3000) = False := eq_false (by omega)
  have ew : IntKind.i64.wrap ((st : Int) + 1) = ((st + 1 : Nat) : Int) := by rw [IntWalk.i64_in _ (by omega)]; rfl
  have hnode := (DExpr.ok_iff _ _ _ _).1 hok
  have h3 : ¬ st = 3000 := by omega
  have hnum := ((nodeOK_plain (by omega)).1 hnode.1).2.2.2.2.1 hk
  have hlt : e.fNum.toNat < env.length := by omega
  refine fnKF 210 keep272 ib272 mk272 mix Tryz.func272 rfl (by kernel_rfl) (by simp) ?_
  simp (maxSteps := 1000000) -dsimp -implicitDefEqProofs only [go_sem, ↓reduceIte, keep272, ib272, mk272, Tryz.f272, hb', e3, ew, hk, env_get hlt]
  refine ⟨hnum.1, by omega, _, _, shift_self _ _, _, st + 1, 0, rfl, rfl, serOK_get henv hlt, Nat.le_succ _, hst, ?_⟩
  rw [runE_zero, evE_2 h3 hk]
  exact outR_ok _ _
set_option maxRecDepth 100000 in
theorem value_8 {p : DProgram} (hp : p.ok) {sz n : Nat} (hsz : 1 ≤ sz ∧ sz ≤ 1048576) (hv : ValueAt p sz n) (h : Heap) (nb st : Nat) (e : DExpr) (env : List (List Int)) (funcs : Int) (hb : h nb = some (evBox p sz st 0)) (hst : st < 3000) (hn : 3001 ≤ n + 1 + st)
    (hok : e.ok p funcs env.length) (hf0 : 0 ≤ funcs) (hf : funcs ≤ p.fFuncs.length) (henv : ∀ s ∈ env, serOK sz s) (hel : env.length ≤ 412 + st) (hk : e.fKind = 8) :
    HFn Tryz.prog 272 [.op nb 4 0 0, .agg e.c, intss env] h (EvQ h nb p sz st 0 (evE p sz (n + 1) st e env)) := by
  rw [DExpr.c_eq]
  have hb' := hb
  unfold evBox at hb'
  have e3 : ((st : Int) = 3000) = False := eq_false (by omega)
  have ew : IntKind.i64.wrap ((st : Int) + 1) = ((st + 1 : Nat) : Int) := by rw [IntWalk.i64_in _ (by omega)]; rfl
  have hnode := (DExpr.ok_iff _ _ _ _).1 hok
  have h3 : ¬ st = 3000 := by omega
  have hlen := kids_len hok (by omega)
  rw [hk, show kidsN 8 = 3 from rfl] at hlen
  have g0 : e.fKids[Int.toNat 0]? = some (e.kid 0) := DExpr.kid_get (by omega)
  have g1 : e.fKids[Int.toNat 1]? = some (e.kid 1) := DExpr.kid_get (by omega)
  have g2 : e.fKids[Int.toNat 2]? = some (e.kid 2) := DExpr.kid_get (by omega)
  have o0 := DExpr.kid_ok hok (i := 0) (by omega)
  have o1 := DExpr.kid_ok hok (i := 1) (by omega)
  have o2 := DExpr.kid_ok hok (i := 2) (by omega)
  rw [moreV_ne (by omega)] at o0 o1 o2
  refine fnKF 210 keep272 ib272 mk272 mix Tryz.func272 rfl (by kernel_rfl) (by simp) ?_
  simp (maxSteps := 1000000) -dsimp -implicitDefEqProofs only [go_sem, ↓reduceIte, keep272, ib272, mk272, Tryz.f272, hb', e3, ew, hk, g0, DExpr.ld5]
  refine ⟨by omega, ?_⟩
  refine HFnF.mkH (hv (upd h nb (evBox p sz (st + 1) 0)) nb (st + 1) 0 (e.kid 0) env funcs (upd_same _ _ _) (by omega) (by omega) o0 hf0 hf henv (by omega)) ?_
  rintro r h' ⟨s1, t1, c1, rfl, rfl, hs1, a1, a2, a3⟩
  have gs : s1[Int.toNat 0]? = some (s1.getD 0 0) := getD_get (by rw [hs1.1]; omega)
  simp (maxSteps := 1000000) -dsimp -implicitDefEqProofs only [go_sem, ↓reduceIte, keep272, ib272, mk272, Tryz.f272, gs, g1, g2, DExpr.ld5]
  refine ⟨by rw [hs1.1]; omega, fun hz => ⟨by omega, ?_⟩, fun hz => ⟨by omega, ?_⟩⟩
  · rw [upd_upd]
    refine HFnF.mkH (hv (upd h nb (evBox p sz t1 c1)) nb t1 c1 (e.kid 1) env funcs (upd_same _ _ _) (by omega) (by omega) o1 hf0 hf henv (by omega)) ?_
    rintro r h' ⟨s2, t2, c2, rfl, rfl, hs2, b1, b2, b3⟩
    simp (maxSteps := 1000000) -dsimp -implicitDefEqProofs only [go_sem, ↓reduceIte, keep272, ib272, mk272, Tryz.f272]
    refine ⟨_, _, shift_self _ _, s2, t2, c2, rfl, by rw [upd_upd], hs2, by omega, b2, ?_⟩
    rw [evE_8 h3 hk]
    refine a3.thenC ?_
    rw [if_pos hz]
    exact b3
  · rw [upd_upd]
    refine HFnF.mkH (hv (upd h nb (evBox p sz t1 c1)) nb t1 c1 (e.kid 2) env funcs (upd_same _ _ _) (by omega) (by omega) o2 hf0 hf henv (by omega)) ?_
    rintro r h' ⟨s2, t2, c2, rfl, rfl, hs2, b1, b2, b3⟩
    simp (maxSteps := 1000000) -dsimp -implicitDefEqProofs only [go_sem, ↓reduceIte, keep272, ib272, mk272, Tryz.f272]
    refine ⟨_, _, shift_self _ _, s2, t2, c2, rfl, by rw [upd_upd], hs2, by omega, b2, ?_⟩
    rw [evE_8 h3 hk]
    refine a3.thenC ?_
    rw [if_neg hz]
    exact b3
set_option maxRecDepth 100000 in
theorem value_9 {p : DProgram} (hp : p.ok) {sz n : Nat} (hsz : 1 ≤ sz ∧ sz ≤ 1048576) (hv : ValueAt p sz n) (h : Heap) (nb st : Nat) (e : DExpr) (env : List (List Int)) (funcs : Int) (hb : h nb = some (evBox p sz st 0)) (hst : st < 3000) (hn : 3001 ≤ n + 1 + st)
    (hok : e.ok p funcs env.length) (hf0 : 0 ≤ funcs) (hf : funcs ≤ p.fFuncs.length) (henv : ∀ s ∈ env, serOK sz s) (hel : env.length ≤ 412 + st) (hk : e.fKind = 9) :
    HFn Tryz.prog 272 [.op nb 4 0 0, .agg e.c, intss env] h (EvQ h nb p sz st 0 (evE p sz (n + 1) st e env)) := by
  rw [DExpr.c_eq]
  have hb' := hb
  unfold evBox at hb'
  have e3 : ((st : Int) = 3000) = False := eq_false (by omega)
  have ew : IntKind.i64.wrap ((st : Int) + 1) = ((st + 1 : Nat) : Int) := by rw [IntWalk.i64_in _ (by omega)]; rfl
  have hnode := (DExpr.ok_iff _ _ _ _).1 hok
  have h3 : ¬ st = 3000 := by omega
  have hlen := kids_len hok (by omega)
  rw [hk, show kidsN 9 = 2 from rfl] at hlen
  have g0 : e.fKids[Int.toNat 0]? = some (e.kid 0) := DExpr.kid_get (by omega)
  have g1 : e.fKids[Int.toNat 1]? = some (e.kid 1) := DExpr.kid_get (by omega)
  have o0 := DExpr.kid_ok hok (i := 0) (by omega)
  have o1 := DExpr.kid_ok hok (i := 1) (by omega)
  rw [moreV_ne (by omega)] at o0
  rw [hk, show moreV 9 1 (env.length : Int) = env.length + 1 from rfl] at o1
  refine fnKF 210 keep272 ib272 mk272 mix Tryz.func272 rfl (by kernel_rfl) (by simp) ?_
  simp (maxSteps := 1000000) -dsimp -implicitDefEqProofs only [go_sem, ↓reduceIte, keep272, ib272, mk272, Tryz.f272, hb', e3, ew, hk, g0, g1, DExpr.ld5]
  refine ⟨by omega, by omega, ?_⟩
  first | refine HFnF.mk (clipSS env (by omega)) ?_ | refine CallSF.mk (clipSS env (by omega)) ?_ | refine HFnF.mkAt (clipSS env (by omega)) ?_ | refine CallSF.mk (FnAt.fn0 (clipSS env (by omega))) ?_
  simp (maxSteps := 1000000) -dsimp -implicitDefEqProofs only [go_sem, ↓reduceIte, keep272, ib272, mk272, Tryz.f272]
  refine HFnF.mkH (hv (upd h nb (evBox p sz (st + 1) 0)) nb (st + 1) 0 (e.kid 0) env funcs (upd_same _ _ _) (by omega) (by omega) o0 hf0 hf henv (by omega)) ?_
  rintro r h' ⟨s1, t1, c1, rfl, rfl, hs1, a1, a2, a3⟩
  simp (maxSteps := 1000000) -dsimp -implicitDefEqProofs only [go_sem, ↓reduceIte, keep272, ib272, mk272, Tryz.f272]
  refine ⟨Nat.zero_lt_one, Nat.zero_lt_one, Nat.zero_lt_one, by omega, by omega, ?_⟩
  intro m q_m
  have d_m_nb : ¬ m = nb := by first | exact q_m.1 | exact q_m | exact q_m.2.1 | exact q_m.2 | exact q_m.2.2.1 | exact q_m.2.2 | exact q_m.2.2.2.1 | exact q_m.2.2.2 | exact q_m.2.2.2.2.1 | exact q_m.2.2.2.2 | exact q_m.2.2.2.2.2.1 | exact q_m.2.2.2.2.2 | exact q_m.2.2.2.2.2.2.1 | exact q_m.2.2.2.2.2.2 | exact q_m.2.2.2.2.2.2.2.1 | exact q_m.2.2.2.2.2.2.2 | exact q_m.2.2.2.2.2.2.2.2.1 | exact q_m.2.2.2.2.2.2.2.2 | exact q_m.2.2.2.2.2.2.2.2.2.1 | exact q_m.2.2.2.2.2.2.2.2.2 | exact q_m.2.2.2.2.2.2.2.2.2.2.1 | exact q_m.2.2.2.2.2.2.2.2.2.2 | exact q_m.2.2.2.2.2.2.2.2.2.2.2.1 | exact q_m.2.2.2.2.2.2.2.2.2.2.2 | exact q_m.2.2.2.2.2.2.2.2.2.2.2.2.1 | exact q_m.2.2.2.2.2.2.2.2.2.2.2.2 | exact q_m.2.2.2.2.2.2.2.2.2.2.2.2.2.1 | exact q_m.2.2.2.2.2.2.2.2.2.2.2.2.2
  have e_m_nb : (m = nb) = False := eq_false d_m_nb
  have e_nb_m : (nb = m) = False := eq_false (Ne.symm d_m_nb)
  have d_nb_m : ¬ nb = m := Ne.symm d_m_nb
  have z_m : h m = none := by first | exact q_m.1 | exact q_m | exact q_m.2.1 | exact q_m.2 | exact q_m.2.2.1 | exact q_m.2.2 | exact q_m.2.2.2.1 | exact q_m.2.2.2 | exact q_m.2.2.2.2.1 | exact q_m.2.2.2.2 | exact q_m.2.2.2.2.2.1 | exact q_m.2.2.2.2.2 | exact q_m.2.2.2.2.2.2.1 | exact q_m.2.2.2.2.2.2 | exact q_m.2.2.2.2.2.2.2.1 | exact q_m.2.2.2.2.2.2.2 | exact q_m.2.2.2.2.2.2.2.2.1 | exact q_m.2.2.2.2.2.2.2.2 | exact q_m.2.2.2.2.2.2.2.2.2.1 | exact q_m.2.2.2.2.2.2.2.2.2 | exact q_m.2.2.2.2.2.2.2.2.2.2.1 | exact q_m.2.2.2.2.2.2.2.2.2.2 | exact q_m.2.2.2.2.2.2.2.2.2.2.2.1 | exact q_m.2.2.2.2.2.2.2.2.2.2.2 | exact q_m.2.2.2.2.2.2.2.2.2.2.2.2.1 | exact q_m.2.2.2.2.2.2.2.2.2.2.2.2 | exact q_m.2.2.2.2.2.2.2.2.2.2.2.2.2.1 | exact q_m.2.2.2.2.2.2.2.2.2.2.2.2.2
  rw [upd_upd]
  have hrow : env.map (fun s => [ints s]) ++ [[HVal.sl 1 (s1.map fun n => [I n]) false]] = (env ++ [s1]).map fun s => [ints s] := by rw [List.map_append]; rfl
  rw [hrow]
  refine HFnF.giveEnv d_nb_m (by rw [List.length_map, List.length_append]; rfl) (by rw [upd_ne _ _ _ _ d_m_nb]; exact z_m) ?_
  refine HFn.mono (hv (upd (upd h nb (evBox p sz t1 c1)) m .gone) nb t1 c1 (e.kid 1) (env ++ [s1]) funcs (by rw [upd_ne _ _ _ _ d_nb_m, upd_same]) (by omega) (by omega) (by rw [List.length_append]; exact o1) hf0 hf (serOK_snoc henv hs1) (by rw [List.length_append]; show env.length + 1 ≤ _; omega)) ?_
  rintro r h' ⟨s2, t2, c2, rfl, rfl, hs2, b1, b2, b3⟩
  simp (maxSteps := 1000000) -dsimp -implicitDefEqProofs only [go_sem, ↓reduceIte, keep272, ib272, mk272, Tryz.f272]
  refine ⟨_, upd h nb (evBox p sz t2 c2), shift_le (leX_nil (by repeat' (first | exact leX_refl _ _ | refine leX_put (by simp only [upd_apply, ↓reduceIte, eq_self, if_true, e_nb_m, e_m_nb]) ?_ | refine leX_strip (by first | exact .inr (by assumption) | exact .inl (by simp)) ?_))), s2, t2, c2, rfl, rfl, hs2, by omega, b2, ?_⟩
  rw [evE_9 h3 hk]
  exact a3.thenC b3
set_option maxRecDepth 100000 in
theorem value_10 {p : DProgram} (hp : p.ok) {sz n : Nat} (hsz : 1 ≤ sz ∧ sz ≤ 1048576) (hv : ValueAt p sz n) (h : Heap) (nb st : Nat) (e : DExpr) (env : List (List Int)) (funcs : Int) (hb : h nb = some (evBox p sz st 0)) (hst : st < 3000) (hn : 3001 ≤ n + 1 + st)
    (hok : e.ok p funcs env.length) (hf0 : 0 ≤ funcs) (hf : funcs ≤ p.fFuncs.length) (henv : ∀ s ∈ env, serOK sz s) (hel : env.length ≤ 412 + st) (hk : e.fKind = 10) :
    HFn Tryz.prog 272 [.op nb 4 0 0, .agg e.c, intss env] h (EvQ h nb p sz st 0 (evE p sz (n + 1) st e env)) := by
  rw [DExpr.c_eq]
  have hb' := hb
  unfold evBox at hb'
  have e3 : ((st : Int) = 3000) = False := eq_false (by omega)
  have ew : IntKind.i64.wrap ((st : Int) + 1) = ((st + 1 : Nat) : Int) := by rw [IntWalk.i64_in _ (by omega)]; rfl
  have hnode := (DExpr.ok_iff _ _ _ _).1 hok
  have h3 : ¬ st = 3000 := by omega
  obtain ⟨f, F⟩ := callsOf hp hok hf (.inl hk)
  have hkl : e.fKids.length ≤ 1048576 := by have := F.kids; have := F.params; omega
  refine fnKF 210 keep272 ib272 mk272 mix Tryz.func272 rfl (by kernel_rfl) (by simp) ?_
  simp (maxSteps := 1000000) -dsimp -implicitDefEqProofs only [go_sem, ↓reduceIte, keep272, ib272, mk272, Tryz.f272, hb', e3, ew, hk]
  refine HFnF.mkH (all_of hv (upd h nb (evBox p sz (st + 1) 0)) nb (st + 1) 0 e.fKids env funcs (upd_same _ _ _) (by omega) (by omega) hkl (kids_ok hok (by omega)) hf0 hf henv (by omega)) ?_
  rintro r h' ⟨vs, t1, c1, rfl, rfl, hvl, hvs, a1, a2, a3⟩
  simp (maxSteps := 1000000) -dsimp -implicitDefEqProofs only [go_sem, ↓reduceIte, keep272, ib272, mk272, Tryz.f272, evBox]
  refine ⟨fun hc => ?_, fun hc => ?_⟩
  · have hc' : ¬ c1 = 0 := by simpa using hc
    refine HFnF.mkH (constantI _ nb _ _ _ 0 sz (upd_same _ _ _) hsz) ?_
    rintro r h' ⟨rfl, rfl⟩
    simp (maxSteps := 1000000) -dsimp -implicitDefEqProofs only [go_sem, ↓reduceIte, keep272, ib272, mk272, Tryz.f272]
    refine ⟨_, upd h nb (evBox p sz t1 c1), shift_le (by rw [upd_upd]; exact Heap.le_refl _), _, t1, c1, rfl, rfl, serOK_const num_zero, by omega, a2, ?_⟩
    rw [evE_10 h3 hk]
    exact a3.thenC (by rw [runE_ne _ hc']; exact outR_err _ _ hc')
  · have hc' : c1 = 0 := by simpa using hc
    subst hc'
    try simp (maxSteps := 1000000) -dsimp -implicitDefEqProofs only [go_sem, ↓reduceIte, keep272, ib272, mk272, Tryz.f272, hk, F.get, F.out, DFunc.c_eq, DExpr.ld5, upd_upd]
    have f1 := F.lo
    have f2 := F.hi
    have f3 := F.pk
    have f4 := F.pk2
    have f5 := F.kids
    have f6 := F.params
    refine ⟨f1, f2, f3, by omega, ?_⟩
    refine HFnF.mkH (hv (upd h nb (evBox p sz t1 0)) nb t1 0 (p.out e.fNum e.fPick) vs e.fNum (upd_same _ _ _) (by omega) (by omega) (by rw [hvl, f5]; exact F.oks _ (List.mem_of_getElem? F.out)) f1 (by omega) hvs (by omega)) ?_
    rintro r h' ⟨s2, t2, c2, rfl, rfl, hs2, b1, b2, b3⟩
    simp (maxSteps := 1000000) -dsimp -implicitDefEqProofs only [go_sem, ↓reduceIte, keep272, ib272, mk272, Tryz.f272]
    refine ⟨_, upd h nb (evBox p sz t2 c2), shift_le (by rw [upd_upd]; exact Heap.le_refl _), s2, t2, c2, rfl, rfl, hs2, by omega, b2, ?_⟩
    rw [evE_10 h3 hk]
    exact a3.thenC b3
set_option maxRecDepth 100000 in
theorem value_7 {p : DProgram} (hp : p.ok) {sz n : Nat} (hsz : 1 ≤ sz ∧ sz ≤ 1048576) (hv : ValueAt p sz n) (h : Heap) (nb st : Nat) (e : DExpr) (env : List (List Int)) (funcs : Int) (hb : h nb = some (evBox p sz st 0)) (hst : st < 3000) (hn : 3001 ≤ n + 1 + st)
    (hok : e.ok p funcs env.length) (hf0 : 0 ≤ funcs) (hf : funcs ≤ p.fFuncs.length) (henv : ∀ s ∈ env, serOK sz s) (hel : env.length ≤ 412 + st) (hk : e.fKind = 7) :
    HFn Tryz.prog 272 [.op nb 4 0 0, .agg e.c, intss env] h (EvQ h nb p sz st 0 (evE p sz (n + 1) st e env)) := by
  rw [DExpr.c_eq]
  have hb' := hb
  unfold evBox at hb'
  have e3 : ((st : Int) = 3000) = False := eq_false (by omega)
  have ew : IntKind.i64.wrap ((st : Int) + 1) = ((st + 1 : Nat) : Int) := by rw [IntWalk.i64_in _ (by omega)]; rfl
  have hnode := (DExpr.ok_iff _ _ _ _).1 hok
  have h3 : ¬ st = 3000 := by omega
  have hlen := kids_len hok (by omega)
  rw [hk, show kidsN 7 = 1 from rfl] at hlen
  have hkl : e.fKids.length ≤ 1048576 := by omega
  refine fnKF 210 keep272 ib272 mk272 mix Tryz.func272 rfl (by kernel_rfl) (by simp) ?_
  simp (maxSteps := 1000000) -dsimp -implicitDefEqProofs only [go_sem, ↓reduceIte, keep272, ib272, mk272, Tryz.f272, hb', e3, ew, hk]
  refine HFnF.mkH (all_of hv (upd h nb (evBox p sz (st + 1) 0)) nb (st + 1) 0 e.fKids env funcs (upd_same _ _ _) (by omega) (by omega) hkl (kids_ok hok (by omega)) hf0 hf henv (by omega)) ?_
  rintro r h' ⟨vs, t1, c1, rfl, rfl, hvl, hvs, a1, a2, a3⟩
  have hv0 := serOK_get hvs (i := 0) (by omega)
  simp (maxSteps := 1000000) -dsimp -implicitDefEqProofs only [go_sem, ↓reduceIte, keep272, ib272, mk272, Tryz.f272, evBox]
  refine ⟨fun hc => ?_, fun hc => ?_⟩
  · have hc' : ¬ c1 = 0 := by simpa using hc
    refine HFnF.mkH (constantI _ nb _ _ _ 0 sz (upd_same _ _ _) hsz) ?_
    rintro r h' ⟨rfl, rfl⟩
    simp (maxSteps := 1000000) -dsimp -implicitDefEqProofs only [go_sem, ↓reduceIte, keep272, ib272, mk272, Tryz.f272]
    refine ⟨_, upd h nb (evBox p sz t1 c1), shift_le (by rw [upd_upd]; exact Heap.le_refl _), _, t1, c1, rfl, rfl, serOK_const num_zero, by omega, a2, ?_⟩
    rw [evE_op h3 (by omega)]
    exact a3.thenC (by rw [runE_ne _ hc']; exact outR_err _ _ hc')
  have hc' : c1 = 0 := by simpa using hc
  subst hc'
  have g0 : vs[Int.toNat 0]? = some (vs.getD 0 []) := env_get (by omega)
  try simp (maxSteps := 1000000) -dsimp -implicitDefEqProofs only [go_sem, ↓reduceIte, keep272, ib272, mk272, Tryz.f272, hk, upd_upd, g0]
  refine ⟨by omega, ?_⟩
  refine HFnF.mk (scaled (vs.getD 0 []) 1000002 (by unfold Num; omega) (by rw [hv0.1]; omega) hv0.2) ?_
  simp (maxSteps := 1000000) -dsimp -implicitDefEqProofs only [go_sem, ↓reduceIte, keep272, ib272, mk272, Tryz.f272]
  refine ⟨_, upd h nb (evBox p sz t1 0), shift_le (by exact Heap.le_refl _), _, t1, 0, rfl, rfl, serOK_scl _ hv0, by omega, a2, ?_⟩
  rw [evE_op h3 (by omega)]
  refine a3.thenC ?_
  rw [runE_zero, hk]
  exact outR_ok _ _
set_option maxRecDepth 100000 in
theorem value_3 {p : DProgram} (hp : p.ok) {sz n : Nat} (hsz : 1 ≤ sz ∧ sz ≤ 1048576) (hv : ValueAt p sz n) (h : Heap) (nb st : Nat) (e : DExpr) (env : List (List Int)) (funcs : Int) (hb : h nb = some (evBox p sz st 0)) (hst : st < 3000) (hn : 3001 ≤ n + 1 + st)
    (hok : e.ok p funcs env.length) (hf0 : 0 ≤ funcs) (hf : funcs ≤ p.fFuncs.length) (henv : ∀ s ∈ env, serOK sz s) (hel : env.length ≤ 412 + st) (hk : e.fKind = 3) :
    HFn Tryz.prog 272 [.op nb 4 0 0, .agg e.c, intss env] h (EvQ h nb p sz st 0 (evE p sz (n + 1) st e env)) := by
  rw [DExpr.c_eq]
  have hb' := hb
  unfold evBox at hb'
  have e3 : ((st : Int) = 3000) = False := eq_false (by omega)
  have ew : IntKind.i64.wrap ((st : Int) + 1) = ((st + 1 : Nat) : Int) := by rw [IntWalk.i64_in _ (by omega)]; rfl
  have hnode := (DExpr.ok_iff _ _ _ _).1 hok
  have h3 : ¬ st = 3000 := by omega
  have hlen := kids_len hok (by omega)
  rw [hk, show kidsN 3 = 2 from rfl] at hlen
  have hkl : e.fKids.length ≤ 1048576 := by omega
  refine fnKF 210 keep272 ib272 mk272 mix Tryz.func272 rfl (by kernel_rfl) (by simp) ?_
  simp (maxSteps := 1000000) -dsimp -implicitDefEqProofs only [go_sem, ↓reduceIte, keep272, ib272, mk272, Tryz.f272, hb', e3, ew, hk]
  refine HFnF.mkH (all_of hv (upd h nb (evBox p sz (st + 1) 0)) nb (st + 1) 0 e.fKids env funcs (upd_same _ _ _) (by omega) (by omega) hkl (kids_ok hok (by omega)) hf0 hf henv (by omega)) ?_
  rintro r h' ⟨vs, t1, c1, rfl, rfl, hvl, hvs, a1, a2, a3⟩
  have hv0 := serOK_get hvs (i := 0) (by omega)
  simp (maxSteps := 1000000) -dsimp -implicitDefEqProofs only [go_sem, ↓reduceIte, keep272, ib272, mk272, Tryz.f272, evBox]
  refine ⟨fun hc => ?_, fun hc => ?_⟩
  · have hc' : ¬ c1 = 0 := by simpa using hc
    refine HFnF.mkH (constantI _ nb _ _ _ 0 sz (upd_same _ _ _) hsz) ?_
    rintro r h' ⟨rfl, rfl⟩
    simp (maxSteps := 1000000) -dsimp -implicitDefEqProofs only [go_sem, ↓reduceIte, keep272, ib272, mk272, Tryz.f272]
    refine ⟨_, upd h nb (evBox p sz t1 c1), shift_le (by rw [upd_upd]; exact Heap.le_refl _), _, t1, c1, rfl, rfl, serOK_const num_zero, by omega, a2, ?_⟩
    rw [evE_op h3 (by omega)]
    exact a3.thenC (by rw [runE_ne _ hc']; exact outR_err _ _ hc')
  have hc' : c1 = 0 := by simpa using hc
  subst hc'
  have g0 : vs[Int.toNat 0]? = some (vs.getD 0 []) := env_get (by omega)
  have g1 : vs[Int.toNat 1]? = some (vs.getD 1 []) := env_get (by omega)
  have hv1 := serOK_get hvs (i := 1) (by omega)
  try simp (maxSteps := 1000000) -dsimp -implicitDefEqProofs only [go_sem, ↓reduceIte, keep272, ib272, mk272, Tryz.f272, hk, upd_upd, g0, g1]
  refine ⟨by omega, by omega, ?_⟩
  refine HFnF.mk (addedS (vs.getD 0 []) (vs.getD 1 []) (by rw [hv0.1, hv1.1]) (by rw [hv0.1]; omega) hv0.2 hv1.2) ?_
  simp (maxSteps := 1000000) -dsimp -implicitDefEqProofs only [go_sem, ↓reduceIte, keep272, ib272, mk272, Tryz.f272]
  refine ⟨_, upd h nb (evBox p sz t1 0), shift_le (by exact Heap.le_refl _), _, t1, 0, rfl, rfl, serOK_add hv0 hv1, by omega, a2, ?_⟩
  rw [evE_op h3 (by omega)]
  refine a3.thenC ?_
  rw [runE_zero, hk]
  exact outR_ok _ _
set_option maxRecDepth 100000 in
theorem value_4 {p : DProgram} (hp : p.ok) {sz n : Nat} (hsz : 1 ≤ sz ∧ sz ≤ 1048576) (hv : ValueAt p sz n) (h : Heap) (nb st : Nat) (e : DExpr) (env : List (List Int)) (funcs : Int) (hb : h nb = some (evBox p sz st 0)) (hst : st < 3000) (hn : 3001 ≤ n + 1 + st)
    (hok : e.ok p funcs env.length) (hf0 : 0 ≤ funcs) (hf : funcs ≤ p.fFuncs.length) (henv : ∀ s ∈ env, serOK sz s) (hel : env.length ≤ 412 + st) (hk : e.fKind = 4) :
    HFn Tryz.prog 272 [.op nb 4 0 0, .agg e.c, intss env] h (EvQ h nb p sz st 0 (evE p sz (n + 1) st e env)) := by
  rw [DExpr.c_eq]
  have hb' := hb
  unfold evBox at hb'
  have e3 : ((st : Int) = 3000) = False := eq_false (by omega)
  have ew : IntKind.i64.wrap ((st : Int) + 1) = ((st + 1 : Nat) : Int) := by rw [IntWalk.i64_in _ (by omega)]; rfl
  have hnode := (DExpr.ok_iff _ _ _ _).1 hok
  have h3 : ¬ st = 3000 := by omega
  have hlen := kids_len hok (by omega)
  rw [hk, show kidsN 4 = 2 from rfl] at hlen
  have hkl : e.fKids.length ≤ 1048576 := by omega
  refine fnKF 210 keep272 ib272 mk272 mix Tryz.func272 rfl (by kernel_rfl) (by simp) ?_
  simp (maxSteps := 1000000) -dsimp -implicitDefEqProofs only [go_sem, ↓reduceIte, keep272, ib272, mk272, Tryz.f272, hb', e3, ew, hk]
  refine HFnF.mkH (all_of hv (upd h nb (evBox p sz (st + 1) 0)) nb (st + 1) 0 e.fKids env funcs (upd_same _ _ _) (by omega) (by omega) hkl (kids_ok hok (by omega)) hf0 hf henv (by omega)) ?_
  rintro r h' ⟨vs, t1, c1, rfl, rfl, hvl, hvs, a1, a2, a3⟩
  have hv0 := serOK_get hvs (i := 0) (by omega)
  simp (maxSteps := 1000000) -dsimp -implicitDefEqProofs only [go_sem, ↓reduceIte, keep272, ib272, mk272, Tryz.f272, evBox]
  refine ⟨fun hc => ?_, fun hc => ?_⟩
  · have hc' : ¬ c1 = 0 := by simpa using hc
    refine HFnF.mkH (constantI _ nb _ _ _ 0 sz (upd_same _ _ _) hsz) ?_
    rintro r h' ⟨rfl, rfl⟩
    simp (maxSteps := 1000000) -dsimp -implicitDefEqProofs only [go_sem, ↓reduceIte, keep272, ib272, mk272, Tryz.f272]
    refine ⟨_, upd h nb (evBox p sz t1 c1), shift_le (by rw [upd_upd]; exact Heap.le_refl _), _, t1, c1, rfl, rfl, serOK_const num_zero, by omega, a2, ?_⟩
    rw [evE_op h3 (by omega)]
    exact a3.thenC (by rw [runE_ne _ hc']; exact outR_err _ _ hc')
  have hc' : c1 = 0 := by simpa using hc
  subst hc'
  have g0 : vs[Int.toNat 0]? = some (vs.getD 0 []) := env_get (by omega)
  have g1 : vs[Int.toNat 1]? = some (vs.getD 1 []) := env_get (by omega)
  have hv1 := serOK_get hvs (i := 1) (by omega)
  try simp (maxSteps := 1000000) -dsimp -implicitDefEqProofs only [go_sem, ↓reduceIte, keep272, ib272, mk272, Tryz.f272, hk, upd_upd, g0, g1]
  refine ⟨by omega, by omega, ?_⟩
  refine HFnF.mk (reduced (vs.getD 0 []) (vs.getD 1 []) (by rw [hv0.1, hv1.1]) (by rw [hv0.1]; omega) hv0.2 hv1.2) ?_
  simp (maxSteps := 1000000) -dsimp -implicitDefEqProofs only [go_sem, ↓reduceIte, keep272, ib272, mk272, Tryz.f272]
  refine ⟨_, upd h nb (evBox p sz t1 0), shift_le (by exact Heap.le_refl _), _, t1, 0, rfl, rfl, serOK_sub hv0 hv1, by omega, a2, ?_⟩
  rw [evE_op h3 (by omega)]
  refine a3.thenC ?_
  rw [runE_zero, hk]
  exact outR_ok _ _
set_option maxRecDepth 100000 in
theorem value_5 {p : DProgram} (hp : p.ok) {sz n : Nat} (hsz : 1 ≤ sz ∧ sz ≤ 1048576) (hv : ValueAt p sz n) (h : Heap) (nb st : Nat) (e : DExpr) (env : List (List Int)) (funcs : Int) (hb : h nb = some (evBox p sz st 0)) (hst : st < 3000) (hn : 3001 ≤ n + 1 + st)
    (hok : e.ok p funcs env.length) (hf0 : 0 ≤ funcs) (hf : funcs ≤ p.fFuncs.length) (henv : ∀ s ∈ env, serOK sz s) (hel : env.length ≤ 412 + st) (hk : e.fKind = 5) :
    HFn Tryz.prog 272 [.op nb 4 0 0, .agg e.c, intss env] h (EvQ h nb p sz st 0 (evE p sz (n + 1) st e env)) := by
  rw [DExpr.c_eq]
  have hb' := hb
  unfold evBox at hb'
  have e3 : ((st : Int) = 3000) = False := eq_false (by omega)
  have ew : IntKind.i64.wrap ((st : Int) + 1) = ((st + 1 : Nat) : Int) := by rw [IntWalk.i64_in _ (by omega)]; rfl
  have hnode := (DExpr.ok_iff _ _ _ _).1 hok
  have h3 : ¬ st = 3000 := by omega
  have hlen := kids_len hok (by omega)
  rw [hk, show kidsN 5 = 2 from rfl] at hlen
  have hkl : e.fKids.length ≤ 1048576 := by omega
  refine fnKF 210 keep272 ib272 mk272 mix Tryz.func272 rfl (by kernel_rfl) (by simp) ?_
  simp (maxSteps := 1000000) -dsimp -implicitDefEqProofs only [go_sem, ↓reduceIte, keep272, ib272, mk272, Tryz.f272, hb', e3, ew, hk]
  refine HFnF.mkH (all_of hv (upd h nb (evBox p sz (st + 1) 0)) nb (st + 1) 0 e.fKids env funcs (upd_same _ _ _) (by omega) (by omega) hkl (kids_ok hok (by omega)) hf0 hf henv (by omega)) ?_
  rintro r h' ⟨vs, t1, c1, rfl, rfl, hvl, hvs, a1, a2, a3⟩
  have hv0 := serOK_get hvs (i := 0) (by omega)
  simp (maxSteps := 1000000) -dsimp -implicitDefEqProofs only [go_sem, ↓reduceIte, keep272, ib272, mk272, Tryz.f272, evBox]
  refine ⟨fun hc => ?_, fun hc => ?_⟩
  · have hc' : ¬ c1 = 0 := by simpa using hc
    refine HFnF.mkH (constantI _ nb _ _ _ 0 sz (upd_same _ _ _) hsz) ?_
    rintro r h' ⟨rfl, rfl⟩
    simp (maxSteps := 1000000) -dsimp -implicitDefEqProofs only [go_sem, ↓reduceIte, keep272, ib272, mk272, Tryz.f272]
    refine ⟨_, upd h nb (evBox p sz t1 c1), shift_le (by rw [upd_upd]; exact Heap.le_refl _), _, t1, c1, rfl, rfl, serOK_const num_zero, by omega, a2, ?_⟩
    rw [evE_op h3 (by omega)]
    exact a3.thenC (by rw [runE_ne _ hc']; exact outR_err _ _ hc')
  have hc' : c1 = 0 := by simpa using hc
  subst hc'
  have g0 : vs[Int.toNat 0]? = some (vs.getD 0 []) := env_get (by omega)
  have g1 : vs[Int.toNat 1]? = some (vs.getD 1 []) := env_get (by omega)
  have hv1 := serOK_get hvs (i := 1) (by omega)
  try simp (maxSteps := 1000000) -dsimp -implicitDefEqProofs only [go_sem, ↓reduceIte, keep272, ib272, mk272, Tryz.f272, hk, upd_upd, g0, g1]
  refine ⟨by omega, by omega, ?_⟩
  refine HFnF.mk (product (vs.getD 0 []) (vs.getD 1 []) (by rw [hv0.1, hv1.1]) (by rw [hv0.1]; omega) hv0.2 hv1.2) ?_
  simp (maxSteps := 1000000) -dsimp -implicitDefEqProofs only [go_sem, ↓reduceIte, keep272, ib272, mk272, Tryz.f272]
  refine ⟨_, upd h nb (evBox p sz t1 0), shift_le (by exact Heap.le_refl _), _, t1, 0, rfl, rfl, serOK_mul _ hv0, by omega, a2, ?_⟩
  rw [evE_op h3 (by omega)]
  refine a3.thenC ?_
  rw [runE_zero, hk]
  exact outR_ok _ _
set_option maxRecDepth 100000 in
theorem value_6 {p : DProgram} (hp : p.ok) {sz n : Nat} (hsz : 1 ≤ sz ∧ sz ≤ 1048576) (hv : ValueAt p sz n) (h : Heap) (nb st : Nat) (e : DExpr) (env : List (List Int)) (funcs : Int) (hb : h nb = some (evBox p sz st 0)) (hst : st < 3000) (hn : 3001 ≤ n + 1 + st)
    (hok : e.ok p funcs env.length) (hf0 : 0 ≤ funcs) (hf : funcs ≤ p.fFuncs.length) (henv : ∀ s ∈ env, serOK sz s) (hel : env.length ≤ 412 + st) (hk : e.fKind = 6) :
    HFn Tryz.prog 272 [.op nb 4 0 0, .agg e.c, intss env] h (EvQ h nb p sz st 0 (evE p sz (n + 1) st e env)) := by
  rw [DExpr.c_eq]
  have hb' := hb
  unfold evBox at hb'
  have e3 : ((st : Int) = 3000) = False := eq_false (by omega)
  have ew : IntKind.i64.wrap ((st : Int) + 1) = ((st + 1 : Nat) : Int) := by rw [IntWalk.i64_in _ (by omega)]; rfl
  have hnode := (DExpr.ok_iff _ _ _ _).1 hok
  have h3 : ¬ st = 3000 := by omega
  have hlen := kids_len hok (by omega)
  rw [hk, show kidsN 6 = 2 from rfl] at hlen
  have hkl : e.fKids.length ≤ 1048576 := by omega
  refine fnKF 210 keep272 ib272 mk272 mix Tryz.func272 rfl (by kernel_rfl) (by simp) ?_
  simp (maxSteps := 1000000) -dsimp -implicitDefEqProofs only [go_sem, ↓reduceIte, keep272, ib272, mk272, Tryz.f272, hb', e3, ew, hk]
  refine HFnF.mkH (all_of hv (upd h nb (evBox p sz (st + 1) 0)) nb (st + 1) 0 e.fKids env funcs (upd_same _ _ _) (by omega) (by omega) hkl (kids_ok hok (by omega)) hf0 hf henv (by omega)) ?_
  rintro r h' ⟨vs, t1, c1, rfl, rfl, hvl, hvs, a1, a2, a3⟩
  have hv0 := serOK_get hvs (i := 0) (by omega)
  simp (maxSteps := 1000000) -dsimp -implicitDefEqProofs only [go_sem, ↓reduceIte, keep272, ib272, mk272, Tryz.f272, evBox]
  refine ⟨fun hc => ?_, fun hc => ?_⟩
  · have hc' : ¬ c1 = 0 := by simpa using hc
    refine HFnF.mkH (constantI _ nb _ _ _ 0 sz (upd_same _ _ _) hsz) ?_
    rintro r h' ⟨rfl, rfl⟩
    simp (maxSteps := 1000000) -dsimp -implicitDefEqProofs only [go_sem, ↓reduceIte, keep272, ib272, mk272, Tryz.f272]
    refine ⟨_, upd h nb (evBox p sz t1 c1), shift_le (by rw [upd_upd]; exact Heap.le_refl _), _, t1, c1, rfl, rfl, serOK_const num_zero, by omega, a2, ?_⟩
    rw [evE_op h3 (by omega)]
    exact a3.thenC (by rw [runE_ne _ hc']; exact outR_err _ _ hc')
  have hc' : c1 = 0 := by simpa using hc
  subst hc'
  have g0 : vs[Int.toNat 0]? = some (vs.getD 0 []) := env_get (by omega)
  have g1 : vs[Int.toNat 1]? = some (vs.getD 1 []) := env_get (by omega)
  have hv1 := serOK_get hvs (i := 1) (by omega)
  have gs : (vs.getD 1 [])[Int.toNat 0]? = some ((vs.getD 1 []).getD 0 0) := getD_get (by rw [hv1.1]; omega)
  try simp (maxSteps := 1000000) -dsimp -implicitDefEqProofs only [go_sem, ↓reduceIte, keep272, ib272, mk272, Tryz.f272, hk, upd_upd, g0, g1, gs]
  refine ⟨by omega, by rw [hv1.1]; omega, fun hz => ?_, fun hz => ?_⟩
  · refine HFnF.mkH (constantI _ nb _ _ _ 0 sz (upd_same _ _ _) hsz) ?_
    rintro r h' ⟨rfl, rfl⟩
    simp (maxSteps := 1000000) -dsimp -implicitDefEqProofs only [go_sem, ↓reduceIte, keep272, ib272, mk272, Tryz.f272]
    refine ⟨_, upd h nb (evBox p sz t1 6), shift_le (by exact Heap.le_refl _), _, t1, 6, rfl, rfl, serOK_const num_zero, by omega, a2, ?_⟩
    rw [evE_op h3 (by omega)]
    refine a3.thenC ?_
    rw [runE_zero, hk]
    have : opE 6 vs t1 = .error 6 := by rw [opE, if_neg (by decide), if_neg (by decide), if_neg (by decide), if_neg (by decide), if_pos hz]
    rw [this]
    exact outR_err _ _ (by decide)
  · try simp (maxSteps := 1000000) -dsimp -implicitDefEqProofs only [go_sem, ↓reduceIte, keep272, ib272, mk272, Tryz.f272, hk, upd_upd, g0, g1, gs]
    refine ⟨by omega, by omega, ?_⟩
    refine HFnF.mk (quotient (vs.getD 0 []) (vs.getD 1 []) (by rw [hv0.1, hv1.1]) (by rw [hv0.1]; omega) (by rw [hv0.1]; omega) hv0.2 hv1.2) ?_
    simp (maxSteps := 1000000) -dsimp -implicitDefEqProofs only [go_sem, ↓reduceIte, keep272, ib272, mk272, Tryz.f272]
    refine ⟨_, upd h nb (evBox p sz t1 0), shift_le (by exact Heap.le_refl _), _, t1, 0, rfl, rfl, serOK_div _ hv0, by omega, a2, ?_⟩
    rw [evE_op h3 (by omega)]
    refine a3.thenC ?_
    rw [runE_zero, hk]
    have : opE 6 vs t1 = .ok (divL (vs.getD 0 []) (vs.getD 1 []), t1) := by rw [opE, if_neg (by decide), if_neg (by decide), if_neg (by decide), if_neg (by decide), if_neg hz]
    rw [this]
    exact outR_ok _ _
set_option maxRecDepth 100000 in
theorem value_11 {p : DProgram} (hp : p.ok) {sz n : Nat} (hsz : 1 ≤ sz ∧ sz ≤ 1048576) (hv : ValueAt p sz n) (h : Heap) (nb st : Nat) (e : DExpr) (env : List (List Int)) (funcs : Int) (hb : h nb = some (evBox p sz st 0)) (hst : st < 3000) (hn : 3001 ≤ n + 1 + st)
    (hok : e.ok p funcs env.length) (hf0 : 0 ≤ funcs) (hf : funcs ≤ p.fFuncs.length) (henv : ∀ s ∈ env, serOK sz s) (hel : env.length ≤ 412 + st) (hk : e.fKind = 11) :
    HFn Tryz.prog 272 [.op nb 4 0 0, .agg e.c, intss env] h (EvQ h nb p sz st 0 (evE p sz (n + 1) st e env)) := by
  rw [DExpr.c_eq]
  have hb' := hb
  unfold evBox at hb'
  have e3 : ((st : Int) = 3000) = False := eq_false (by omega)
  have ew : IntKind.i64.wrap ((st : Int) + 1) = ((st + 1 : Nat) : Int) := by rw [IntWalk.i64_in _ (by omega)]; rfl
  have hnode := (DExpr.ok_iff _ _ _ _).1 hok
  have h3 : ¬ st = 3000 := by omega
  obtain ⟨f, F⟩ := callsOf hp hok hf (.inr hk)
  have hkl : e.fKids.length ≤ 1048576 := by have := F.kids; have := F.params; omega
  have f1 := F.lo
  have f2 := F.hi
  have f3 := F.pk
  have f4 := F.pk2
  have f5 := F.kids
  have f6 := F.params
  have f7 := F.loop hk
  have f8 := F.outs
  refine fnKF 210 keep272 ib272 mk272 mix Tryz.func272 rfl (by kernel_rfl) (by simp) ?_
  simp (maxSteps := 1000000) -dsimp -implicitDefEqProofs only [go_sem, ↓reduceIte, keep272, ib272, mk272, Tryz.f272, hb', e3, ew, hk]
  refine HFnF.mkH (all_of hv (upd h nb (evBox p sz (st + 1) 0)) nb (st + 1) 0 e.fKids env funcs (upd_same _ _ _) (by omega) (by omega) hkl (kids_ok hok (by omega)) hf0 hf henv (by omega)) ?_
  rintro r h' ⟨vs, t1, c1, rfl, rfl, hvl, hvs, a1, a2, a3⟩
  simp (maxSteps := 1000000) -dsimp -implicitDefEqProofs only [go_sem, ↓reduceIte, keep272, ib272, mk272, Tryz.f272, evBox]
  refine ⟨fun hc => ?_, fun hc => ?_⟩
  · have hc' : ¬ c1 = 0 := by simpa using hc
    refine HFnF.mkH (constantI _ nb _ _ _ 0 sz (upd_same _ _ _) hsz) ?_
    rintro r h' ⟨rfl, rfl⟩
    simp (maxSteps := 1000000) -dsimp -implicitDefEqProofs only [go_sem, ↓reduceIte, keep272, ib272, mk272, Tryz.f272]
    refine ⟨_, upd h nb (evBox p sz t1 c1), shift_le (by rw [upd_upd]; exact Heap.le_refl _), _, t1, c1, rfl, rfl, serOK_const num_zero, by omega, a2, ?_⟩
    rw [evE_11 h3 hk]
    exact a3.thenC (by rw [runE_ne _ hc']; exact outR_err _ _ hc')
  have hc' : c1 = 0 := by simpa using hc
  subst hc'
  try simp (maxSteps := 1000000) -dsimp -implicitDefEqProofs only [go_sem, ↓reduceIte, keep272, ib272, mk272, Tryz.f272, hk, upd_upd]
  have hiter : ∀ (k : Nat) (us : List (List Int)) (t : Nat) (c : Int), outR (iterE (fun vs t => seqE (fun t e => evE p sz n t e vs) (p.outs e.fNum) t) k vs t1) us t c → k ≤ e.fCount.toNat → (¬ c = 0 ∨ k = e.fCount.toNat) → outR (runE 0 (evE p sz (n + 1) st e env)) (us.getD e.fPick.toNat []) t c := fun k us t c ho hk1 hor => by
    rw [evE_11 h3 hk]
    refine a3.thenC ?_
    rw [runE_zero]
    refine outR.then (v := us) (t := t) (c := c) ?_ (outR_init _ _ _)
    rcases hor with hc | rfl
    · have := ho.err hc
      rw [iterE_err _ k hk1 this]
      exact outR_err _ _ hc
    · exact ho
  refine loopF (keep := keep272) (ib := ib272) (mk := mk272) mix (by kernel_rfl) (fun x : Nat × List (List Int) × Nat × Int => [(0, .op nb 4 0 0), (4, .ip 5 [[I 11, I e.fNum, I e.fPick, I e.fCount, sls 5 DExpr.c e.fKids]] 0 0), (7, intss x.2.1), (8, I x.1)]) (fun x => upd h nb (evBox p sz x.2.2.1 x.2.2.2)) (fun x => x.1 ≤ e.fCount.toNat ∧ x.2.1.length = f.fOuts.length ∧ (∀ s ∈ x.2.1, serOK sz s) ∧ t1 ≤ x.2.2.1 ∧ x.2.2.1 ≤ 3000 ∧ outR (iterE (fun vs t => seqE (fun t e => evE p sz n t e vs) (p.outs e.fNum) t) x.1 vs t1) x.2.1 x.2.2.1 x.2.2.2) (fun x => e.fCount.toNat - x.1) (0, vs, t1, 0) ⟨by simp [SatL, tget], Heap.le_refl _, Nat.zero_le _, by simp only; omega, hvs, Nat.le_refl _, a2, outR_ok _ _⟩ ?_
  rintro ⟨k, us, t, c⟩ ⟨hk1, hul, hus, ht0, ht, ho⟩
  simp only at hk1 hul hus ht0 ht ho ⊢
  have gp : us[e.fPick.toNat]? = some (us.getD e.fPick.toNat []) := env_get (by omega)
  simp (maxSteps := 1000000) -dsimp -implicitDefEqProofs only [go_sem, ↓reduceIte, keep272, ib272, mk272, Tryz.f272, evBox, F.get, DFunc.c_eq, gp]
  refine ⟨fun hlt => ⟨fun hc => ⟨f1, f2, ?_⟩, fun hc => ?_⟩, fun hge => ?_⟩
  · subst hc
    refine HFnF.mkH (all_of hv (upd h nb (evBox p sz t 0)) nb t 0 f.fOuts us e.fNum (upd_same _ _ _) ht (by omega) (by omega) (by rw [hul, f7.2.2]; exact F.oks) f1 (by omega) hus (by omega)) ?_
    rintro r h' ⟨l2, t2, c2, rfl, rfl, hl2, hs2, b1, b2, b3⟩
    simp (maxSteps := 1000000) -dsimp -implicitDefEqProofs only [go_sem, ↓reduceIte, keep272, ib272, mk272, Tryz.f272]
    refine ⟨(k + 1, l2, t2, c2), ⟨rfl, by rw [IntWalk.i64_in _ (by omega)]; rfl⟩, by simp only [upd_upd]; exact Heap.le_refl _, ⟨by omega, hl2, hs2, by simp only; omega, b2, ?_⟩, by simp only; omega⟩
    simp only
    rw [iterE_snoc]
    refine ho.then ?_
    rw [F.eq]
    exact b3
  · exact ⟨f3, by omega, _, _, shift_self _ _, us.getD e.fPick.toNat [], t, c, rfl, rfl, serOK_get hus (by omega), by omega, ht, hiter k us t c ho hk1 (.inl hc)⟩
  · exact ⟨f3, by omega, _, _, shift_self _ _, us.getD e.fPick.toNat [], t, c, rfl, rfl, serOK_get hus (by omega), by omega, ht, hiter k us t c ho hk1 (.inr (by omega))⟩
open Go.Proofs
set_option linter.unusedVariables false
set_option linter.unusedSimpArgs false
theorem value {p : DProgram} (hp : p.ok) {sz : Nat} (hsz : 1 ≤ sz ∧ sz ≤ 1048576) : ∀ n, ValueAt p sz n
  | 0 => fun h nb st c e env funcs hb hst hn => by omega
  | n + 1 => fun h nb st c e env funcs hb hst hn hok hf0 hf henv hel => by
    have hv := value hp hsz n
    by_cases hs : ¬ c = 0 ∨ st = 3000
    · exact value_stop hsz h nb st c e env hb hst hs
    have hc : c = 0 := Classical.byContradiction fun q => hs (.inl q)
    have h3 : st < 3000 := by
      rcases Nat.lt_or_ge st 3000 with h | h
      · exact h
      · exact absurd (.inr (by omega)) hs
    subst hc
    rcases node_kind ((DExpr.ok_iff _ _ _ _).1 hok).1 with hk | hk | hk | hk | hk | hk | hk | hk | hk | hk | hk
    · exact value_1 hp hsz hv h nb st e env funcs hb h3 hn hok hf0 hf henv hel hk
    · exact value_2 hp hsz hv h nb st e env funcs hb h3 hn hok hf0 hf henv hel hk
    · exact value_3 hp hsz hv h nb st e env funcs hb h3 hn hok hf0 hf henv hel hk
    · exact value_4 hp hsz hv h nb st e env funcs hb h3 hn hok hf0 hf henv hel hk
    · exact value_5 hp hsz hv h nb st e env funcs hb h3 hn hok hf0 hf henv hel hk
    · exact value_6 hp hsz hv h nb st e env funcs hb h3 hn hok hf0 hf henv hel hk
    · exact value_7 hp hsz hv h nb st e env funcs hb h3 hn hok hf0 hf henv hel hk
    · exact value_8 hp hsz hv h nb st e env funcs hb h3 hn hok hf0 hf henv hel hk
    · exact value_9 hp hsz hv h nb st e env funcs hb h3 hn hok hf0 hf henv hel hk
    · exact value_10 hp hsz hv h nb st e env funcs hb h3 hn hok hf0 hf henv hel hk
    · exact value_11 hp hsz hv h nb st e env funcs hb h3 hn hok hf0 hf henv hel hk
end Go.Hl

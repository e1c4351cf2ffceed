/-
  Contracts of functions and laws of the layer over the walk.
-/
import Derived.Test.YthgfmobhhdmkpaaGreatVvC
import Derived.Test.YthgfmobhhdmkpaaGreatHlD
import Derived.Test.YthgfmobhhdmkpaaGreatVvA
import Derived.Test.YthgfmobhhdmkpaaGreatVvB
namespace Go.Hl
open Go.Proofs
set_option linter.unusedVariables false
set_option linter.unusedSimpArgs false
theorem tmodP (n : Int) : n.tmod 1000003 = n % 1000003 ∨ n.tmod 1000003 = n % 1000003 - 1000003 := by
  by_cases h : 0 ≤ n
  · exact .inl (Int.tmod_eq_emod_of_nonneg h)
  · have h1 : n.tmod 1000003 = -((-n) % 1000003) := by
      have h2 : n = -(-n) := by omega
      rw [h2, Int.neg_tmod, Int.tmod_eq_emod_of_nonneg (by omega), Int.neg_neg]
    rw [h1]; omega
def keep130 : List Nat := [0, 2]
def ib130 : List Nat := []
def mk130 : Marks := fun _ => ([], .nil, [])
theorem Residue (n : Int) : Fn0 Tryz.prog 130 [I n] (I (n % 1000003)) := by
  refine fn0F 7 keep130 ib130 mk130 mix Tryz.func130 rfl (by kernel_rfl) (by simp) fun h => ?_
  simp (maxSteps := 1000000) -dsimp -implicitDefEqProofs only [go_sem, ↓reduceIte, keep130, ib130, mk130, Tryz.f130]
  rcases tmodP n with h | h
  all_goals
    rw [h, IntWalk.i64_in _ (by omega), Int.tmod_eq_emod_of_nonneg (by omega)]
    omega
def keep143 : List Nat := [0, 2, 3, 7]
def ib143 : List Nat := []
def mk143 : Marks := fun _ => ([], .nil, [])
theorem specResidue (n : Int) : Fn0 Tryz.prog 143 [I n] (I (n % 1000003)) := by
  refine fn0F 11 keep143 ib143 mk143 mix Tryz.func143 rfl (by kernel_rfl) (by simp) fun h => ?_
  simp (maxSteps := 1000000) -dsimp -implicitDefEqProofs only [go_sem, ↓reduceIte, keep143, ib143, mk143, Tryz.f143]
  rcases tmodP n with h | h
  all_goals
    rw [h]
    refine ⟨fun q => ?_, fun q => ?_⟩
    all_goals first | omega | (rw [IntWalk.i64_in _ (by omega)]; omega)
def keep103 : List Nat := [0, 1, 4]
def ib103 : List Nat := []
def mk103 : Marks := fun _ => ([], .nil, [])
theorem Plus (a b : Int) : Fn0 Tryz.prog 103 [I a, I b] (I ((a + b) % 1000003)) := by
  refine fn0F 11 keep103 ib103 mk103 mix Tryz.func103 rfl (by kernel_rfl) (by simp) fun h => ?_
  simp (maxSteps := 1000000) -dsimp -implicitDefEqProofs only [go_sem, ↓reduceIte, keep103, ib103, mk103, Tryz.f103]
  first | refine HFnF.mk (Residue a) ?_ | refine CallSF.mk (Residue a) ?_ | refine HFnF.mkAt (Residue a) ?_ | refine CallSF.mk (FnAt.fn0 (Residue a)) ?_
  simp (maxSteps := 1000000) -dsimp -implicitDefEqProofs only [go_sem, ↓reduceIte, keep103, ib103, mk103, Tryz.f103]
  first | refine HFnF.mk (Residue b) ?_ | refine CallSF.mk (Residue b) ?_ | refine HFnF.mkAt (Residue b) ?_ | refine CallSF.mk (FnAt.fn0 (Residue b)) ?_
  simp (maxSteps := 1000000) -dsimp -implicitDefEqProofs only [go_sem, ↓reduceIte, keep103, ib103, mk103, Tryz.f103]
  rw [IntWalk.i64_in _ (by omega), Int.tmod_eq_emod_of_nonneg (by omega)]
  omega
def keep128 : List Nat := [0, 1, 4]
def ib128 : List Nat := []
def mk128 : Marks := fun _ => ([], .nil, [])
theorem specPlus (a b : Int) : Fn0 Tryz.prog 128 [I a, I b] (I ((a + b) % 1000003)) := by
  refine fn0F 11 keep128 ib128 mk128 mix Tryz.func128 rfl (by kernel_rfl) (by simp) fun h => ?_
  simp (maxSteps := 1000000) -dsimp -implicitDefEqProofs only [go_sem, ↓reduceIte, keep128, ib128, mk128, Tryz.f128]
  first | refine HFnF.mk (specResidue a) ?_ | refine CallSF.mk (specResidue a) ?_ | refine HFnF.mkAt (specResidue a) ?_ | refine CallSF.mk (FnAt.fn0 (specResidue a)) ?_
  simp (maxSteps := 1000000) -dsimp -implicitDefEqProofs only [go_sem, ↓reduceIte, keep128, ib128, mk128, Tryz.f128]
  first | refine HFnF.mk (specResidue b) ?_ | refine CallSF.mk (specResidue b) ?_ | refine HFnF.mkAt (specResidue b) ?_ | refine CallSF.mk (FnAt.fn0 (specResidue b)) ?_
  simp (maxSteps := 1000000) -dsimp -implicitDefEqProofs only [go_sem, ↓reduceIte, keep128, ib128, mk128, Tryz.f128]
  rw [IntWalk.i64_in _ (by omega), Int.tmod_eq_emod_of_nonneg (by omega)]
  omega
/-- The sums of parts, and the first code that is not OK. -/
def addL (a b : List Int) : List Int := List.zipWith (fun x y => (x + y) % 1000003) a b
def sumG : List DPart → Int → List Int → Int × List Int × Int
  | [], v, g => (v, g, 0)
  | p :: ps, v, g => if p.fCode = 0 then sumG ps ((v + p.fValue) % 1000003) (addL g p.fGrad) else (0, [], p.fCode)
def partsOK (sh : Int) (l : List DPart) : Prop := ∀ p ∈ l, p.fCode = 0 → (p.fGrad.length : Int) = sh ∧ ∀ x ∈ p.fGrad, 0 ≤ x ∧ x < 1000003
theorem addL_len {a b : List Int} (h : b.length = a.length) : (addL a b).length = a.length := by simp [addL, h]
theorem addL_num {a b : List Int} : ∀ x ∈ addL a b, 0 ≤ x ∧ x < 1000003 := by
  intro x hx
  obtain ⟨i, hi, rfl⟩ := List.mem_iff_getElem.1 hx
  simp only [addL, List.getElem_zipWith]
  omega
def keep104 : List Nat := [0, 1, 4, 5, 6, 11, 12, 13]
def ib104 : List Nat := []
def mk104 : Marks := fun id => match id with | 5 => ([13], (.op 0 (.op 1 (.op 2 (.op 3 (.op 4 (.op 5 (.op 6 (.op 7 (.op 8 (.op 9 (.op 10 (.op 11 (.op 12 (.op 13 .nil)))))))))))))), []) | _ => ([], .nil, [])
set_option maxRecDepth 100000 in
theorem added (a b : List Int) (hab : b.length = a.length) (hl : a.length ≤ 1048576) (ha : ∀ x ∈ a, 0 ≤ x ∧ x < 1000003) (hb : ∀ x ∈ b, 0 ≤ x ∧ x < 1000003) : FnN Tryz.prog 104 [sls 1 (fun n => [I n]) a, sls 1 (fun n => [I n]) b] (QS (OS (oP I) 1 (addL a b))) := by
  refine fnNF 30 keep104 ib104 mk104 mix Tryz.func104 rfl (by kernel_rfl) (by simp) fun h => ?_
  simp (maxSteps := 1000000) -dsimp -implicitDefEqProofs only [go_sem, ↓reduceIte, keep104, ib104, mk104, Tryz.f104]
  intro _
  refine ⟨Nat.zero_lt_one, Nat.le_refl _, by omega, by omega, fun n hn _ => ?_⟩
  have hc := addL_len hab
  rw [rowZero]
  refine loopRow (keep := keep104) (ib := ib104) (mk := mk104) mix (by kernel_rfl) (fun k : Nat => [(0, sls 1 (fun n => [I n]) a), (1, sls 1 (fun n => [I n]) b), (5, .os n 1 0 a.length), (11, I a.length), (12, I k)]) n (fun k => .row 1 (((upL (addL a b) k).map fun n => [I n]).map (List.map .v))) (fun k => k ≤ a.length) (fun k => a.length - k) 0 ⟨by simp [SatL, tget], by rw [upd_same, upL_zero, hc], Nat.zero_le _⟩ ?_
  intro k hk
  rcases Nat.lt_or_ge k a.length with hlt | hge
  · have ea : a[k]? = some a[k] := List.getElem?_eq_getElem hlt
    have eb : b[k]? = some b[k] := List.getElem?_eq_getElem (by omega)
    have eu := upL_get (c := addL a b) (k := k) (by omega)
    have el := upL_len (addL a b) (k := k) (by omega)
    simp (maxSteps := 1000000) -dsimp -implicitDefEqProofs only [go_sem, ↓reduceIte, keep104, ib104, mk104, Tryz.f104, upd_upd, hlt, ea, eb, eu, el, hc]
    have h1 := ha _ (List.getElem_mem hlt)
    have h2 := hb b[k] (List.getElem_mem (by omega))
    refine ⟨by omega, k + 1, by rw [IntWalk.i64_in _ (by omega)]; rfl, ?_, by omega, by omega⟩
    have hv : (addL a b)[k]'(by omega) = (a[k] + b[k]) % 1000003 := by simp [addL]
    rw [IntWalk.i64_in _ (by omega), Int.tmod_eq_emod_of_nonneg (by omega), ← upL_set (by omega), hv, ← rowSet I]
    exact Heap.le_refl _
  · have hk' : k = a.length := by omega
    subst hk'
    simp (maxSteps := 1000000) -dsimp -implicitDefEqProofs only [go_sem, ↓reduceIte, keep104, ib104, mk104, Tryz.f104, upd_upd, Nat.lt_irrefl]
    have hu : upL (addL a b) a.length = addL a b := by rw [← hc]; exact upL_all _
    rw [hu, show a.length = (addL a b).length from hc.symm]
    exact own_row hn
def keep50 : List Nat := [0, 1, 4, 5, 6, 7, 8, 10, 13, 14, 15, 16, 21]
def ib50 : List Nat := []
def mk50 : Marks := fun id => match id with | 1 => ([1], (.op 0 (.op 2 (.op 1 (.op 3 .nil)))), []) | 6 => ([1], (.op 0 (.op 1 (.op 2 (.op 3 (.op 4 .nil))))), []) | 7 => ([2, 3, 6, 7], (.op 0 (.op 1 (.op 4 (.op 5 (.op 2 (.op 6 (.op 3 (.op 7 (.op 8 (.op 9 .nil)))))))))), [(6, 3)]) | _ => ([], .nil, [])
set_option maxRecDepth 100000 in
set_option maxHeartbeats 1000000 in
theorem summed (l : List DPart) (sh : Int) (hsh : 0 ≤ sh ∧ sh ≤ 1048576) (hl : l.length ≤ 1048576) (hp : partsOK sh l) : FnN Tryz.prog 50 [sls 3 DPart.c l, I sh] (QS (OS (oP I) 1 (sumG l 0 (List.replicate sh.toNat 0)).2.1) (fun y => .tup [I (sumG l 0 (List.replicate sh.toNat 0)).1, y, I (sumG l 0 (List.replicate sh.toNat 0)).2.2])) := by
  refine fnNF 35 keep50 ib50 mk50 mix Tryz.func50 rfl (by kernel_rfl) (by simp) fun h => ?_
  simp (maxSteps := 1000000) -dsimp -implicitDefEqProofs only [go_sem, ↓reduceIte, keep50, ib50, mk50, Tryz.f50]
  refine ⟨Nat.zero_lt_one, hsh.1, Int.le_refl _, by omega, by omega, fun n hn _ => ?_⟩
  generalize hT : sumG l 0 (List.replicate sh.toNat 0) = T at *
  rw [rowZero]
  refine loopF (keep := keep50) (ib := ib50) (mk := mk50) mix (by kernel_rfl) (fun x : Nat × Int × List Int × OV × Heap => [(7, I x.2.1), (8, x.2.2.2.1.val), (13, sls 3 DPart.c l), (14, I l.length), (15, I x.1)]) (fun x => x.2.2.2.2) (fun x => x.1 ≤ l.length ∧ sumG (l.drop x.1) x.2.1 x.2.2.1 = T ∧ x.2.2.1.length = sh.toNat ∧ (∀ y ∈ x.2.2.1, 0 ≤ y ∧ y < 1000003) ∧ OS (oP I) 1 x.2.2.1 x.2.2.2.1 ∧ New h x.2.2.2.1.rows x.2.2.2.2) (fun x => l.length - x.1) (0, 0, List.replicate sh.toNat 0, .sl n 1 ((List.replicate sh.toNat 0).map fun x => [.v (I x)]), upd h n (.row 1 (((List.replicate sh.toNat (0 : Int)).map fun n => [I n]).map (List.map .v)))) ⟨by simp [SatL, tget, OV.val_sl], Heap.le_refl _, Nat.zero_le _, hT, by simp, fun y hy => by have := List.eq_of_mem_replicate hy; omega, OS.mk (OR_map _), by rw [OV.sl_rows, rows_map, cells_map]; exact New.one hn⟩ ?_
  rintro ⟨k, v, gr, y, g⟩ ⟨hk, hs, hgl, hgn, hos, hw⟩
  simp only at hk hs hgl hgn hos hw ⊢
  have hyf := hos.flat
  have hyo := hos.one
  rcases Nat.lt_or_ge k l.length with hlt | hge
  · have ea : l[k]? = some l[k] := List.getElem?_eq_getElem hlt
    have hpk := hp l[k] (List.getElem_mem hlt)
    rw [List.drop_eq_getElem_cons hlt, sumG] at hs
    simp (maxSteps := 1000000) -dsimp -implicitDefEqProofs only [go_sem, ↓reduceIte, keep50, ib50, mk50, Tryz.f50, hlt, ea, DPart.c_eq, hyf, hyo]
    intro nb z_nb
    have hnb := Heap.le_none hw.le z_nb
    refine ⟨fun hc => ?_, fun hc => ?_⟩
    · rw [if_neg hc] at hs
      subst hs
      exact ⟨_, h, _, Shift.of (Sub.tup (.cons (.refl _) (.cons (Sub.nil 1 true) (.cons (.refl _) .nil)))) (Heap.le_upd hnb (Heap.le_upd hnb hw.le)), ⟨.nil 1, OS.nil, rfl, (OV.nil_rows 1).symm⟩, New.nil h⟩
    · rw [if_pos hc] at hs
      have hp2 := hpk hc
      first | refine HFnF.mk (Plus v l[k].fValue) ?_ | refine CallSF.mk (Plus v l[k].fValue) ?_ | refine HFnF.mkAt (Plus v l[k].fValue) ?_ | refine CallSF.mk (FnAt.fn0 (Plus v l[k].fValue)) ?_
      simp (maxSteps := 1000000) -dsimp -implicitDefEqProofs only [go_sem, ↓reduceIte, keep50, ib50, mk50, Tryz.f50, upd_upd]
      have had := added gr l[k].fGrad (by omega) (by omega) hgn hp2.2
      refine HFnF.wl1 had (ViewL.cons (View.ovD y (OS.dat (c := fun n => [I n]) (fun _ _ q => oP_dat q) hos) (hw.owns.up z_nb)) (ViewL.cons (View.same _ _) ViewL.nil)) (QS.solid (fun y hy => OS.solm (fun _ _ _ q => oP_sol (fun _ => rfl) q) hy) (fun x hx => hx)) z_nb ?_
      rintro r l_ g2 ⟨y2, oy2, rfl, rfl⟩ w2 z_nb2
      simp (maxSteps := 1000000) -dsimp -implicitDefEqProofs only [go_sem, ↓reduceIte, keep50, ib50, mk50, Tryz.f50, oy2.flat, oy2.one, hyf, hyo]
      have w3 := (hw.append w2).drop
      exact ⟨(k + 1, _, addL gr l[k].fGrad, y2, _), ⟨rfl, rfl, by rw [IntWalk.i64_in _ (by omega)]; rfl⟩, Heap.le_upd (Heap.le_none (dropN_le _ _) z_nb2) (dropN_le _ _), ⟨by omega, hs, by rw [addL_len (by omega)]; exact hgl, addL_num, oy2, w3⟩, by omega⟩
  · have hk' : k = l.length := by omega
    subst hk'
    rw [List.drop_length, sumG] at hs
    simp (maxSteps := 1000000) -dsimp -implicitDefEqProofs only [go_sem, ↓reduceIte, keep50, ib50, mk50, Tryz.f50, Nat.lt_irrefl, hyf, hyo]
    subst hs
    exact ⟨_, g, _, shift_self _ _, ⟨y, hos, rfl, rfl⟩, hw⟩
def mixL (a b : List Int) (i : Nat) : List Int := (addL a b).take i ++ a.drop i
theorem mixL_zero (a b : List Int) : mixL a b 0 = a := rfl
theorem mixL_all {a b : List Int} (h : b.length = a.length) : mixL a b a.length = addL a b := by
  rw [mixL, List.drop_length, List.append_nil, List.take_of_length_le (by rw [addL_len h]; exact Nat.le_refl _)]
theorem mixL_len {a b : List Int} (h : b.length = a.length) (i : Nat) : (mixL a b i).length = a.length := by
  have := addL_len h
  simp [mixL]; omega
theorem mixL_get {a b : List Int} (h : b.length = a.length) {i : Nat} (hi : i < a.length) : (mixL a b i)[i]? = some a[i] := by
  have h1 : ((addL a b).take i).length = i := by rw [List.length_take, addL_len h]; omega
  rw [mixL, List.getElem?_append_right (by omega), h1, Nat.sub_self, List.getElem?_drop, Nat.add_zero, List.getElem?_eq_getElem hi]
theorem mixL_set {a b : List Int} (h : b.length = a.length) {i : Nat} (hi : i < a.length) : (mixL a b i).set i ((a[i] + b[i]'(by omega)) % 1000003) = mixL a b (i + 1) := by
  have h1 : ((addL a b).take i).length = i := by rw [List.length_take, addL_len h]; omega
  have h2 : i < (addL a b).length := by rw [addL_len h]; exact hi
  rw [mixL, mixL, List.set_append_right _ _ (by omega), h1, Nat.sub_self, List.drop_eq_getElem_cons hi, List.set_cons_zero, List.take_succ_eq_append_getElem h2, List.append_assoc, List.singleton_append]
  simp [addL]
def keep99 : List Nat := [0, 1, 4, 5, 6, 7, 8, 9, 10, 16, 24, 41]
def ib99 : List Nat := [25]
def mk99 : Marks := fun id => match id with | 7 => ([], (.op 0 (.op 1 (.op 2 (.op 3 (.op 4 (.op 5 (.op 6 (.op 7 (.op 8 .nil))))))))), []) | 12 => ([5, 16], (.op 0 (.op 1 (.op 2 (.op 3 (.op 4 (.op 6 (.op 7 (.op 8 (.op 9 (.op 10 (.op 11 (.op 12 (.op 13 (.op 5 (.op 14 (.op 15 (.op 16 .nil))))))))))))))))), []) | _ => ([], .nil, [])
set_option maxRecDepth 100000 in
set_option maxHeartbeats 1000000 in
theorem l08Sum (l : List DPart) (sh : Int) (hsh : 0 ≤ sh ∧ sh ≤ 1048576) (hl : l.length ≤ 1048576) (hp : partsOK sh l) : FnN Tryz.prog 99 [sls 3 DPart.c l, I sh] (QS (OS (oP I) 1 (sumG l 0 (List.replicate sh.toNat 0)).2.1) (fun y => .tup [I (sumG l 0 (List.replicate sh.toNat 0)).1, y, I (sumG l 0 (List.replicate sh.toNat 0)).2.2])) := by
  refine fnNF 62 keep99 ib99 mk99 mix Tryz.func99 rfl (by kernel_rfl) (by simp) fun h => ?_
  simp (maxSteps := 1000000) -dsimp -implicitDefEqProofs only [go_sem, ↓reduceIte, keep99, ib99, mk99, Tryz.f99]
  refine ⟨Nat.zero_lt_one, hsh.1, Int.le_refl _, by omega, by omega, fun n hn => ?_⟩
  generalize hT : sumG l 0 (List.replicate sh.toNat 0) = T at *
  rw [rowZero]
  refine loopRow (keep := keep99) (ib := ib99) (mk := mk99) mix (by kernel_rfl) (fun x : Nat × Int × List Int => [(0, sls 3 DPart.c l), (7, I x.2.1), (8, .os n 1 0 sh.toNat), (9, I x.1)]) n (fun x => .row 1 ((x.2.2.map fun n => [I n]).map (List.map .v))) (fun x => x.1 ≤ l.length ∧ sumG (l.drop x.1) x.2.1 x.2.2 = T ∧ x.2.2.length = sh.toNat ∧ (∀ y ∈ x.2.2, 0 ≤ y ∧ y < 1000003)) (fun x => l.length - x.1) (0, 0, List.replicate sh.toNat 0) ⟨by simp [SatL, tget], by rw [upd_same], Nat.zero_le _, hT, by simp, fun y hy => by have := List.eq_of_mem_replicate hy; omega⟩ ?_
  rintro ⟨k, v, gr⟩ ⟨hk, hs, hgl, hgn⟩
  simp only at hk hs hgl hgn ⊢
  rcases Nat.lt_or_ge k l.length with hlt | hge
  · have ea : l[k]? = some l[k] := List.getElem?_eq_getElem hlt
    have hpk := hp l[k] (List.getElem_mem hlt)
    rw [List.drop_eq_getElem_cons hlt, sumG] at hs
    simp (maxSteps := 1000000) -dsimp -implicitDefEqProofs only [go_sem, ↓reduceIte, keep99, ib99, mk99, Tryz.f99, hlt, ea, DPart.c_eq, upd_upd]
    intro _
    refine ⟨fun hc => ?_, fun hc => ?_⟩
    · rw [if_neg hc] at hs
      subst hs
      exact ⟨Nat.zero_lt_one, _, h, _, Shift.of (Sub.refl _) (Heap.le_upd hn (Heap.le_refl _)), ⟨.nil 1, OS.nil, rfl, (OV.nil_rows 1).symm⟩, New.nil h⟩
    · rw [if_pos hc] at hs
      have hp2 := hpk hc
      have hb : (l[k].fGrad).length = gr.length := by omega
      first | refine HFnF.mk (specPlus v l[k].fValue) ?_ | refine CallSF.mk (specPlus v l[k].fValue) ?_ | refine HFnF.mkAt (specPlus v l[k].fValue) ?_ | refine CallSF.mk (FnAt.fn0 (specPlus v l[k].fValue)) ?_
      simp (maxSteps := 1000000) -dsimp -implicitDefEqProofs only [go_sem, ↓reduceIte, keep99, ib99, mk99, Tryz.f99]
      refine loopRow (keep := keep99) (ib := ib99) (mk := mk99) mix (by kernel_rfl) (fun i : Nat => [(0, sls 3 DPart.c l), (7, I ((v + l[k].fValue) % 1000003)), (8, .os n 1 0 sh.toNat), (9, I k), (10, I i)]) n (fun i => .row 1 (((mixL gr l[k].fGrad i).map fun n => [I n]).map (List.map .v))) (fun i => i ≤ gr.length) (fun i => gr.length - i) 0 ⟨by simp [SatL, tget], by rw [upd_same, mixL_zero], Nat.zero_le _⟩ ?_
      intro i hi
      rcases Nat.lt_or_ge i gr.length with hlt2 | hge2
      · have eg := mixL_get hb hlt2
        have el := mixL_len hb i
        have eb : (l[k].fGrad)[i]? = some ((l[k].fGrad)[i]'(by omega)) := List.getElem?_eq_getElem (by omega)
        have hls : i < sh.toNat := by omega
        simp (maxSteps := 1000000) -dsimp -implicitDefEqProofs only [go_sem, ↓reduceIte, keep99, ib99, mk99, Tryz.f99, hlt, ea, DPart.c_eq, upd_upd, eg, el, eb, hls, ← hgl, hlt2]
        intro _
        refine ⟨by omega, ?_⟩
        first | refine HFnF.mk (specPlus gr[i] ((l[k].fGrad)[i]'(by omega))) ?_ | refine CallSF.mk (specPlus gr[i] ((l[k].fGrad)[i]'(by omega))) ?_ | refine HFnF.mkAt (specPlus gr[i] ((l[k].fGrad)[i]'(by omega))) ?_ | refine CallSF.mk (FnAt.fn0 (specPlus gr[i] ((l[k].fGrad)[i]'(by omega)))) ?_
        simp (maxSteps := 1000000) -dsimp -implicitDefEqProofs only [go_sem, ↓reduceIte, keep99, ib99, mk99, Tryz.f99, hlt, ea, DPart.c_eq, upd_upd, eg, el, eb, hls, ← hgl, hlt2]
        refine ⟨i + 1, by rw [IntWalk.i64_in _ (by omega)]; rfl, ?_, by omega, by omega⟩
        rw [← mixL_set hb hlt2, ← rowSet I]
        exact Heap.le_refl _
      · have hi' : i = gr.length := by omega
        subst hi'
        simp (maxSteps := 1000000) -dsimp -implicitDefEqProofs only [go_sem, ↓reduceIte, keep99, ib99, mk99, Tryz.f99, ← hgl, upd_upd, Nat.lt_irrefl, Int.lt_irrefl]
        rw [mixL_all hb]
        intro _
        exact ⟨(k + 1, _, _), ⟨rfl, by rw [IntWalk.i64_in _ (by omega)]; rfl⟩, Heap.le_refl _, ⟨by omega, hs, addL_len hb, addL_num⟩, by omega⟩
  · have hk' : k = l.length := by omega
    subst hk'
    rw [List.drop_length, sumG] at hs
    simp (maxSteps := 1000000) -dsimp -implicitDefEqProofs only [go_sem, ↓reduceIte, keep99, ib99, mk99, Tryz.f99, Nat.lt_irrefl, Int.lt_irrefl, upd_upd]
    subst hs
    intro _
    exact ⟨_, _, _, shift_self _ _, ⟨.sl n 1 (gr.map fun x => [.v (I x)]), OS.mk (OR_map gr), by rw [OV.val_prim, hgl], rfl⟩, by rw [OV.sl_rows, rows_map, cells_map]; exact New.one hn⟩
noncomputable def sumRes (s : DService) : Int × List Int × Int := if s.ok then (if false ∈ s.fKnown then (0, [], 4) else sumG s.fParts 0 (List.replicate s.fJob.fShared.toNat 0)) else (0, [], 1)
theorem sumRes_1 {s : DService} (h : ¬ s.ok) : sumRes s = (0, [], 1) := if_neg h
theorem sumRes_4 {s : DService} (h : s.ok) (h2 : false ∈ s.fKnown) : sumRes s = (0, [], 4) := by rw [sumRes, if_pos h, if_pos h2]
theorem sumRes_ok {s : DService} (h : s.ok) (h2 : ¬ false ∈ s.fKnown) : sumRes s = sumG s.fParts 0 (List.replicate s.fJob.fShared.toNat 0) := by rw [sumRes, if_pos h, if_neg h2]
theorem shared_ok {j : DJob} (h : j.ok) : 0 ≤ j.fShared ∧ j.fShared ≤ 12 := by
  have h1 := h.2.1
  have hk : j.fFunc.toNat < j.fProgram.fFuncs.length := by omega
  have h2 := h.2.2 _ (List.getElem?_eq_getElem hk)
  have h3 := (h.1.2 _ _ (List.getElem?_eq_getElem hk)).2.1
  have := h2.1
  omega
theorem parts_ok {s : DService} (h : s.ok) (h2 : ¬ false ∈ s.fKnown) : partsOK s.fJob.fShared s.fParts := by
  intro p hp hc
  obtain ⟨k, hk, rfl⟩ := List.mem_iff_getElem.1 hp
  have l := h.2.1
  have hkn : s.fKnown[k]'(by omega) = true := by
    cases e : s.fKnown[k]'(by omega) with
    | true => rfl
    | false => exact absurd (e ▸ List.getElem_mem (by omega)) h2
  have q := h.2.2 k (s.fStamps[k]'(by omega)) (s.fOwners[k]'(by omega)) true s.fParts[k] (List.getElem?_eq_getElem _) (List.getElem?_eq_getElem _) (by rw [List.getElem?_eq_getElem (by omega), hkn]) (List.getElem?_eq_getElem hk)
  have q2 := (q.2.2.1 rfl).2
  rw [partOK, if_pos hc] at q2
  refine ⟨q2.2.1, fun x hx => ?_⟩
  have := q2.2.2 x hx
  unfold Num at this; omega
def keep102 : List Nat := [0, 1, 4, 5, 7, 8, 9, 16]
def ib102 : List Nat := []
def mk102 : Marks := fun _ => ([], .nil, [])
set_option maxRecDepth 100000 in
theorem slIndexB (l : List Bool) (b : Bool) : Fn0 Tryz.prog 102 [sls 1 (fun b => [.bool b]) l, .bool b] (I (idxOf (fun x => decide (b = x)) l)) := by
  refine fn0F 19 keep102 ib102 mk102 mix Tryz.func102 rfl (by kernel_rfl) (by simp) fun h => ?_
  simp (maxSteps := 1000000) -dsimp -implicitDefEqProofs only [go_sem, ↓reduceIte, keep102, ib102, mk102, Tryz.f102]
  intro _
  refine loopSame (keep := keep102) (ib := ib102) (mk := mk102) mix (by kernel_rfl) (fun k : Nat => [(0, sls 1 (fun b => [.bool b]) l), (1, .bool b), (7, I l.length), (8, I k)]) (fun k => k ≤ l.length ∧ ∀ x ∈ l.take k, decide (b = x) = false) (fun k => l.length - k) 0 ⟨by simp [SatL, tget], Nat.zero_le _, by simp⟩ ?_
  rintro k ⟨hk, ha⟩
  rcases Nat.lt_or_ge k l.length with hlt | hge
  · have ea : l[k]? = some l[k] := List.getElem?_eq_getElem hlt
    cases hb : l[k]
    all_goals
      rw [hb] at ea
      simp (maxSteps := 1000000) -dsimp -implicitDefEqProofs only [go_sem, ↓reduceIte, keep102, ib102, mk102, Tryz.f102, hlt, ea]
      refine ⟨fun q => (idxOf_some hlt ha (by rw [hb]; simpa using q)).symm, fun q => ⟨k + 1, by rw [IntWalk.i64_in _ (by omega)]; rfl, ⟨by omega, fun x hx => ?_⟩, by omega⟩⟩
      rw [List.take_succ_eq_append_getElem hlt, List.mem_append, List.mem_singleton, hb] at hx
      rcases hx with hx | rfl
      · simpa using ha x hx
      · simpa using q
  · have hk' : k = l.length := by omega
    subst hk'
    simp (maxSteps := 1000000) -dsimp -implicitDefEqProofs only [go_sem, ↓reduceIte, keep102, ib102, mk102, Tryz.f102, Nat.lt_irrefl, Int.lt_irrefl]
    exact (idxOf_none fun x hx => ha x (by rw [List.take_length]; exact hx)).symm
def keep49 : List Nat := [0, 1, 4]
def ib49 : List Nat := []
def mk49 : Marks := fun _ => ([], .nil, [])
theorem slContB (l : List Bool) (b : Bool) : Fn0 Tryz.prog 49 [sls 1 (fun b => [.bool b]) l, .bool b] (.bool (decide (b ∈ l))) := by
  refine fn0F 9 keep49 ib49 mk49 mix Tryz.func49 rfl (by kernel_rfl) (by simp) fun h => ?_
  simp (maxSteps := 1000000) -dsimp -implicitDefEqProofs only [go_sem, ↓reduceIte, keep49, ib49, mk49, Tryz.f49]
  first | refine HFnF.mk (slIndexB l b) ?_ | refine CallSF.mk (slIndexB l b) ?_ | refine HFnF.mkAt (slIndexB l b) ?_ | refine CallSF.mk (FnAt.fn0 (slIndexB l b)) ?_
  simp (maxSteps := 1000000) -dsimp -implicitDefEqProofs only [go_sem, ↓reduceIte, keep49, ib49, mk49, Tryz.f49]
  rw [show decide (idxOf (fun x => decide (b = x)) l ≥ 0) = decide (0 ≤ idxOf (fun x => decide (b = x)) l) from rfl, idxOf_nonneg, Bool.eq_iff_iff]
  simp
open Go.Proofs
set_option linter.unusedVariables false
set_option linter.unusedSimpArgs false
theorem sub_nil3 (x y : HVal) : Sub (.tup [x, .nilsl, y]) (.tup [x, .sl 1 [] true, y]) := Sub.tup (.cons (.refl _) (.cons (Sub.nil _ _) (.cons (.refl _) .nil)))
theorem own_nil3 {R : Int → List OV → Prop} {h h' : Heap} {a b : HVal} (hl : h.le h') : ∃ r1 g l, Shift (.tup [a, .nilsl, b]) h' r1 g ∧ QS (OS R 1 []) (fun y => .tup [a, y, b]) r1 l ∧ New h l g :=
  ⟨_, h, _, Shift.of (sub_nil3 _ _) hl, ⟨.nil 1, OS.nil, rfl, (OV.nil_rows 1).symm⟩, New.nil h⟩
theorem own_emp3 {R : Int → List OV → Prop} {h h' : Heap} {a b : HVal} (hl : h.le h') : ∃ r1 g l, Shift (.tup [a, .sl 1 [] true, b]) h' r1 g ∧ QS (OS R 1 []) (fun y => .tup [a, y, b]) r1 l ∧ New h l g :=
  ⟨_, h, _, Shift.of (Sub.refl _) hl, ⟨.nil 1, OS.nil, rfl, (OV.nil_rows 1).symm⟩, New.nil h⟩
def keep12 : List Nat := [0, 1, 2, 3, 4, 5, 9]
def ib12 : List Nat := [1]
def mk12 : Marks := fun _ => ([], .nil, [])
set_option maxRecDepth 100000 in
set_option maxHeartbeats 1000000 in
theorem SumOf (s : DService) (hs : s.s ≤ 1048576) : FnN Tryz.prog 12 [.agg s.c] (QS (OS (oP I) 1 (sumRes s).2.1) (fun y => .tup [I (sumRes s).1, y, I (sumRes s).2.2])) := by
  have hs' := s.s_eq
  have hs2 := s.fJob.s_eq
  simp only [szs_eq] at hs' hs2
  have hok := ValidService s (by omega)
  simp only [DService.c_eq] at hok ⊢
  refine fnNF 22 keep12 ib12 mk12 mix Tryz.func12 rfl (by kernel_rfl) (by simp) fun h => ?_
  simp (maxSteps := 1000000) -dsimp -implicitDefEqProofs only [go_sem, ↓reduceIte, keep12, ib12, mk12, Tryz.f12]
  first | refine HFnF.mk (hok) ?_ | refine CallSF.mk (hok) ?_ | refine HFnF.mkAt (hok) ?_ | refine CallSF.mk (FnAt.fn0 (hok)) ?_
  simp (maxSteps := 1000000) -dsimp -implicitDefEqProofs only [go_sem, ↓reduceIte, keep12, ib12, mk12, Tryz.f12]
  refine ⟨fun hn => ?_, fun hy => ?_⟩
  · have hn' : ¬ s.ok := by simpa using hn
    rw [sumRes_1 hn']
    try simp (maxSteps := 1000000) -dsimp -implicitDefEqProofs only [go_sem, ↓reduceIte, keep12, ib12, mk12, Tryz.f12]
    exact own_nil3 (Heap.le_refl _)
  have hy' : s.ok := by simpa using hy
  try simp (maxSteps := 1000000) -dsimp -implicitDefEqProofs only [go_sem, ↓reduceIte, keep12, ib12, mk12, Tryz.f12]
  first | refine HFnF.mk (slContB s.fKnown false) ?_ | refine CallSF.mk (slContB s.fKnown false) ?_ | refine HFnF.mkAt (slContB s.fKnown false) ?_ | refine CallSF.mk (FnAt.fn0 (slContB s.fKnown false)) ?_
  simp (maxSteps := 1000000) -dsimp -implicitDefEqProofs only [go_sem, ↓reduceIte, keep12, ib12, mk12, Tryz.f12]
  refine ⟨fun hn => ?_, fun hn => ?_⟩
  · have hn' : false ∈ s.fKnown := by simpa using hn
    rw [sumRes_4 hy' hn']
    try simp (maxSteps := 1000000) -dsimp -implicitDefEqProofs only [go_sem, ↓reduceIte, keep12, ib12, mk12, Tryz.f12]
    exact own_nil3 (Heap.le_refl _)
  have hn' : ¬ false ∈ s.fKnown := by simpa using hn
  have hsh := shared_ok hy'.1
  rw [sumRes_ok hy' hn']
  try simp (maxSteps := 1000000) -dsimp -implicitDefEqProofs only [go_sem, ↓reduceIte, keep12, ib12, mk12, Tryz.f12]
  refine HFnF.wn0 (summed s.fParts s.fJob.fShared (by omega) (by omega) (parts_ok hy' hn')) ?_
  rintro r l g ⟨y, oy, rfl, rfl⟩ wn
  simp (maxSteps := 1000000) -dsimp -implicitDefEqProofs only [go_sem, ↓reduceIte, keep12, ib12, mk12, Tryz.f12, oy.flat, oy.one]
  exact ⟨_, g, _, shift_self _ _, ⟨y, oy, rfl, rfl⟩, wn⟩
noncomputable def totC (s : DService) : Int × List Int × Int := if false ∈ s.fKnown then (0, [], 4) else sumG s.fParts 0 (List.replicate s.fJob.fShared.toNat 0)
theorem totC_4 {s : DService} (h2 : false ∈ s.fKnown) : totC s = (0, [], 4) := if_pos h2
theorem totC_ok {s : DService} (h2 : ¬ false ∈ s.fKnown) : totC s = sumG s.fParts 0 (List.replicate s.fJob.fShared.toNat 0) := if_neg h2
theorem sumRes_tot {s : DService} (h : s.ok) : sumRes s = totC s := by rw [sumRes, if_pos h]; rfl
def keep45 : List Nat := [0, 2, 3, 4, 5, 12, 22]
def ib45 : List Nat := [23]
def mk45 : Marks := fun id => match id with | 6 => ([9], (.op 0 (.op 1 (.op 2 (.op 3 (.op 4 (.op 5 (.op 6 (.op 7 (.op 8 (.op 9 (.op 10 (.op 11 (.op 12 (.op 13 (.op 14 (.op 15 .nil)))))))))))))))), []) | _ => ([], .nil, [])
set_option maxRecDepth 100000 in
set_option maxHeartbeats 1000000 in
theorem l08Total (s : DService) (hs : s.s ≤ 1048576) (hok : s.ok) : FnN Tryz.prog 45 [.ip 9 [s.c] 0 0] (QS (OS (oP I) 1 (totC s).2.1) (fun y => .tup [I (totC s).1, y, I (totC s).2.2])) := by
  have hs' := s.s_eq
  have hs2 := s.fJob.s_eq
  simp only [szs_eq] at hs' hs2
  simp only [DService.c_eq]
  refine fnNF 37 keep45 ib45 mk45 mix Tryz.func45 rfl (by kernel_rfl) (by simp) fun h => ?_
  simp (maxSteps := 1000000) -dsimp -implicitDefEqProofs only [go_sem, ↓reduceIte, keep45, ib45, mk45, Tryz.f45]
  refine loopSame (keep := keep45) (ib := ib45) (mk := mk45) mix (by kernel_rfl) (fun k : Nat => [(0, .ip 9 [s.c] 0 0), (5, I k)]) (fun k => k ≤ s.fKnown.length ∧ ∀ x ∈ s.fKnown.take k, x = true) (fun k => s.fKnown.length - k) 0 ⟨by simp [SatL, tget, DService.c_eq], Nat.zero_le _, by simp⟩ ?_
  rintro k ⟨hk, ha⟩
  simp only [DService.c_eq]
  rcases Nat.lt_or_ge k s.fKnown.length with hlt | hge
  · have ea : s.fKnown[k]? = some s.fKnown[k] := List.getElem?_eq_getElem hlt
    cases hb : s.fKnown[k]
    all_goals
      rw [hb] at ea
      simp (maxSteps := 1000000) -dsimp -implicitDefEqProofs only [go_sem, ↓reduceIte, keep45, ib45, mk45, Tryz.f45, hlt, ea]
      intro _
    · have hm : false ∈ s.fKnown := by rw [← hb]; exact List.getElem_mem hlt
      rw [totC_4 hm]
      exact ⟨Nat.zero_lt_one, own_emp3 (Heap.le_refl _)⟩
    · refine ⟨k + 1, by rw [IntWalk.i64_in _ (by omega)]; rfl, ⟨by omega, fun x hx => ?_⟩, by omega⟩
      rw [List.take_succ_eq_append_getElem hlt, List.mem_append, List.mem_singleton, hb] at hx
      rcases hx with hx | hx
      · exact ha x hx
      · exact hx
  · have hk' : k = s.fKnown.length := by omega
    subst hk'
    have hnf : ¬ false ∈ s.fKnown := fun z => by have := ha false (by rw [List.take_length]; exact z); cases this
    have hsh := shared_ok hok.1
    rw [totC_ok hnf]
    simp (maxSteps := 1000000) -dsimp -implicitDefEqProofs only [go_sem, ↓reduceIte, keep45, ib45, mk45, Tryz.f45, Nat.lt_irrefl, Int.lt_irrefl]
    intro _
    refine HFnF.wn0 (l08Sum s.fParts s.fJob.fShared (by omega) (by omega) (parts_ok hok hnf)) ?_
    rintro r l g ⟨y, oy, rfl, rfl⟩ wn
    simp (maxSteps := 1000000) -dsimp -implicitDefEqProofs only [go_sem, ↓reduceIte, keep45, ib45, mk45, Tryz.f45, oy.flat, oy.one]
    exact ⟨_, g, _, shift_self _ _, ⟨y, oy, rfl, rfl⟩, wn⟩
def keep10 : List Nat := [0, 1, 2, 3, 4, 6]
def ib10 : List Nat := [1, 7]
def mk10 : Marks := fun _ => ([], .nil, [])
set_option maxRecDepth 100000 in
set_option maxHeartbeats 1000000 in
theorem specSumOf (s : DService) (hs : s.s ≤ 1048576) : FnN Tryz.prog 10 [.agg s.c] (QS (OS (oP I) 1 (sumRes s).2.1) (fun y => .tup [I (sumRes s).1, y, I (sumRes s).2.2])) := by
  have hs' := s.s_eq
  have hs2 := s.fJob.s_eq
  simp only [szs_eq] at hs' hs2
  have hok := l08Ok s (by omega)
  simp only [DService.c_eq] at hok ⊢
  refine fnNF 12 keep10 ib10 mk10 mix Tryz.func10 rfl (by kernel_rfl) (by simp) fun h => ?_
  simp (maxSteps := 1000000) -dsimp -implicitDefEqProofs only [go_sem, ↓reduceIte, keep10, ib10, mk10, Tryz.f10]
  first | refine HFnF.mk (hok) ?_ | refine CallSF.mk (hok) ?_ | refine HFnF.mkAt (hok) ?_ | refine CallSF.mk (FnAt.fn0 (hok)) ?_
  simp (maxSteps := 1000000) -dsimp -implicitDefEqProofs only [go_sem, ↓reduceIte, keep10, ib10, mk10, Tryz.f10]
  refine ⟨fun hn => ?_, fun hy => ?_⟩
  · have hn' : ¬ s.ok := by simpa using hn
    rw [sumRes_1 hn']
    try simp (maxSteps := 1000000) -dsimp -implicitDefEqProofs only [go_sem, ↓reduceIte, keep10, ib10, mk10, Tryz.f10]
    exact ⟨Nat.zero_lt_one, own_emp3 (Heap.le_refl _)⟩
  have hy' : s.ok := by simpa using hy
  have ht := l08Total s hs hy'
  simp only [DService.c_eq] at ht
  rw [sumRes_tot hy']
  try simp (maxSteps := 1000000) -dsimp -implicitDefEqProofs only [go_sem, ↓reduceIte, keep10, ib10, mk10, Tryz.f10]
  refine HFnF.wn0 ht ?_
  rintro r l g ⟨y, oy, rfl, rfl⟩ wn
  simp (maxSteps := 1000000) -dsimp -implicitDefEqProofs only [go_sem, ↓reduceIte, keep10, ib10, mk10, Tryz.f10, oy.flat, oy.one]
  exact ⟨_, g, _, shift_self _ _, ⟨y, oy, rfl, rfl⟩, wn⟩
theorem sumG_len : ∀ (l : List DPart) (v : Int) (g : List Int), (sumG l v g).2.1.length ≤ g.length
  | [], v, g => Nat.le_refl _
  | p :: ps, v, g => by
    rw [sumG]; split
    · refine Nat.le_trans (sumG_len ps _ _) ?_
      simp [addL]; omega
    · simp
theorem sumRes_len (s : DService) : (sumRes s).2.1.length ≤ 12 := by
  by_cases h : s.ok
  · by_cases h2 : false ∈ s.fKnown
    · rw [sumRes_4 h h2]; simp
    · rw [sumRes_ok h h2]
      have := sumG_len s.fParts 0 (List.replicate s.fJob.fShared.toNat 0)
      have := shared_ok h.1
      simp at *; omega
  · rw [sumRes_1 h]; simp
open Go.Proofs
set_option linter.unusedVariables false
set_option linter.unusedSimpArgs false


def keep144 : List Nat := [0, 1, 4, 5, 11, 15, 25]
def ib144 : List Nat := []
def mk144 : Marks := fun _ => ([], .nil, [])
set_option maxRecDepth 100000 in
theorem sz_ExprS (l : List DExpr) (left : Int) (h0 : 0 ≤ left) (h1 : left ≤ 1048576) (hc : ∀ x ∈ l, ∀ left : Int, 0 ≤ left → left ≤ 1048576 → Fn0 Tryz.prog 156 [(.agg (DExpr.c x)), I left] (I (lft left ((DExpr.s x))))) : Fn0 Tryz.prog 144 [sls 5 DExpr.c l, I left] (I (lft left (szs DExpr.s l))) := by
  refine fn0F 27 keep144 ib144 mk144 mix Tryz.func144 rfl (by kernel_rfl) (by simp) fun h => ?_
  simp -dsimp -implicitDefEqProofs only [go_sem, Tryz.f144, ↓reduceIte, keep144, ib144, mk144]
  intro hl
  rw [IntWalk.i64_in _ (by omega)]
  refine ⟨fun hn => ?_, fun hn => ?_⟩
  · exact (lft_neg (by rw [szs_eq]; omega)).symm
  · refine loopF (keep := keep144) (ib := ib144) (mk := mk144) mix (by kernel_rfl) (fun k : Nat => [(0, sls 5 DExpr.c l), (1, I (left - l.length - (((l.take k).map DExpr.s).sum : Int))), (5, I k)]) (fun _ => h) (fun k => k ≤ l.length ∧ 0 ≤ left - l.length - (((l.take k).map DExpr.s).sum : Int)) (fun k => l.length - k) 0 (by simp [SatL, tget, Heap.le_refl]; omega) ?_
    intro k ⟨hk, hb⟩
    rcases Nat.lt_or_ge k l.length with hlt | hge
    · have ea : l[k]? = some l[k] := List.getElem?_eq_getElem hlt
      simp -dsimp -implicitDefEqProofs only [go_sem, ↓reduceIte, keep144, ib144, mk144, Tryz.f144, ea, DExpr.c_eq]
      refine fun _ => ⟨fun _ => ⟨hlt, ?_⟩, fun hn => absurd hlt hn⟩
      have hx := hc l[k] (List.getElem_mem hlt) (left - l.length - (((l.take k).map DExpr.s).sum : Int)) (by omega) (by omega)
      simp only [DExpr.c_eq] at hx
      refine HFnF.mk hx ?_
      have hs := sum_take_succ DExpr.s l k hlt
      have hs' := sum_take_le DExpr.s l (k + 1)
      try dsimp only at hs
      rcases lft_cases (left - l.length - (((l.take k).map DExpr.s).sum : Int)) ((DExpr.s l[k])) with ⟨e, hl1⟩ | ⟨e, hl1⟩
      · simp -dsimp -implicitDefEqProofs only [go_sem, ↓reduceIte, keep144, ib144, mk144, Tryz.f144, e]
        exact (lft_neg (by rw [szs_eq]; omega)).symm
      · have hn1 : (left - l.length - (((l.take k).map DExpr.s).sum : Int) - ((DExpr.s l[k]) : Int) < 0) = False := eq_false (by omega)
        simp -dsimp -implicitDefEqProofs only [go_sem, ↓reduceIte, keep144, ib144, mk144, Tryz.f144, e, hn1]
        refine ⟨k + 1, ⟨?_, ?_⟩, ⟨by omega, by rw [hs]; omega⟩, by omega⟩
        · rw [hs]; omega
        · rw [IntWalk.i64_in _ (by omega)]; rfl
    · have hk' : k = l.length := by omega
      subst hk'
      simp -dsimp -implicitDefEqProofs only [go_sem, ↓reduceIte, keep144, ib144, mk144, Tryz.f144, Nat.lt_irrefl]
      refine fun _ => ?_
      rw [List.take_length] at hb ⊢
      rw [lft_pos (by rw [szs_eq]; omega), szs_eq]
      omega

def keep156 : List Nat := [0, 1, 2, 4, 10]
def ib156 : List Nat := [2]
def mk156 : Marks := fun _ => ([], .nil, [])
set_option maxRecDepth 100000 in
theorem sz_Expr_step (x : DExpr) (left : Int) (h0 : 0 ≤ left) (h1 : left ≤ 1048576) (hk : ∀ left : Int, 0 ≤ left → left ≤ 1048576 → Fn0 Tryz.prog 144 [(sls 5 DExpr.c x.fKids), I left] (I (lft left (szs DExpr.s x.fKids)))) : Fn0 Tryz.prog 156 [.agg x.c, I left] (I (lft left x.s)) := by
  rw [DExpr.s_eq]
  simp only [DExpr.c_eq]
  refine fn0F 12 keep156 ib156 mk156 mix Tryz.func156 rfl (by kernel_rfl) (by simp) fun h => ?_
  simp -dsimp -implicitDefEqProofs only [go_sem, Tryz.f156, ↓reduceIte, keep156, ib156, mk156]
  refine HFnF.mk (hk left (by omega) (by omega)) ?_
  rcases lft_cases left (szs DExpr.s x.fKids) with ⟨e, hl1⟩ | ⟨e, hl1⟩
  · simp -dsimp -implicitDefEqProofs only [go_sem, ↓reduceIte, keep156, ib156, mk156, Tryz.f156, e]
  · have hn1 : (left - ((szs DExpr.s x.fKids) : Int) < 0) = False := eq_false (by omega)
    simp -dsimp -implicitDefEqProofs only [go_sem, ↓reduceIte, keep156, ib156, mk156, Tryz.f156, e, hn1]
  try (rw [lft_pos (by omega)]; omega)
theorem sz_Expr (x : DExpr) (left : Int) (h0 : 0 ≤ left) (h1 : left ≤ 1048576) : Fn0 Tryz.prog 156 [.agg x.c, I left] (I (lft left x.s)) :=
  sz_Expr_step x left h0 h1 fun left h0 h1 => sz_ExprS x.fKids left h0 h1 fun y hy left h0 h1 => sz_Expr y left h0 h1
termination_by SizeOf.sizeOf x
decreasing_by exact DExpr.kid_lt hy

def keep131 : List Nat := [0, 1, 2, 4, 11, 17]
def ib131 : List Nat := [2]
def mk131 : Marks := fun _ => ([], .nil, [])
set_option maxRecDepth 100000 in
theorem sz_Func (x : DFunc) (left : Int) (h0 : 0 ≤ left) (h1 : left ≤ 1048576) : Fn0 Tryz.prog 131 [.agg x.c, I left] (I (lft left x.s)) := by
  rw [DFunc.s_eq]
  simp only [DFunc.c_eq]
  refine fn0F 19 keep131 ib131 mk131 mix Tryz.func131 rfl (by kernel_rfl) (by simp) fun h => ?_
  simp -dsimp -implicitDefEqProofs only [go_sem, Tryz.f131, ↓reduceIte, keep131, ib131, mk131]
  refine fun hl0 => ?_
  rw [IntWalk.i64_in _ (by omega)]
  generalize hL0 : left - ((x.fName.length : Nat) : Int) = L0
  refine ⟨fun hn => (lft_neg (by omega)).symm, fun hn0 => ?_⟩
  refine HFnF.mk (sz_ExprS x.fOuts (L0) (by omega) (by omega) (fun x _ left h0 h1 => sz_Expr x left h0 h1)) ?_
  generalize hL1 : lft (L0) (szs DExpr.s x.fOuts) = L1
  simp -dsimp -implicitDefEqProofs only [go_sem, ↓reduceIte, keep131, ib131, mk131, Tryz.f131]
  have hs1 := lft_step hL1
  refine ⟨fun hn => (lft_neg (by have := hs1.1 hn; omega)).symm, fun hn1 => ?_⟩
  have hp1 := hs1.2 hn1
  clear hs1 hL1
  try (rw [lft_pos (by omega)]; omega)

def keep105 : List Nat := [0, 1, 4, 5, 11, 15, 25]
def ib105 : List Nat := []
def mk105 : Marks := fun _ => ([], .nil, [])
set_option maxRecDepth 100000 in
theorem sz_FuncS (l : List DFunc) (left : Int) (h0 : 0 ≤ left) (h1 : left ≤ 1048576) (hc : ∀ x ∈ l, ∀ left : Int, 0 ≤ left → left ≤ 1048576 → Fn0 Tryz.prog 131 [(.agg (DFunc.c x)), I left] (I (lft left ((DFunc.s x))))) : Fn0 Tryz.prog 105 [sls 3 DFunc.c l, I left] (I (lft left (szs DFunc.s l))) := by
  refine fn0F 27 keep105 ib105 mk105 mix Tryz.func105 rfl (by kernel_rfl) (by simp) fun h => ?_
  simp -dsimp -implicitDefEqProofs only [go_sem, Tryz.f105, ↓reduceIte, keep105, ib105, mk105]
  intro hl
  rw [IntWalk.i64_in _ (by omega)]
  refine ⟨fun hn => ?_, fun hn => ?_⟩
  · exact (lft_neg (by rw [szs_eq]; omega)).symm
  · refine loopF (keep := keep105) (ib := ib105) (mk := mk105) mix (by kernel_rfl) (fun k : Nat => [(0, sls 3 DFunc.c l), (1, I (left - l.length - (((l.take k).map DFunc.s).sum : Int))), (5, I k)]) (fun _ => h) (fun k => k ≤ l.length ∧ 0 ≤ left - l.length - (((l.take k).map DFunc.s).sum : Int)) (fun k => l.length - k) 0 (by simp [SatL, tget, Heap.le_refl]; omega) ?_
    intro k ⟨hk, hb⟩
    rcases Nat.lt_or_ge k l.length with hlt | hge
    · have ea : l[k]? = some l[k] := List.getElem?_eq_getElem hlt
      simp -dsimp -implicitDefEqProofs only [go_sem, ↓reduceIte, keep105, ib105, mk105, Tryz.f105, ea, DFunc.c_eq]
      refine fun _ => ⟨fun _ => ⟨hlt, ?_⟩, fun hn => absurd hlt hn⟩
      have hx := hc l[k] (List.getElem_mem hlt) (left - l.length - (((l.take k).map DFunc.s).sum : Int)) (by omega) (by omega)
      simp only [DFunc.c_eq] at hx
      refine HFnF.mk hx ?_
      have hs := sum_take_succ DFunc.s l k hlt
      have hs' := sum_take_le DFunc.s l (k + 1)
      try dsimp only at hs
      rcases lft_cases (left - l.length - (((l.take k).map DFunc.s).sum : Int)) ((DFunc.s l[k])) with ⟨e, hl1⟩ | ⟨e, hl1⟩
      · simp -dsimp -implicitDefEqProofs only [go_sem, ↓reduceIte, keep105, ib105, mk105, Tryz.f105, e]
        exact (lft_neg (by rw [szs_eq]; omega)).symm
      · have hn1 : (left - l.length - (((l.take k).map DFunc.s).sum : Int) - ((DFunc.s l[k]) : Int) < 0) = False := eq_false (by omega)
        simp -dsimp -implicitDefEqProofs only [go_sem, ↓reduceIte, keep105, ib105, mk105, Tryz.f105, e, hn1]
        refine ⟨k + 1, ⟨?_, ?_⟩, ⟨by omega, by rw [hs]; omega⟩, by omega⟩
        · rw [hs]; omega
        · rw [IntWalk.i64_in _ (by omega)]; rfl
    · have hk' : k = l.length := by omega
      subst hk'
      simp -dsimp -implicitDefEqProofs only [go_sem, ↓reduceIte, keep105, ib105, mk105, Tryz.f105, Nat.lt_irrefl]
      refine fun _ => ?_
      rw [List.take_length] at hb ⊢
      rw [lft_pos (by rw [szs_eq]; omega), szs_eq]
      omega

def keep55 : List Nat := [0, 1, 2, 4, 10]
def ib55 : List Nat := [2]
def mk55 : Marks := fun _ => ([], .nil, [])
set_option maxRecDepth 100000 in
theorem sz_Program (x : DProgram) (left : Int) (h0 : 0 ≤ left) (h1 : left ≤ 1048576) : Fn0 Tryz.prog 55 [.agg x.c, I left] (I (lft left x.s)) := by
  rw [DProgram.s_eq]
  simp only [DProgram.c_eq]
  refine fn0F 12 keep55 ib55 mk55 mix Tryz.func55 rfl (by kernel_rfl) (by simp) fun h => ?_
  simp -dsimp -implicitDefEqProofs only [go_sem, Tryz.f55, ↓reduceIte, keep55, ib55, mk55]
  refine HFnF.mk (sz_FuncS x.fFuncs left (by omega) (by omega) (fun x _ left h0 h1 => sz_Func x left h0 h1)) ?_
  rcases lft_cases left (szs DFunc.s x.fFuncs) with ⟨e, hl1⟩ | ⟨e, hl1⟩
  · simp -dsimp -implicitDefEqProofs only [go_sem, ↓reduceIte, keep55, ib55, mk55, Tryz.f55, e]
  · have hn1 : (left - ((szs DFunc.s x.fFuncs) : Int) < 0) = False := eq_false (by omega)
    simp -dsimp -implicitDefEqProofs only [go_sem, ↓reduceIte, keep55, ib55, mk55, Tryz.f55, e, hn1]
  try (rw [lft_pos (by omega)]; omega)

def keep41 : List Nat := [0, 1, 4, 10]
def ib41 : List Nat := []
def mk41 : Marks := fun _ => ([], .nil, [])
set_option maxRecDepth 100000 in
theorem sz_Int64S (sz : Nat) (es : List (List HVal)) (tg : Bool) (left : Int) (h0 : 0 ≤ left) (h1 : left ≤ 1048576) : Fn0 Tryz.prog 41 [.sl sz es tg, I left] (I (lft left es.length)) := by
  refine fn0F 12 keep41 ib41 mk41 mix Tryz.func41 rfl (by kernel_rfl) (by simp) fun h => ?_
  simp -dsimp -implicitDefEqProofs only [go_sem, Tryz.f41, ↓reduceIte, keep41, ib41, mk41]
  intro hl
  rw [IntWalk.i64_in _ (by omega)]
  refine ⟨fun hn => ?_, fun hn => ?_⟩
  · exact (lft_neg hn).symm
  · exact (lft_pos (by omega)).symm

def keep56 : List Nat := [0, 1, 4, 5, 11, 15, 25]
def ib56 : List Nat := []
def mk56 : Marks := fun _ => ([], .nil, [])
set_option maxRecDepth 100000 in
theorem sz_Int64SS (l : List (List Int)) (left : Int) (h0 : 0 ≤ left) (h1 : left ≤ 1048576) (hc : ∀ x ∈ l, ∀ left : Int, 0 ≤ left → left ≤ 1048576 → Fn0 Tryz.prog 41 [(sls 1 (fun n => [I n]) x), I left] (I (lft left (x.length)))) : Fn0 Tryz.prog 56 [sls 1 (fun x => [sls 1 (fun n => [I n]) x]) l, I left] (I (lft left (szs (fun x : List Int => x.length) l))) := by
  refine fn0F 27 keep56 ib56 mk56 mix Tryz.func56 rfl (by kernel_rfl) (by simp) fun h => ?_
  simp -dsimp -implicitDefEqProofs only [go_sem, Tryz.f56, ↓reduceIte, keep56, ib56, mk56]
  intro hl
  rw [IntWalk.i64_in _ (by omega)]
  refine ⟨fun hn => ?_, fun hn => ?_⟩
  · exact (lft_neg (by rw [szs_eq]; omega)).symm
  · refine loopF (keep := keep56) (ib := ib56) (mk := mk56) mix (by kernel_rfl) (fun k : Nat => [(0, sls 1 (fun x => [sls 1 (fun n => [I n]) x]) l), (1, I (left - l.length - (((l.take k).map (fun x : List Int => x.length)).sum : Int))), (5, I k)]) (fun _ => h) (fun k => k ≤ l.length ∧ 0 ≤ left - l.length - (((l.take k).map (fun x : List Int => x.length)).sum : Int)) (fun k => l.length - k) 0 (by simp [SatL, tget, Heap.le_refl]; omega) ?_
    intro k ⟨hk, hb⟩
    rcases Nat.lt_or_ge k l.length with hlt | hge
    · have ea : l[k]? = some l[k] := List.getElem?_eq_getElem hlt
      simp -dsimp -implicitDefEqProofs only [go_sem, ↓reduceIte, keep56, ib56, mk56, Tryz.f56, ea]
      refine fun _ => ⟨fun _ => ⟨hlt, ?_⟩, fun hn => absurd hlt hn⟩
      have hx := hc l[k] (List.getElem_mem hlt) (left - l.length - (((l.take k).map (fun x : List Int => x.length)).sum : Int)) (by omega) (by omega)
      refine HFnF.mk hx ?_
      have hs := sum_take_succ (fun x : List Int => x.length) l k hlt
      have hs' := sum_take_le (fun x : List Int => x.length) l (k + 1)
      try dsimp only at hs
      rcases lft_cases (left - l.length - (((l.take k).map (fun x : List Int => x.length)).sum : Int)) (l[k].length) with ⟨e, hl1⟩ | ⟨e, hl1⟩
      · simp -dsimp -implicitDefEqProofs only [go_sem, ↓reduceIte, keep56, ib56, mk56, Tryz.f56, e]
        exact (lft_neg (by rw [szs_eq]; omega)).symm
      · have hn1 : (left - l.length - (((l.take k).map (fun x : List Int => x.length)).sum : Int) - (l[k].length : Int) < 0) = False := eq_false (by omega)
        simp -dsimp -implicitDefEqProofs only [go_sem, ↓reduceIte, keep56, ib56, mk56, Tryz.f56, e, hn1]
        refine ⟨k + 1, ⟨?_, ?_⟩, ⟨by omega, by rw [hs]; omega⟩, by omega⟩
        · rw [hs]; omega
        · rw [IntWalk.i64_in _ (by omega)]; rfl
    · have hk' : k = l.length := by omega
      subst hk'
      simp -dsimp -implicitDefEqProofs only [go_sem, ↓reduceIte, keep56, ib56, mk56, Tryz.f56, Nat.lt_irrefl]
      refine fun _ => ?_
      rw [List.take_length] at hb ⊢
      rw [lft_pos (by rw [szs_eq]; omega), szs_eq]
      omega

def keep18 : List Nat := [0, 1, 2, 4, 10, 16, 22]
def ib18 : List Nat := [2]
def mk18 : Marks := fun _ => ([], .nil, [])
set_option maxRecDepth 100000 in
theorem sz_Job (x : DJob) (left : Int) (h0 : 0 ≤ left) (h1 : left ≤ 1048576) : Fn0 Tryz.prog 18 [.agg x.c, I left] (I (lft left x.s)) := by
  rw [DJob.s_eq]
  simp only [DJob.c_eq]
  refine fn0F 24 keep18 ib18 mk18 mix Tryz.func18 rfl (by kernel_rfl) (by simp) fun h => ?_
  simp -dsimp -implicitDefEqProofs only [go_sem, Tryz.f18, ↓reduceIte, keep18, ib18, mk18]
  refine HFnF.mk (sz_Program x.fProgram (left) (by omega) (by omega)) ?_
  generalize hL0 : lft left (DProgram.s x.fProgram) = L0
  simp -dsimp -implicitDefEqProofs only [go_sem, ↓reduceIte, keep18, ib18, mk18, Tryz.f18]
  have hs0 := lft_step hL0
  refine ⟨fun hn => (lft_neg (by have := hs0.1 hn; omega)).symm, fun hn0 => ?_⟩
  have hp0 := hs0.2 hn0
  clear hs0 hL0
  refine HFnF.mk (sz_Int64S _ _ _ (L0) (by omega) (by omega)) ?_
  rw [List.length_map]
  generalize hL1 : lft (L0) x.fPoint.length = L1
  simp -dsimp -implicitDefEqProofs only [go_sem, ↓reduceIte, keep18, ib18, mk18, Tryz.f18]
  have hs1 := lft_step hL1
  refine ⟨fun hn => (lft_neg (by have := hs1.1 hn; omega)).symm, fun hn1 => ?_⟩
  have hp1 := hs1.2 hn1
  clear hs1 hL1
  refine HFnF.mk (sz_Int64SS x.fTerms (L1) (by omega) (by omega) (fun x _ left h0 h1 => (by have hq := sz_Int64S 1 (x.map (fun n => [I n])) false left h0 h1; rw [List.length_map] at hq; exact hq))) ?_
  generalize hL2 : lft (L1) (szs (fun x : List Int => x.length) x.fTerms) = L2
  simp -dsimp -implicitDefEqProofs only [go_sem, ↓reduceIte, keep18, ib18, mk18, Tryz.f18]
  have hs2 := lft_step hL2
  refine ⟨fun hn => (lft_neg (by have := hs2.1 hn; omega)).symm, fun hn2 => ?_⟩
  have hp2 := hs2.2 hn2
  clear hs2 hL2
  try (rw [lft_pos (by omega)]; omega)


def keep42 : List Nat := [0, 1, 4, 10]
def ib42 : List Nat := []
def mk42 : Marks := fun _ => ([], .nil, [])
set_option maxRecDepth 100000 in
theorem sz_BoolS (sz : Nat) (es : List (List HVal)) (tg : Bool) (left : Int) (h0 : 0 ≤ left) (h1 : left ≤ 1048576) : Fn0 Tryz.prog 42 [.sl sz es tg, I left] (I (lft left es.length)) := by
  refine fn0F 12 keep42 ib42 mk42 mix Tryz.func42 rfl (by kernel_rfl) (by simp) fun h => ?_
  simp -dsimp -implicitDefEqProofs only [go_sem, Tryz.f42, ↓reduceIte, keep42, ib42, mk42]
  intro hl
  rw [IntWalk.i64_in _ (by omega)]
  refine ⟨fun hn => ?_, fun hn => ?_⟩
  · exact (lft_neg hn).symm
  · exact (lft_pos (by omega)).symm

def keep90 : List Nat := [0, 1, 2, 4, 10]
def ib90 : List Nat := [2]
def mk90 : Marks := fun _ => ([], .nil, [])
set_option maxRecDepth 100000 in
theorem sz_Part (x : DPart) (left : Int) (h0 : 0 ≤ left) (h1 : left ≤ 1048576) : Fn0 Tryz.prog 90 [.agg x.c, I left] (I (lft left x.s)) := by
  rw [DPart.s_eq]
  simp only [DPart.c_eq]
  refine fn0F 12 keep90 ib90 mk90 mix Tryz.func90 rfl (by kernel_rfl) (by simp) fun h => ?_
  simp -dsimp -implicitDefEqProofs only [go_sem, Tryz.f90, ↓reduceIte, keep90, ib90, mk90]
  refine HFnF.mk (sz_Int64S _ _ _ left (by omega) (by omega)) ?_
  rw [List.length_map]
  rcases lft_cases left x.fGrad.length with ⟨e, hl1⟩ | ⟨e, hl1⟩
  · simp -dsimp -implicitDefEqProofs only [go_sem, ↓reduceIte, keep90, ib90, mk90, Tryz.f90, e]
  · have hn1 : (left - (x.fGrad.length : Int) < 0) = False := eq_false (by omega)
    simp -dsimp -implicitDefEqProofs only [go_sem, ↓reduceIte, keep90, ib90, mk90, Tryz.f90, e, hn1]
  try (rw [lft_pos (by omega)]; omega)

def keep43 : List Nat := [0, 1, 4, 5, 11, 15, 25]
def ib43 : List Nat := []
def mk43 : Marks := fun _ => ([], .nil, [])
set_option maxRecDepth 100000 in
theorem sz_PartS (l : List DPart) (left : Int) (h0 : 0 ≤ left) (h1 : left ≤ 1048576) (hc : ∀ x ∈ l, ∀ left : Int, 0 ≤ left → left ≤ 1048576 → Fn0 Tryz.prog 90 [(.agg (DPart.c x)), I left] (I (lft left ((DPart.s x))))) : Fn0 Tryz.prog 43 [sls 3 DPart.c l, I left] (I (lft left (szs DPart.s l))) := by
  refine fn0F 27 keep43 ib43 mk43 mix Tryz.func43 rfl (by kernel_rfl) (by simp) fun h => ?_
  simp -dsimp -implicitDefEqProofs only [go_sem, Tryz.f43, ↓reduceIte, keep43, ib43, mk43]
  intro hl
  rw [IntWalk.i64_in _ (by omega)]
  refine ⟨fun hn => ?_, fun hn => ?_⟩
  · exact (lft_neg (by rw [szs_eq]; omega)).symm
  · refine loopF (keep := keep43) (ib := ib43) (mk := mk43) mix (by kernel_rfl) (fun k : Nat => [(0, sls 3 DPart.c l), (1, I (left - l.length - (((l.take k).map DPart.s).sum : Int))), (5, I k)]) (fun _ => h) (fun k => k ≤ l.length ∧ 0 ≤ left - l.length - (((l.take k).map DPart.s).sum : Int)) (fun k => l.length - k) 0 (by simp [SatL, tget, Heap.le_refl]; omega) ?_
    intro k ⟨hk, hb⟩
    rcases Nat.lt_or_ge k l.length with hlt | hge
    · have ea : l[k]? = some l[k] := List.getElem?_eq_getElem hlt
      simp -dsimp -implicitDefEqProofs only [go_sem, ↓reduceIte, keep43, ib43, mk43, Tryz.f43, ea, DPart.c_eq]
      refine fun _ => ⟨fun _ => ⟨hlt, ?_⟩, fun hn => absurd hlt hn⟩
      have hx := hc l[k] (List.getElem_mem hlt) (left - l.length - (((l.take k).map DPart.s).sum : Int)) (by omega) (by omega)
      simp only [DPart.c_eq] at hx
      refine HFnF.mk hx ?_
      have hs := sum_take_succ DPart.s l k hlt
      have hs' := sum_take_le DPart.s l (k + 1)
      try dsimp only at hs
      rcases lft_cases (left - l.length - (((l.take k).map DPart.s).sum : Int)) ((DPart.s l[k])) with ⟨e, hl1⟩ | ⟨e, hl1⟩
      · simp -dsimp -implicitDefEqProofs only [go_sem, ↓reduceIte, keep43, ib43, mk43, Tryz.f43, e]
        exact (lft_neg (by rw [szs_eq]; omega)).symm
      · have hn1 : (left - l.length - (((l.take k).map DPart.s).sum : Int) - ((DPart.s l[k]) : Int) < 0) = False := eq_false (by omega)
        simp -dsimp -implicitDefEqProofs only [go_sem, ↓reduceIte, keep43, ib43, mk43, Tryz.f43, e, hn1]
        refine ⟨k + 1, ⟨?_, ?_⟩, ⟨by omega, by rw [hs]; omega⟩, by omega⟩
        · rw [hs]; omega
        · rw [IntWalk.i64_in _ (by omega)]; rfl
    · have hk' : k = l.length := by omega
      subst hk'
      simp -dsimp -implicitDefEqProofs only [go_sem, ↓reduceIte, keep43, ib43, mk43, Tryz.f43, Nat.lt_irrefl]
      refine fun _ => ?_
      rw [List.take_length] at hb ⊢
      rw [lft_pos (by rw [szs_eq]; omega), szs_eq]
      omega

def keep9 : List Nat := [0, 1, 2, 4, 10, 16, 22, 28, 34]
def ib9 : List Nat := [2]
def mk9 : Marks := fun _ => ([], .nil, [])
set_option maxRecDepth 100000 in
theorem sz_Service (x : DService) (left : Int) (h0 : 0 ≤ left) (h1 : left ≤ 1048576) : Fn0 Tryz.prog 9 [.agg x.c, I left] (I (lft left x.s)) := by
  rw [DService.s_eq]
  simp only [DService.c_eq]
  refine fn0F 36 keep9 ib9 mk9 mix Tryz.func9 rfl (by kernel_rfl) (by simp) fun h => ?_
  simp -dsimp -implicitDefEqProofs only [go_sem, Tryz.f9, ↓reduceIte, keep9, ib9, mk9]
  refine HFnF.mk (sz_Job x.fJob (left) (by omega) (by omega)) ?_
  generalize hL0 : lft left (DJob.s x.fJob) = L0
  simp -dsimp -implicitDefEqProofs only [go_sem, ↓reduceIte, keep9, ib9, mk9, Tryz.f9]
  have hs0 := lft_step hL0
  refine ⟨fun hn => (lft_neg (by have := hs0.1 hn; omega)).symm, fun hn0 => ?_⟩
  have hp0 := hs0.2 hn0
  clear hs0 hL0
  refine HFnF.mk (sz_Int64S _ _ _ (L0) (by omega) (by omega)) ?_
  rw [List.length_map]
  generalize hL1 : lft (L0) x.fStamps.length = L1
  simp -dsimp -implicitDefEqProofs only [go_sem, ↓reduceIte, keep9, ib9, mk9, Tryz.f9]
  have hs1 := lft_step hL1
  refine ⟨fun hn => (lft_neg (by have := hs1.1 hn; omega)).symm, fun hn1 => ?_⟩
  have hp1 := hs1.2 hn1
  clear hs1 hL1
  refine HFnF.mk (sz_BoolS _ _ _ (L1) (by omega) (by omega)) ?_
  rw [List.length_map]
  generalize hL2 : lft (L1) x.fKnown.length = L2
  simp -dsimp -implicitDefEqProofs only [go_sem, ↓reduceIte, keep9, ib9, mk9, Tryz.f9]
  have hs2 := lft_step hL2
  refine ⟨fun hn => (lft_neg (by have := hs2.1 hn; omega)).symm, fun hn2 => ?_⟩
  have hp2 := hs2.2 hn2
  clear hs2 hL2
  refine HFnF.mk (sz_PartS x.fParts (L2) (by omega) (by omega) (fun x _ left h0 h1 => sz_Part x left h0 h1)) ?_
  generalize hL3 : lft (L2) (szs DPart.s x.fParts) = L3
  simp -dsimp -implicitDefEqProofs only [go_sem, ↓reduceIte, keep9, ib9, mk9, Tryz.f9]
  have hs3 := lft_step hL3
  refine ⟨fun hn => (lft_neg (by have := hs3.1 hn; omega)).symm, fun hn3 => ?_⟩
  have hp3 := hs3.2 hn3
  clear hs3 hL3
  refine HFnF.mk (sz_Int64S _ _ _ (L3) (by omega) (by omega)) ?_
  rw [List.length_map]
  generalize hL4 : lft (L3) x.fOwners.length = L4
  simp -dsimp -implicitDefEqProofs only [go_sem, ↓reduceIte, keep9, ib9, mk9, Tryz.f9]
  have hs4 := lft_step hL4
  refine ⟨fun hn => (lft_neg (by have := hs4.1 hn; omega)).symm, fun hn4 => ?_⟩
  have hp4 := hs4.2 hn4
  clear hs4 hL4
  try (rw [lft_pos (by omega)]; omega)

open Go.Proofs
set_option linter.unusedVariables false
set_option linter.unusedSimpArgs false


def keep154 : List Nat := [0, 1, 4, 5, 10, 14, 26]
def ib154 : List Nat := []
def mk154 : Marks := fun id => match id with | 6 => ([], (.op 0 (.op 1 (.op 2 (.op 3 (.op 4 (.op 5 (.op 6 (.op 7 (.op 8 (.op 9 .nil)))))))))), []) | _ => ([], .nil, [])
set_option maxRecDepth 100000 in
theorem eq_ExprS (a b : List DExpr) (hc : ∀ x ∈ a, ∀ y, Fn0 Tryz.prog 165 [(.agg (DExpr.c x)), (.agg (DExpr.c y))] (.bool (decide (x = y)))) : Fn0 Tryz.prog 154 [(sls 5 DExpr.c a), (sls 5 DExpr.c b)] (.bool (decide (a = b))) := by
  refine fn0F 27 keep154 ib154 mk154 mix Tryz.func154 rfl (by kernel_rfl) (by simp) fun h => ?_
  simp -dsimp -implicitDefEqProofs only [go_sem, Tryz.f154, ↓reduceIte, keep154, ib154, mk154]
  refine fun _ _ => ⟨fun hne => ?_, fun heq => ?_⟩
  · exact (decide_eq_false fun e => hne (by rw [e])).symm
  · refine loopF (keep := keep154) (ib := ib154) (mk := mk154) mix (by kernel_rfl) (fun k : Nat => [(0, (sls 5 DExpr.c a)), (1, (sls 5 DExpr.c b)), (5, I k)]) (fun _ => h) (fun k => k ≤ a.length ∧ a.take k = b.take k) (fun k => a.length - k) 0 (by simp [SatL, tget, Heap.le_refl]) ?_
    intro k ⟨hk, hp⟩
    rcases Nat.lt_or_ge k a.length with hlt | hge
    · have hlb : k < b.length := by omega
      have ea : a[k]? = some a[k] := List.getElem?_eq_getElem hlt
      have eb : b[k]? = some b[k] := List.getElem?_eq_getElem hlb
      simp -dsimp -implicitDefEqProofs only [go_sem, ↓reduceIte, keep154, ib154, mk154, Tryz.f154, ea, eb, DExpr.c_eq]
      refine fun _ => ⟨fun _ => ⟨hlt, hlb, ?_⟩, fun hn => absurd hlt hn⟩
      have hx := hc a[k] (List.getElem_mem hlt) b[k]
      simp only [DExpr.c_eq] at hx
      refine CallSF.mk hx ?_
      by_cases he : a[k] = b[k]
      · have d := decide_eq_true he
        simp -dsimp -implicitDefEqProofs only [go_sem, ↓reduceIte, keep154, ib154, mk154, Tryz.f154, d]
        exact ⟨k + 1, by rw [IntWalk.i64_in _ (by omega)]; rfl, ⟨by omega, take_step hlt hlb hp he⟩, by omega⟩
      · have d := decide_eq_false he
        simp -dsimp -implicitDefEqProofs only [go_sem, ↓reduceIte, keep154, ib154, mk154, Tryz.f154, d]
        exact (decide_eq_false fun e => he (getElem_of_eq e hlt)).symm
    · have hk' : k = a.length := by omega
      subst hk'
      simp -dsimp -implicitDefEqProofs only [go_sem, ↓reduceIte, keep154, ib154, mk154, Tryz.f154, Nat.lt_irrefl]
      exact fun _ => (decide_eq_true (eq_of_take heq hp)).symm

def keep165 : List Nat := [0, 1, 2, 3, 4, 9, 14, 19, 24, 30]
def ib165 : List Nat := [2, 3]
def mk165 : Marks := fun _ => ([], .nil, [])
set_option maxRecDepth 100000 in
theorem eq_Expr_step (a b : DExpr) (hk : Fn0 Tryz.prog 154 [(sls 5 DExpr.c a.fKids), (sls 5 DExpr.c b.fKids)] (.bool (decide (a.fKids = b.fKids)))) : Fn0 Tryz.prog 165 [.agg a.c, .agg b.c] (.bool (decide (a = b))) := by
  simp only [DExpr.c_eq]
  refine fn0F 31 keep165 ib165 mk165 mix Tryz.func165 rfl (by kernel_rfl) (by simp) fun h => ?_
  simp -dsimp -implicitDefEqProofs only [go_sem, Tryz.f165, ↓reduceIte, keep165, ib165, mk165]
  refine ⟨fun hn => (decide_eq_false fun e => hn (by rw [e])).symm, fun efKind => ?_⟩
  refine ⟨fun hn => (decide_eq_false fun e => hn (by rw [e])).symm, fun efNum => ?_⟩
  refine ⟨fun hn => (decide_eq_false fun e => hn (by rw [e])).symm, fun efPick => ?_⟩
  refine ⟨fun hn => (decide_eq_false fun e => hn (by rw [e])).symm, fun efCount => ?_⟩
  refine HFnF.mk hk ?_
  by_cases efKids : a.fKids = b.fKids
  case neg =>
    have d := decide_eq_false efKids
    simp -dsimp -implicitDefEqProofs only [go_sem, ↓reduceIte, keep165, ib165, mk165, Tryz.f165, d]
    exact (decide_eq_false fun e => efKids (by rw [e])).symm
  have dfKids := decide_eq_true efKids
  simp -dsimp -implicitDefEqProofs only [go_sem, ↓reduceIte, keep165, ib165, mk165, Tryz.f165, dfKids]
  exact (decide_eq_true (DExpr.eq_iff.2 ⟨efKind, efNum, efPick, efCount, efKids⟩)).symm
theorem eq_Expr (a b : DExpr) : Fn0 Tryz.prog 165 [.agg a.c, .agg b.c] (.bool (decide (a = b))) :=
  eq_Expr_step a b (eq_ExprS a.fKids b.fKids fun x hx y => eq_Expr x y)
termination_by SizeOf.sizeOf a
decreasing_by exact DExpr.kid_lt hx

def keep138 : List Nat := [0, 1, 2, 3, 4, 9, 14, 20]
def ib138 : List Nat := [2, 3]
def mk138 : Marks := fun _ => ([], .nil, [])
set_option maxRecDepth 100000 in
theorem eq_Func (a b : DFunc) : Fn0 Tryz.prog 138 [.agg a.c, .agg b.c] (.bool (decide (a = b))) := by
  simp only [DFunc.c_eq]
  refine fn0F 21 keep138 ib138 mk138 mix Tryz.func138 rfl (by kernel_rfl) (by simp) fun h => ?_
  simp -dsimp -implicitDefEqProofs only [go_sem, Tryz.f138, ↓reduceIte, keep138, ib138, mk138]
  refine ⟨fun hn => (decide_eq_false fun e => hn (by rw [e])).symm, fun efName => ?_⟩
  refine ⟨fun hn => (decide_eq_false fun e => hn (by rw [e])).symm, fun efParams => ?_⟩
  refine HFnF.mk (eq_ExprS a.fOuts b.fOuts (fun x _ y => (eq_Expr x y))) ?_
  by_cases efOuts : a.fOuts = b.fOuts
  case neg =>
    have d := decide_eq_false efOuts
    simp -dsimp -implicitDefEqProofs only [go_sem, ↓reduceIte, keep138, ib138, mk138, Tryz.f138, d]
    exact (decide_eq_false fun e => efOuts (by rw [e])).symm
  have dfOuts := decide_eq_true efOuts
  simp -dsimp -implicitDefEqProofs only [go_sem, ↓reduceIte, keep138, ib138, mk138, Tryz.f138, dfOuts]
  exact (decide_eq_true (DFunc.eq_iff.2 ⟨efName, efParams, efOuts⟩)).symm

def keep115 : List Nat := [0, 1, 4, 5, 10, 14, 26]
def ib115 : List Nat := []
def mk115 : Marks := fun id => match id with | 6 => ([], (.op 0 (.op 1 (.op 2 (.op 3 (.op 4 (.op 5 (.op 6 (.op 7 (.op 8 (.op 9 .nil)))))))))), []) | _ => ([], .nil, [])
set_option maxRecDepth 100000 in
theorem eq_FuncS (a b : List DFunc) (hc : ∀ x ∈ a, ∀ y, Fn0 Tryz.prog 138 [(.agg (DFunc.c x)), (.agg (DFunc.c y))] (.bool (decide (x = y)))) : Fn0 Tryz.prog 115 [(sls 3 DFunc.c a), (sls 3 DFunc.c b)] (.bool (decide (a = b))) := by
  refine fn0F 27 keep115 ib115 mk115 mix Tryz.func115 rfl (by kernel_rfl) (by simp) fun h => ?_
  simp -dsimp -implicitDefEqProofs only [go_sem, Tryz.f115, ↓reduceIte, keep115, ib115, mk115]
  refine fun _ _ => ⟨fun hne => ?_, fun heq => ?_⟩
  · exact (decide_eq_false fun e => hne (by rw [e])).symm
  · refine loopF (keep := keep115) (ib := ib115) (mk := mk115) mix (by kernel_rfl) (fun k : Nat => [(0, (sls 3 DFunc.c a)), (1, (sls 3 DFunc.c b)), (5, I k)]) (fun _ => h) (fun k => k ≤ a.length ∧ a.take k = b.take k) (fun k => a.length - k) 0 (by simp [SatL, tget, Heap.le_refl]) ?_
    intro k ⟨hk, hp⟩
    rcases Nat.lt_or_ge k a.length with hlt | hge
    · have hlb : k < b.length := by omega
      have ea : a[k]? = some a[k] := List.getElem?_eq_getElem hlt
      have eb : b[k]? = some b[k] := List.getElem?_eq_getElem hlb
      simp -dsimp -implicitDefEqProofs only [go_sem, ↓reduceIte, keep115, ib115, mk115, Tryz.f115, ea, eb, DFunc.c_eq]
      refine fun _ => ⟨fun _ => ⟨hlt, hlb, ?_⟩, fun hn => absurd hlt hn⟩
      have hx := hc a[k] (List.getElem_mem hlt) b[k]
      simp only [DFunc.c_eq] at hx
      refine CallSF.mk hx ?_
      by_cases he : a[k] = b[k]
      · have d := decide_eq_true he
        simp -dsimp -implicitDefEqProofs only [go_sem, ↓reduceIte, keep115, ib115, mk115, Tryz.f115, d]
        exact ⟨k + 1, by rw [IntWalk.i64_in _ (by omega)]; rfl, ⟨by omega, take_step hlt hlb hp he⟩, by omega⟩
      · have d := decide_eq_false he
        simp -dsimp -implicitDefEqProofs only [go_sem, ↓reduceIte, keep115, ib115, mk115, Tryz.f115, d]
        exact (decide_eq_false fun e => he (getElem_of_eq e hlt)).symm
    · have hk' : k = a.length := by omega
      subst hk'
      simp -dsimp -implicitDefEqProofs only [go_sem, ↓reduceIte, keep115, ib115, mk115, Tryz.f115, Nat.lt_irrefl]
      exact fun _ => (decide_eq_true (eq_of_take heq hp)).symm

def keep69 : List Nat := [0, 1, 2, 3, 4, 10]
def ib69 : List Nat := [2, 3]
def mk69 : Marks := fun _ => ([], .nil, [])
set_option maxRecDepth 100000 in
theorem eq_Program (a b : DProgram) : Fn0 Tryz.prog 69 [.agg a.c, .agg b.c] (.bool (decide (a = b))) := by
  simp only [DProgram.c_eq]
  refine fn0F 11 keep69 ib69 mk69 mix Tryz.func69 rfl (by kernel_rfl) (by simp) fun h => ?_
  simp -dsimp -implicitDefEqProofs only [go_sem, Tryz.f69, ↓reduceIte, keep69, ib69, mk69]
  refine HFnF.mk (eq_FuncS a.fFuncs b.fFuncs (fun x _ y => (eq_Func x y))) ?_
  by_cases efFuncs : a.fFuncs = b.fFuncs
  case neg =>
    have d := decide_eq_false efFuncs
    simp -dsimp -implicitDefEqProofs only [go_sem, ↓reduceIte, keep69, ib69, mk69, Tryz.f69, d]
    exact (decide_eq_false fun e => efFuncs (by rw [e])).symm
  have dfFuncs := decide_eq_true efFuncs
  simp -dsimp -implicitDefEqProofs only [go_sem, ↓reduceIte, keep69, ib69, mk69, Tryz.f69, dfFuncs]
  exact (decide_eq_true (DProgram.eq_iff.2 efFuncs)).symm

def keep13 : List Nat := [0, 1, 4, 5, 10, 14, 25]
def ib13 : List Nat := []
def mk13 : Marks := fun id => match id with | 6 => ([], (.op 0 (.op 1 (.op 2 (.op 3 (.op 4 (.op 5 (.op 6 (.op 7 (.op 8 .nil))))))))), []) | _ => ([], .nil, [])
set_option maxRecDepth 100000 in
theorem eq_Int64S (a b : List Int) : Fn0 Tryz.prog 13 [(sls 1 (fun n => [I n]) a), (sls 1 (fun n => [I n]) b)] (.bool (decide (a = b))) := by
  refine fn0F 26 keep13 ib13 mk13 mix Tryz.func13 rfl (by kernel_rfl) (by simp) fun h => ?_
  simp -dsimp -implicitDefEqProofs only [go_sem, Tryz.f13, ↓reduceIte, keep13, ib13, mk13]
  refine fun _ _ => ⟨fun hne => ?_, fun heq => ?_⟩
  · exact (decide_eq_false fun e => hne (by rw [e])).symm
  · refine loopF (keep := keep13) (ib := ib13) (mk := mk13) mix (by kernel_rfl) (fun k : Nat => [(0, (sls 1 (fun n => [I n]) a)), (1, (sls 1 (fun n => [I n]) b)), (5, I k)]) (fun _ => h) (fun k => k ≤ a.length ∧ a.take k = b.take k) (fun k => a.length - k) 0 (by simp [SatL, tget, Heap.le_refl]) ?_
    intro k ⟨hk, hp⟩
    rcases Nat.lt_or_ge k a.length with hlt | hge
    · have hlb : k < b.length := by omega
      have ea : a[k]? = some a[k] := List.getElem?_eq_getElem hlt
      have eb : b[k]? = some b[k] := List.getElem?_eq_getElem hlb
      simp -dsimp -implicitDefEqProofs only [go_sem, ↓reduceIte, keep13, ib13, mk13, Tryz.f13, ea, eb]
      refine fun _ => ⟨fun _ => ⟨hlt, hlb, fun hne => ?_, fun he => ?_⟩, fun hn => absurd hlt hn⟩
      · first
          | exact (decide_eq_false fun e => hne (getElem_of_eq e hlt)).symm
          | exact (decide_eq_false fun e => by have := getElem_of_eq e hlt (hb := hlb); rw [this] at hne; simp at hne).symm
      · exact ⟨k + 1, by rw [IntWalk.i64_in _ (by omega)]; rfl, ⟨by omega, take_step hlt hlb hp (by first | exact he | simpa using he)⟩, by omega⟩
    · have hk' : k = a.length := by omega
      subst hk'
      simp -dsimp -implicitDefEqProofs only [go_sem, ↓reduceIte, keep13, ib13, mk13, Tryz.f13, Nat.lt_irrefl]
      exact fun _ => (decide_eq_true (eq_of_take heq hp)).symm

def keep70 : List Nat := [0, 1, 4, 5, 10, 14, 26]
def ib70 : List Nat := []
def mk70 : Marks := fun id => match id with | 6 => ([], (.op 0 (.op 1 (.op 2 (.op 3 (.op 4 (.op 5 (.op 6 (.op 7 (.op 8 (.op 9 .nil)))))))))), []) | _ => ([], .nil, [])
set_option maxRecDepth 100000 in
theorem eq_Int64SS (a b : List (List Int)) (hc : ∀ x ∈ a, ∀ y, Fn0 Tryz.prog 13 [(sls 1 (fun n => [I n]) x), (sls 1 (fun n => [I n]) y)] (.bool (decide (x = y)))) : Fn0 Tryz.prog 70 [(sls 1 (fun x => [sls 1 (fun n => [I n]) x]) a), (sls 1 (fun x => [sls 1 (fun n => [I n]) x]) b)] (.bool (decide (a = b))) := by
  refine fn0F 27 keep70 ib70 mk70 mix Tryz.func70 rfl (by kernel_rfl) (by simp) fun h => ?_
  simp -dsimp -implicitDefEqProofs only [go_sem, Tryz.f70, ↓reduceIte, keep70, ib70, mk70]
  refine fun _ _ => ⟨fun hne => ?_, fun heq => ?_⟩
  · exact (decide_eq_false fun e => hne (by rw [e])).symm
  · refine loopF (keep := keep70) (ib := ib70) (mk := mk70) mix (by kernel_rfl) (fun k : Nat => [(0, (sls 1 (fun x => [sls 1 (fun n => [I n]) x]) a)), (1, (sls 1 (fun x => [sls 1 (fun n => [I n]) x]) b)), (5, I k)]) (fun _ => h) (fun k => k ≤ a.length ∧ a.take k = b.take k) (fun k => a.length - k) 0 (by simp [SatL, tget, Heap.le_refl]) ?_
    intro k ⟨hk, hp⟩
    rcases Nat.lt_or_ge k a.length with hlt | hge
    · have hlb : k < b.length := by omega
      have ea : a[k]? = some a[k] := List.getElem?_eq_getElem hlt
      have eb : b[k]? = some b[k] := List.getElem?_eq_getElem hlb
      simp -dsimp -implicitDefEqProofs only [go_sem, ↓reduceIte, keep70, ib70, mk70, Tryz.f70, ea, eb]
      refine fun _ => ⟨fun _ => ⟨hlt, hlb, ?_⟩, fun hn => absurd hlt hn⟩
      have hx := hc a[k] (List.getElem_mem hlt) b[k]
      refine CallSF.mk hx ?_
      by_cases he : a[k] = b[k]
      · have d := decide_eq_true he
        simp -dsimp -implicitDefEqProofs only [go_sem, ↓reduceIte, keep70, ib70, mk70, Tryz.f70, d]
        exact ⟨k + 1, by rw [IntWalk.i64_in _ (by omega)]; rfl, ⟨by omega, take_step hlt hlb hp he⟩, by omega⟩
      · have d := decide_eq_false he
        simp -dsimp -implicitDefEqProofs only [go_sem, ↓reduceIte, keep70, ib70, mk70, Tryz.f70, d]
        exact (decide_eq_false fun e => he (getElem_of_eq e hlt)).symm
    · have hk' : k = a.length := by omega
      subst hk'
      simp -dsimp -implicitDefEqProofs only [go_sem, ↓reduceIte, keep70, ib70, mk70, Tryz.f70, Nat.lt_irrefl]
      exact fun _ => (decide_eq_true (eq_of_take heq hp)).symm

def keep23 : List Nat := [0, 1, 2, 3, 4, 10, 15, 20, 26, 32]
def ib23 : List Nat := [2, 3]
def mk23 : Marks := fun _ => ([], .nil, [])
set_option maxRecDepth 100000 in
theorem eq_Job (a b : DJob) : Fn0 Tryz.prog 23 [.agg a.c, .agg b.c] (.bool (decide (a = b))) := by
  simp only [DJob.c_eq]
  refine fn0F 33 keep23 ib23 mk23 mix Tryz.func23 rfl (by kernel_rfl) (by simp) fun h => ?_
  simp -dsimp -implicitDefEqProofs only [go_sem, Tryz.f23, ↓reduceIte, keep23, ib23, mk23]
  refine HFnF.mk (eq_Program a.fProgram b.fProgram) ?_
  by_cases efProgram : a.fProgram = b.fProgram
  case neg =>
    have d := decide_eq_false efProgram
    simp -dsimp -implicitDefEqProofs only [go_sem, ↓reduceIte, keep23, ib23, mk23, Tryz.f23, d]
    exact (decide_eq_false fun e => efProgram (by rw [e])).symm
  have dfProgram := decide_eq_true efProgram
  simp -dsimp -implicitDefEqProofs only [go_sem, ↓reduceIte, keep23, ib23, mk23, Tryz.f23, dfProgram]
  refine ⟨fun hn => (decide_eq_false fun e => hn (by rw [e])).symm, fun efFunc => ?_⟩
  refine ⟨fun hn => (decide_eq_false fun e => hn (by rw [e])).symm, fun efShared => ?_⟩
  refine HFnF.mk (eq_Int64S a.fPoint b.fPoint) ?_
  by_cases efPoint : a.fPoint = b.fPoint
  case neg =>
    have d := decide_eq_false efPoint
    simp -dsimp -implicitDefEqProofs only [go_sem, ↓reduceIte, keep23, ib23, mk23, Tryz.f23, d]
    exact (decide_eq_false fun e => efPoint (by rw [e])).symm
  have dfPoint := decide_eq_true efPoint
  simp -dsimp -implicitDefEqProofs only [go_sem, ↓reduceIte, keep23, ib23, mk23, Tryz.f23, dfPoint]
  refine HFnF.mk (eq_Int64SS a.fTerms b.fTerms (fun x _ y => (eq_Int64S x y))) ?_
  by_cases efTerms : a.fTerms = b.fTerms
  case neg =>
    have d := decide_eq_false efTerms
    simp -dsimp -implicitDefEqProofs only [go_sem, ↓reduceIte, keep23, ib23, mk23, Tryz.f23, d]
    exact (decide_eq_false fun e => efTerms (by rw [e])).symm
  have dfTerms := decide_eq_true efTerms
  simp -dsimp -implicitDefEqProofs only [go_sem, ↓reduceIte, keep23, ib23, mk23, Tryz.f23, dfTerms]
  exact (decide_eq_true (DJob.eq_iff.2 ⟨efProgram, efFunc, efShared, efPoint, efTerms⟩)).symm


def keep51 : List Nat := [0, 1, 4, 5, 10, 14, 25]
def ib51 : List Nat := []
def mk51 : Marks := fun id => match id with | 6 => ([], (.op 0 (.op 1 (.op 2 (.op 3 (.op 4 (.op 5 (.op 6 (.op 7 (.op 8 .nil))))))))), []) | _ => ([], .nil, [])
set_option maxRecDepth 100000 in
theorem eq_BoolS (a b : List Bool) : Fn0 Tryz.prog 51 [(sls 1 (fun b => [.bool b]) a), (sls 1 (fun b => [.bool b]) b)] (.bool (decide (a = b))) := by
  refine fn0F 26 keep51 ib51 mk51 mix Tryz.func51 rfl (by kernel_rfl) (by simp) fun h => ?_
  simp -dsimp -implicitDefEqProofs only [go_sem, Tryz.f51, ↓reduceIte, keep51, ib51, mk51]
  refine fun _ _ => ⟨fun hne => ?_, fun heq => ?_⟩
  · exact (decide_eq_false fun e => hne (by rw [e])).symm
  · refine loopF (keep := keep51) (ib := ib51) (mk := mk51) mix (by kernel_rfl) (fun k : Nat => [(0, (sls 1 (fun b => [.bool b]) a)), (1, (sls 1 (fun b => [.bool b]) b)), (5, I k)]) (fun _ => h) (fun k => k ≤ a.length ∧ a.take k = b.take k) (fun k => a.length - k) 0 (by simp [SatL, tget, Heap.le_refl]) ?_
    intro k ⟨hk, hp⟩
    rcases Nat.lt_or_ge k a.length with hlt | hge
    · have hlb : k < b.length := by omega
      have ea : a[k]? = some a[k] := List.getElem?_eq_getElem hlt
      have eb : b[k]? = some b[k] := List.getElem?_eq_getElem hlb
      simp -dsimp -implicitDefEqProofs only [go_sem, ↓reduceIte, keep51, ib51, mk51, Tryz.f51, ea, eb]
      refine fun _ => ⟨fun _ => ⟨hlt, hlb, fun hne => ?_, fun he => ?_⟩, fun hn => absurd hlt hn⟩
      · first
          | exact (decide_eq_false fun e => hne (getElem_of_eq e hlt)).symm
          | exact (decide_eq_false fun e => by have := getElem_of_eq e hlt (hb := hlb); rw [this] at hne; simp at hne).symm
      · exact ⟨k + 1, by rw [IntWalk.i64_in _ (by omega)]; rfl, ⟨by omega, take_step hlt hlb hp (by first | exact he | simpa using he)⟩, by omega⟩
    · have hk' : k = a.length := by omega
      subst hk'
      simp -dsimp -implicitDefEqProofs only [go_sem, ↓reduceIte, keep51, ib51, mk51, Tryz.f51, Nat.lt_irrefl]
      exact fun _ => (decide_eq_true (eq_of_take heq hp)).symm

def keep96 : List Nat := [0, 1, 2, 3, 4, 9, 14, 20]
def ib96 : List Nat := [2, 3]
def mk96 : Marks := fun _ => ([], .nil, [])
set_option maxRecDepth 100000 in
theorem eq_Part (a b : DPart) : Fn0 Tryz.prog 96 [.agg a.c, .agg b.c] (.bool (decide (a = b))) := by
  simp only [DPart.c_eq]
  refine fn0F 21 keep96 ib96 mk96 mix Tryz.func96 rfl (by kernel_rfl) (by simp) fun h => ?_
  simp -dsimp -implicitDefEqProofs only [go_sem, Tryz.f96, ↓reduceIte, keep96, ib96, mk96]
  refine ⟨fun hn => (decide_eq_false fun e => hn (by rw [e])).symm, fun efCode => ?_⟩
  refine ⟨fun hn => (decide_eq_false fun e => hn (by rw [e])).symm, fun efValue => ?_⟩
  refine HFnF.mk (eq_Int64S a.fGrad b.fGrad) ?_
  by_cases efGrad : a.fGrad = b.fGrad
  case neg =>
    have d := decide_eq_false efGrad
    simp -dsimp -implicitDefEqProofs only [go_sem, ↓reduceIte, keep96, ib96, mk96, Tryz.f96, d]
    exact (decide_eq_false fun e => efGrad (by rw [e])).symm
  have dfGrad := decide_eq_true efGrad
  simp -dsimp -implicitDefEqProofs only [go_sem, ↓reduceIte, keep96, ib96, mk96, Tryz.f96, dfGrad]
  exact (decide_eq_true (DPart.eq_iff.2 ⟨efCode, efValue, efGrad⟩)).symm

def keep52 : List Nat := [0, 1, 4, 5, 10, 14, 26]
def ib52 : List Nat := []
def mk52 : Marks := fun id => match id with | 6 => ([], (.op 0 (.op 1 (.op 2 (.op 3 (.op 4 (.op 5 (.op 6 (.op 7 (.op 8 (.op 9 .nil)))))))))), []) | _ => ([], .nil, [])
set_option maxRecDepth 100000 in
theorem eq_PartS (a b : List DPart) (hc : ∀ x ∈ a, ∀ y, Fn0 Tryz.prog 96 [(.agg (DPart.c x)), (.agg (DPart.c y))] (.bool (decide (x = y)))) : Fn0 Tryz.prog 52 [(sls 3 DPart.c a), (sls 3 DPart.c b)] (.bool (decide (a = b))) := by
  refine fn0F 27 keep52 ib52 mk52 mix Tryz.func52 rfl (by kernel_rfl) (by simp) fun h => ?_
  simp -dsimp -implicitDefEqProofs only [go_sem, Tryz.f52, ↓reduceIte, keep52, ib52, mk52]
  refine fun _ _ => ⟨fun hne => ?_, fun heq => ?_⟩
  · exact (decide_eq_false fun e => hne (by rw [e])).symm
  · refine loopF (keep := keep52) (ib := ib52) (mk := mk52) mix (by kernel_rfl) (fun k : Nat => [(0, (sls 3 DPart.c a)), (1, (sls 3 DPart.c b)), (5, I k)]) (fun _ => h) (fun k => k ≤ a.length ∧ a.take k = b.take k) (fun k => a.length - k) 0 (by simp [SatL, tget, Heap.le_refl]) ?_
    intro k ⟨hk, hp⟩
    rcases Nat.lt_or_ge k a.length with hlt | hge
    · have hlb : k < b.length := by omega
      have ea : a[k]? = some a[k] := List.getElem?_eq_getElem hlt
      have eb : b[k]? = some b[k] := List.getElem?_eq_getElem hlb
      simp -dsimp -implicitDefEqProofs only [go_sem, ↓reduceIte, keep52, ib52, mk52, Tryz.f52, ea, eb, DPart.c_eq]
      refine fun _ => ⟨fun _ => ⟨hlt, hlb, ?_⟩, fun hn => absurd hlt hn⟩
      have hx := hc a[k] (List.getElem_mem hlt) b[k]
      simp only [DPart.c_eq] at hx
      refine CallSF.mk hx ?_
      by_cases he : a[k] = b[k]
      · have d := decide_eq_true he
        simp -dsimp -implicitDefEqProofs only [go_sem, ↓reduceIte, keep52, ib52, mk52, Tryz.f52, d]
        exact ⟨k + 1, by rw [IntWalk.i64_in _ (by omega)]; rfl, ⟨by omega, take_step hlt hlb hp he⟩, by omega⟩
      · have d := decide_eq_false he
        simp -dsimp -implicitDefEqProofs only [go_sem, ↓reduceIte, keep52, ib52, mk52, Tryz.f52, d]
        exact (decide_eq_false fun e => he (getElem_of_eq e hlt)).symm
    · have hk' : k = a.length := by omega
      subst hk'
      simp -dsimp -implicitDefEqProofs only [go_sem, ↓reduceIte, keep52, ib52, mk52, Tryz.f52, Nat.lt_irrefl]
      exact fun _ => (decide_eq_true (eq_of_take heq hp)).symm

def keep14 : List Nat := [0, 1, 2, 3, 4, 10, 16, 22, 28, 34]
def ib14 : List Nat := [2, 3]
def mk14 : Marks := fun _ => ([], .nil, [])
set_option maxRecDepth 100000 in
theorem eq_Service (a b : DService) : Fn0 Tryz.prog 14 [.agg a.c, .agg b.c] (.bool (decide (a = b))) := by
  simp only [DService.c_eq]
  refine fn0F 35 keep14 ib14 mk14 mix Tryz.func14 rfl (by kernel_rfl) (by simp) fun h => ?_
  simp -dsimp -implicitDefEqProofs only [go_sem, Tryz.f14, ↓reduceIte, keep14, ib14, mk14]
  refine HFnF.mk (eq_Job a.fJob b.fJob) ?_
  by_cases efJob : a.fJob = b.fJob
  case neg =>
    have d := decide_eq_false efJob
    simp -dsimp -implicitDefEqProofs only [go_sem, ↓reduceIte, keep14, ib14, mk14, Tryz.f14, d]
    exact (decide_eq_false fun e => efJob (by rw [e])).symm
  have dfJob := decide_eq_true efJob
  simp -dsimp -implicitDefEqProofs only [go_sem, ↓reduceIte, keep14, ib14, mk14, Tryz.f14, dfJob]
  refine HFnF.mk (eq_Int64S a.fStamps b.fStamps) ?_
  by_cases efStamps : a.fStamps = b.fStamps
  case neg =>
    have d := decide_eq_false efStamps
    simp -dsimp -implicitDefEqProofs only [go_sem, ↓reduceIte, keep14, ib14, mk14, Tryz.f14, d]
    exact (decide_eq_false fun e => efStamps (by rw [e])).symm
  have dfStamps := decide_eq_true efStamps
  simp -dsimp -implicitDefEqProofs only [go_sem, ↓reduceIte, keep14, ib14, mk14, Tryz.f14, dfStamps]
  refine HFnF.mk (eq_BoolS a.fKnown b.fKnown) ?_
  by_cases efKnown : a.fKnown = b.fKnown
  case neg =>
    have d := decide_eq_false efKnown
    simp -dsimp -implicitDefEqProofs only [go_sem, ↓reduceIte, keep14, ib14, mk14, Tryz.f14, d]
    exact (decide_eq_false fun e => efKnown (by rw [e])).symm
  have dfKnown := decide_eq_true efKnown
  simp -dsimp -implicitDefEqProofs only [go_sem, ↓reduceIte, keep14, ib14, mk14, Tryz.f14, dfKnown]
  refine HFnF.mk (eq_PartS a.fParts b.fParts (fun x _ y => (eq_Part x y))) ?_
  by_cases efParts : a.fParts = b.fParts
  case neg =>
    have d := decide_eq_false efParts
    simp -dsimp -implicitDefEqProofs only [go_sem, ↓reduceIte, keep14, ib14, mk14, Tryz.f14, d]
    exact (decide_eq_false fun e => efParts (by rw [e])).symm
  have dfParts := decide_eq_true efParts
  simp -dsimp -implicitDefEqProofs only [go_sem, ↓reduceIte, keep14, ib14, mk14, Tryz.f14, dfParts]
  refine HFnF.mk (eq_Int64S a.fOwners b.fOwners) ?_
  by_cases efOwners : a.fOwners = b.fOwners
  case neg =>
    have d := decide_eq_false efOwners
    simp -dsimp -implicitDefEqProofs only [go_sem, ↓reduceIte, keep14, ib14, mk14, Tryz.f14, d]
    exact (decide_eq_false fun e => efOwners (by rw [e])).symm
  have dfOwners := decide_eq_true efOwners
  simp -dsimp -implicitDefEqProofs only [go_sem, ↓reduceIte, keep14, ib14, mk14, Tryz.f14, dfOwners]
  exact (decide_eq_true (DService.eq_iff.2 ⟨efJob, efStamps, efKnown, efParts, efOwners⟩)).symm

open Go.Proofs
set_option linter.unusedVariables false
set_option linter.unusedSimpArgs false
def keep3 : List Nat := [0, 1, 2, 3, 4, 5, 6, 7, 8, 9, 10, 11, 12, 13, 14, 15, 16, 21, 50, 55, 76, 84, 87, 108, 113, 116]
def ib3 : List Nat := [1]
def mk3 : Marks := fun id => match id with | 10 => ([0, 2, 3], (.op 1 (.op 0 (.op 2 (.op 3 (.op 4 .nil))))), [(0, 2)]) | _ => ([], .nil, [])
set_option maxRecDepth 100000 in
set_option maxHeartbeats 1000000 in
theorem law_FnExactSumOf (a : DService) (h : Heap) : HFn Tryz.prog 3 [.agg a.c] h fun r _ => r = .bool true := by
  simp only [DService.c_eq]
  refine fnHF 117 keep3 ib3 mk3 mix Tryz.func3 rfl (by kernel_rfl) (by simp) ?_
  simp (maxSteps := 1000000) -dsimp -implicitDefEqProofs only [go_sem, ↓reduceIte, keep3, ib3, mk3, Tryz.f3, Bool.true_or, Bool.or_true, Bool.false_or, Bool.or_false, protF, eq_self, decide_true, Bool.not_true, bne_self_eq_false, upd_upd, upd_get, OV.map_val, OV.map_val_nil, OV.val_v, DService.c_eq]
  refine HFnF.mk (sz_Service a 1048576 (by omega) (by omega)) ?_
  generalize hL0 : lft 1048576 (DService.s a) = L0
  have hs0 := lft_step hL0
  simp (maxSteps := 1000000) -dsimp -implicitDefEqProofs only [go_sem, ↓reduceIte, keep3, ib3, mk3, Tryz.f3, Bool.true_or, Bool.or_true, Bool.false_or, Bool.or_false, protF, eq_self, decide_true, Bool.not_true, bne_self_eq_false, upd_upd, upd_get, OV.map_val, OV.map_val_nil, OV.val_v, DService.c_eq]
  repeat' (with_reducible first | intro _ | refine And.intro ?_ ?_)
  all_goals try (first | exact ⟨_, Heap.le_refl _, rfl⟩ | exact ⟨_, Heap.le_refl _⟩)
  all_goals try omega
  have hn0 := hs0.2 (by omega)
  clear hs0 hL0
  have hz_a : (DService.s a) ≤ 1048576 := by omega
  have hseal := QS.fn0W (SumOf a (by omega)) (fun y hy => OS.dat (c := fun n => [I n]) (fun _ _ q => oP_dat q) hy) (wrap_tup [I (sumRes a).1] [I (sumRes a).2.2])
  first | refine HFnF.mk (to_Service a hz_a) ?_ | refine CallSF.mk (to_Service a hz_a) ?_
  simp (maxSteps := 1000000) -dsimp -implicitDefEqProofs only [go_sem, ↓reduceIte, keep3, ib3, mk3, Tryz.f3, Bool.true_or, Bool.or_true, Bool.false_or, Bool.or_false, protF, eq_self, decide_true, Bool.not_true, bne_self_eq_false, upd_upd, upd_get, OV.map_val, OV.map_val_nil, OV.val_v, DService.c_eq]
  repeat' (with_reducible first | intro _ | refine And.intro ?_ ?_)
  all_goals try trivial
  first | refine HFnF.mk (QS.fn0W (specSumOf a (by omega)) (fun y hy => OS.dat (c := fun n => [I n]) (fun _ _ q => oP_dat q) hy) (wrap_tup [I (sumRes a).1] [I (sumRes a).2.2])) ?_ | refine CallSF.mk (QS.fn0W (specSumOf a (by omega)) (fun y hy => OS.dat (c := fun n => [I n]) (fun _ _ q => oP_dat q) hy) (wrap_tup [I (sumRes a).1] [I (sumRes a).2.2])) ?_
  simp (maxSteps := 1000000) -dsimp -implicitDefEqProofs only [go_sem, ↓reduceIte, keep3, ib3, mk3, Tryz.f3, Bool.true_or, Bool.or_true, Bool.false_or, Bool.or_false, protF, eq_self, decide_true, Bool.not_true, bne_self_eq_false, upd_upd, upd_get, OV.map_val, OV.map_val_nil, OV.val_v, DService.c_eq]
  refine HFnF.wn0 (toO_Service a hz_a)  ?_
  rintro r l1 g1 ⟨e0_, oe0, rfl, rfl⟩ w1 
  have oo0 := oe0
  obtain ⟨ya0_0, ya0_3, ya0_4, ya0_5, ya0_6, ya0_7, ya0_8, rfl, oa0_0, oa0_3, oa0_4, oa0_5, oa0_6, oa0_7, oa0_8⟩ := oo0
  have H0x_1 : Owns g1 (OV.rowsRow [ya0_0, .v (.int .i64 a.fJob.fFunc), .v (.int .i64 a.fJob.fShared), ya0_3, ya0_4, ya0_5, ya0_6, ya0_7, ya0_8]) := w1.owns
  simp (maxSteps := 1000000) -dsimp -implicitDefEqProofs only [go_sem, ↓reduceIte, keep3, ib3, mk3, Tryz.f3, Bool.true_or, Bool.or_true, Bool.false_or, Bool.or_false, protF, eq_self, decide_true, Bool.not_true, bne_self_eq_false, upd_upd, upd_get, OV.map_val, OV.map_val_nil, OV.val_v, DService.c_eq, oa0_0.flat, oa0_0.one, oa0_3.flat, oa0_3.one, oa0_4.flat, oa0_4.one, oa0_5.flat, oa0_5.one, oa0_6.flat, oa0_6.one, oa0_7.flat, oa0_7.one, oa0_8.flat, oa0_8.one]
  intro nx0 qnx0
  have z1_nx0 := qnx0
  clear qnx0
  try simp (maxSteps := 1000000) -dsimp -implicitDefEqProofs only [go_sem, ↓reduceIte, keep3, ib3, mk3, Tryz.f3, Bool.true_or, Bool.or_true, Bool.false_or, Bool.or_false, protF, eq_self, decide_true, Bool.not_true, bne_self_eq_false, upd_upd, upd_get, OV.map_val, OV.map_val_nil, OV.val_v, DService.c_eq, oa0_0.flat, oa0_0.one, oa0_3.flat, oa0_3.one, oa0_4.flat, oa0_4.one, oa0_5.flat, oa0_5.one, oa0_6.flat, oa0_6.one, oa0_7.flat, oa0_7.one, oa0_8.flat, oa0_8.one]
  refine HFnF.wl1 (SumOf a (by omega)) (ViewL.cons (View.aggD [ya0_0, .v (.int .i64 a.fJob.fFunc), .v (.int .i64 a.fJob.fShared), ya0_3, ya0_4, ya0_5, ya0_6, ya0_7, ya0_8] (DService.o_dat oe0) (Owns.up1 z1_nx0 H0x_1)) ViewL.nil) (QS.solid (fun y hy => OS.solm (fun _ _ _ q => oP_sol (fun _ => rfl) q) hy) (fun x hx => by simp [HVal.solid, HVal.solidL, hx])) z1_nx0 ?_
  rintro r l2 g2 ⟨yg_0, og_0, rfl, rfl⟩ w2 z2_nx0
  have H0x_2 : Owns g2 (OV.rowsRow [ya0_0, .v (.int .i64 a.fJob.fFunc), .v (.int .i64 a.fJob.fShared), ya0_3, ya0_4, ya0_5, ya0_6, ya0_7, ya0_8]) := fun p hp => w2.keep (H0x_1 p hp)
  have Hg_2 : Owns g2 yg_0.rows := w2.owns
  have apH0x : ∀ m ∈ namesOf (OV.rowsRow [ya0_0, .v (.int .i64 a.fJob.fFunc), .v (.int .i64 a.fJob.fShared), ya0_3, ya0_4, ya0_5, ya0_6, ya0_7, ya0_8]), m ∉ namesOf yg_0.rows := fun m hm hq => by
    obtain ⟨x, hx⟩ := mem_namesOf.1 hm
    have h1 := w2.fresh m hq
    have h2 := H0x_1 (m, x) hx
    rw [h1] at h2; cases h2
  have nd0 := w1.nodup
  have ndg := w2.nodup
  simp (maxSteps := 1000000) -dsimp -implicitDefEqProofs only [go_sem, ↓reduceIte, keep3, ib3, mk3, Tryz.f3, Bool.true_or, Bool.or_true, Bool.false_or, Bool.or_false, protF, eq_self, decide_true, Bool.not_true, bne_self_eq_false, upd_upd, upd_get, OV.map_val, OV.map_val_nil, OV.val_v, DService.c_eq, oa0_0.flat, oa0_0.one, oa0_3.flat, oa0_3.one, oa0_4.flat, oa0_4.one, oa0_5.flat, oa0_5.one, oa0_6.flat, oa0_6.one, oa0_7.flat, oa0_7.one, oa0_8.flat, oa0_8.one, og_0.flat, og_0.one]
  refine HFnF.lend0 (eq_Int64S (sumRes a).2.1 (sumRes a).2.1) (ViewL.cons (View.ovD yg_0 (OS.dat (c := (fun n => [I n])) (fun _ _ q => oP_dat q) og_0) (Owns.up1 z2_nx0 Hg_2)) (ViewL.cons (View.same _ _) ViewL.nil)) rfl ?_
  simp (maxSteps := 1000000) -dsimp -implicitDefEqProofs only [go_sem, ↓reduceIte, keep3, ib3, mk3, Tryz.f3, Bool.true_or, Bool.or_true, Bool.false_or, Bool.or_false, protF, eq_self, decide_true, Bool.not_true, bne_self_eq_false, upd_upd, upd_get, OV.map_val, OV.map_val_nil, OV.val_v, DService.c_eq, oa0_0.flat, oa0_0.one, oa0_3.flat, oa0_3.one, oa0_4.flat, oa0_4.one, oa0_5.flat, oa0_5.one, oa0_6.flat, oa0_6.one, oa0_7.flat, oa0_7.one, oa0_8.flat, oa0_8.one, og_0.flat, og_0.one]
  repeat' (with_reducible first | intro _ | refine And.intro ?_ ?_)
  all_goals try (first | exact ⟨_, Heap.le_refl _, rfl⟩ | exact ⟨_, Heap.le_refl _⟩)
  all_goals try omega
  refine HFnF.mk (to_Service a hz_a) ?_
  simp (maxSteps := 1000000) -dsimp -implicitDefEqProofs only [go_sem, ↓reduceIte, keep3, ib3, mk3, Tryz.f3, Bool.true_or, Bool.or_true, Bool.false_or, Bool.or_false, protF, eq_self, decide_true, Bool.not_true, bne_self_eq_false, upd_upd, upd_get, OV.map_val, OV.map_val_nil, OV.val_v, DService.c_eq, oa0_0.flat, oa0_0.one, oa0_3.flat, oa0_3.one, oa0_4.flat, oa0_4.one, oa0_5.flat, oa0_5.one, oa0_6.flat, oa0_6.one, oa0_7.flat, oa0_7.one, oa0_8.flat, oa0_8.one, og_0.flat, og_0.one]
  repeat' (with_reducible first | intro _ | refine And.intro ?_ ?_)
  all_goals try trivial
  refine HFnF.lend0 (eq_Service a a) (ViewL.cons (View.aggD [ya0_0, .v (.int .i64 a.fJob.fFunc), .v (.int .i64 a.fJob.fShared), ya0_3, ya0_4, ya0_5, ya0_6, ya0_7, ya0_8] (DService.o_dat oe0) (Owns.up1 z2_nx0 H0x_2)) (ViewL.cons (by first | exact View.same _ _ | (simp only [DService.c_eq]; exact View.same _ _)) ViewL.nil)) rfl ?_
  simp (maxSteps := 1000000) -dsimp -implicitDefEqProofs only [go_sem, ↓reduceIte, keep3, ib3, mk3, Tryz.f3, Bool.true_or, Bool.or_true, Bool.false_or, Bool.or_false, protF, eq_self, decide_true, Bool.not_true, bne_self_eq_false, upd_upd, upd_get, OV.map_val, OV.map_val_nil, OV.val_v, DService.c_eq, oa0_0.flat, oa0_0.one, oa0_3.flat, oa0_3.one, oa0_4.flat, oa0_4.one, oa0_5.flat, oa0_5.one, oa0_6.flat, oa0_6.one, oa0_7.flat, oa0_7.one, oa0_8.flat, oa0_8.one, og_0.flat, og_0.one]
  repeat' (with_reducible first | intro _ | refine And.intro ?_ ?_)
  all_goals try (first | exact ⟨_, Heap.le_refl _, rfl⟩ | exact ⟨_, Heap.le_refl _⟩)
  all_goals try omega
  have hct0 := DService.o_top a _ oe0
  refine HFnF.wc1 (mark_Service a [ya0_0, .v (.int .i64 a.fJob.fFunc), .v (.int .i64 a.fJob.fShared), ya0_3, ya0_4, ya0_5, ya0_6, ya0_7, ya0_8] (1 : Int) _ oe0 (by omega) (by omega) (Owns.up1 z2_nx0 H0x_2) nd0) H0x_2 z2_nx0 ?_
  rintro g3 cg3 z3_nx0
  obtain ⟨cc0, hcc0⟩ : ∃ z : Int, z = (1 : Int) + ((OV.ctTop [ya0_0, .v (.int .i64 a.fJob.fFunc), .v (.int .i64 a.fJob.fShared), ya0_3, ya0_4, ya0_5, ya0_6, ya0_7, ya0_8] : Nat) : Int) := ⟨_, rfl⟩
  rw [← hcc0]
  have Hg_3 : Owns g3 yg_0.rows := fun p hp => by
    have hm : p.1 ∈ namesOf yg_0.rows := mem_namesOf.2 ⟨p.2, hp⟩
    rw [cg3.upto p.1 (fun hq => apH0x p.1 hq hm)]
    exact Hg_2 p hp
  simp (maxSteps := 1000000) -dsimp -implicitDefEqProofs only [go_sem, ↓reduceIte, keep3, ib3, mk3, Tryz.f3, Bool.true_or, Bool.or_true, Bool.false_or, Bool.or_false, protF, eq_self, decide_true, Bool.not_true, bne_self_eq_false, upd_upd, upd_get, OV.map_val, OV.map_val_nil, OV.val_v, DService.c_eq, oa0_0.flat, oa0_0.one, oa0_3.flat, oa0_3.one, oa0_4.flat, oa0_4.one, oa0_5.flat, oa0_5.one, oa0_6.flat, oa0_6.one, oa0_7.flat, oa0_7.one, oa0_8.flat, oa0_8.one, og_0.flat, og_0.one]
  repeat' (with_reducible first | intro _ | refine And.intro ?_ ?_)
  all_goals try (first | exact ⟨_, Heap.le_refl _, rfl⟩ | exact ⟨_, Heap.le_refl _⟩)
  all_goals try omega
  refine HFnF.lend0 (eq_Int64S (sumRes a).2.1 (sumRes a).2.1) (ViewL.cons (View.ovD yg_0 (OS.dat (c := (fun n => [I n])) (fun _ _ q => oP_dat q) og_0) (Owns.up1 z3_nx0 Hg_3)) (ViewL.cons (View.same _ _) ViewL.nil)) rfl ?_
  simp (maxSteps := 1000000) -dsimp -implicitDefEqProofs only [go_sem, ↓reduceIte, keep3, ib3, mk3, Tryz.f3, Bool.true_or, Bool.or_true, Bool.false_or, Bool.or_false, protF, eq_self, decide_true, Bool.not_true, bne_self_eq_false, upd_upd, upd_get, OV.map_val, OV.map_val_nil, OV.val_v, DService.c_eq, oa0_0.flat, oa0_0.one, oa0_3.flat, oa0_3.one, oa0_4.flat, oa0_4.one, oa0_5.flat, oa0_5.one, oa0_6.flat, oa0_6.one, oa0_7.flat, oa0_7.one, oa0_8.flat, oa0_8.one, og_0.flat, og_0.one]
  repeat' (with_reducible first | intro _ | refine And.intro ?_ ?_)
  all_goals try (first | exact ⟨_, Heap.le_refl _, rfl⟩ | exact ⟨_, Heap.le_refl _⟩)
  all_goals try omega
  have hctg : yg_0.ct ≤ 4000000000000000000 := by have h1 := og_0.ctP; have h2 := sumRes_len a; omega
  refine HFnF.wc1 (mark_Int64S _ yg_0 1 _ og_0 (by omega) (by omega) (Owns.up1 z3_nx0 Hg_3) ndg) Hg_3 z3_nx0 ?_
  rintro g4 cg4 z4_nx0
  obtain ⟨ccg, hccg⟩ : ∃ z : Int, z = 1 + ((yg_0.ct : Nat) : Int) := ⟨_, rfl⟩
  rw [← hccg]
  simp (maxSteps := 1000000) -dsimp -implicitDefEqProofs only [go_sem, ↓reduceIte, keep3, ib3, mk3, Tryz.f3, Bool.true_or, Bool.or_true, Bool.false_or, Bool.or_false, protF, eq_self, decide_true, Bool.not_true, bne_self_eq_false, upd_upd, upd_get, OV.map_val, OV.map_val_nil, OV.val_v, DService.c_eq, oa0_0.flat, oa0_0.one, oa0_3.flat, oa0_3.one, oa0_4.flat, oa0_4.one, oa0_5.flat, oa0_5.one, oa0_6.flat, oa0_6.one, oa0_7.flat, oa0_7.one, oa0_8.flat, oa0_8.one, og_0.flat, og_0.one]
  repeat' (with_reducible first | intro _ | refine And.intro ?_ ?_)
  all_goals try (first | exact ⟨_, Heap.le_refl _, rfl⟩ | exact ⟨_, Heap.le_refl _⟩)
  all_goals try omega
  have hh := held_Int64S _ yg_0 1 og_0 (by omega) (by omega)
  rw [← hccg] at hh
  refine HFnF.lend0 hh (ViewL.cons (View.ovM 1 og_0 (Owns.up1 z4_nx0 cg4.owns)) (ViewL.cons (View.same _ _) ViewL.nil)) rfl ?_
  simp (maxSteps := 1000000) -dsimp -implicitDefEqProofs only [go_sem, ↓reduceIte, keep3, ib3, mk3, Tryz.f3, Bool.true_or, Bool.or_true, Bool.false_or, Bool.or_false, protF, eq_self, decide_true, Bool.not_true, bne_self_eq_false, upd_upd, upd_get, OV.map_val, OV.map_val_nil, OV.val_v, DService.c_eq, oa0_0.flat, oa0_0.one, oa0_3.flat, oa0_3.one, oa0_4.flat, oa0_4.one, oa0_5.flat, oa0_5.one, oa0_6.flat, oa0_6.one, oa0_7.flat, oa0_7.one, oa0_8.flat, oa0_8.one, og_0.flat, og_0.one]
  repeat' (with_reducible first | intro _ | refine And.intro ?_ ?_)
  all_goals try (first | exact ⟨_, Heap.le_refl _, rfl⟩ | exact ⟨_, Heap.le_refl _⟩)
  all_goals try omega
  first | refine HFnF.mk (to_Service a hz_a) ?_ | refine CallSF.mk (to_Service a hz_a) ?_
  simp (maxSteps := 1000000) -dsimp -implicitDefEqProofs only [go_sem, ↓reduceIte, keep3, ib3, mk3, Tryz.f3, Bool.true_or, Bool.or_true, Bool.false_or, Bool.or_false, protF, eq_self, decide_true, Bool.not_true, bne_self_eq_false, upd_upd, upd_get, OV.map_val, OV.map_val_nil, OV.val_v, DService.c_eq, oa0_0.flat, oa0_0.one, oa0_3.flat, oa0_3.one, oa0_4.flat, oa0_4.one, oa0_5.flat, oa0_5.one, oa0_6.flat, oa0_6.one, oa0_7.flat, oa0_7.one, oa0_8.flat, oa0_8.one, og_0.flat, og_0.one]
  repeat' (with_reducible first | intro _ | refine And.intro ?_ ?_)
  all_goals try trivial
  first | refine HFnF.mk (hseal) ?_ | refine CallSF.mk (hseal) ?_
  simp (maxSteps := 1000000) -dsimp -implicitDefEqProofs only [go_sem, ↓reduceIte, keep3, ib3, mk3, Tryz.f3, Bool.true_or, Bool.or_true, Bool.false_or, Bool.or_false, protF, eq_self, decide_true, Bool.not_true, bne_self_eq_false, upd_upd, upd_get, OV.map_val, OV.map_val_nil, OV.val_v, DService.c_eq, oa0_0.flat, oa0_0.one, oa0_3.flat, oa0_3.one, oa0_4.flat, oa0_4.one, oa0_5.flat, oa0_5.one, oa0_6.flat, oa0_6.one, oa0_7.flat, oa0_7.one, oa0_8.flat, oa0_8.one, og_0.flat, og_0.one]
  refine HFnF.mk (eq_Int64S (sumRes a).2.1 (sumRes a).2.1) ?_
  simp (maxSteps := 1000000) -dsimp -implicitDefEqProofs only [go_sem, ↓reduceIte, keep3, ib3, mk3, Tryz.f3, Bool.true_or, Bool.or_true, Bool.false_or, Bool.or_false, protF, eq_self, decide_true, Bool.not_true, bne_self_eq_false, upd_upd, upd_get, OV.map_val, OV.map_val_nil, OV.val_v, DService.c_eq, oa0_0.flat, oa0_0.one, oa0_3.flat, oa0_3.one, oa0_4.flat, oa0_4.one, oa0_5.flat, oa0_5.one, oa0_6.flat, oa0_6.one, oa0_7.flat, oa0_7.one, oa0_8.flat, oa0_8.one, og_0.flat, og_0.one]
  repeat' (with_reducible first | intro _ | refine And.intro ?_ ?_)
  all_goals try (first | exact ⟨_, Heap.le_refl _, rfl⟩ | exact ⟨_, Heap.le_refl _⟩)
  all_goals try omega
  have hh := held_Int64S _ yg_0 1 og_0 (by omega) (by omega)
  rw [← hccg] at hh
  refine HFnF.lend0 hh (ViewL.cons (View.ovM 1 og_0 (Owns.up1 z4_nx0 cg4.owns)) (ViewL.cons (View.same _ _) ViewL.nil)) rfl ?_
  simp (maxSteps := 1000000) -dsimp -implicitDefEqProofs only [go_sem, ↓reduceIte, keep3, ib3, mk3, Tryz.f3, Bool.true_or, Bool.or_true, Bool.false_or, Bool.or_false, protF, eq_self, decide_true, Bool.not_true, bne_self_eq_false, upd_upd, upd_get, OV.map_val, OV.map_val_nil, OV.val_v, DService.c_eq, oa0_0.flat, oa0_0.one, oa0_3.flat, oa0_3.one, oa0_4.flat, oa0_4.one, oa0_5.flat, oa0_5.one, oa0_6.flat, oa0_6.one, oa0_7.flat, oa0_7.one, oa0_8.flat, oa0_8.one, og_0.flat, og_0.one]
  repeat' (with_reducible first | intro _ | refine And.intro ?_ ?_)
  all_goals try (first | exact ⟨_, Heap.le_refl _, rfl⟩ | exact ⟨_, Heap.le_refl _⟩)
  all_goals try omega

open Go.Proofs
set_option linter.unusedVariables false
set_option linter.unusedSimpArgs false
theorem dat_i64 {P : Program} {n : Nat} {t : TypeId} {xs : List HVal} (hu : P.underlying t = some (.int .i64)) (h : Dat P n t xs) : ∃ i : Int, xs = [I i] ∧ InI i := by
  match n, h with
  | 0, h => exact h.elim
  | n + 1, h =>
    simp only [Dat, hu] at h
    obtain ⟨i, rfl, hw⟩ := h
    refine ⟨i, rfl, ?_⟩
    have h1 : IntKind.min .i64 = -9223372036854775808 := by decide
    have h2 : IntKind.max .i64 = 9223372036854775807 := by decide
    simp [Lit.wf, IntKind.has, h1, h2] at hw
    unfold InI
    omega
theorem dat_bool {P : Program} {n : Nat} {t : TypeId} {xs : List HVal} (hu : P.underlying t = some .bool) (h : Dat P n t xs) : ∃ b : Bool, xs = [.bool b] ∧ True := by
  match n, h with
  | 0, h => exact h.elim
  | n + 1, h =>
    simp only [Dat, hu] at h
    obtain ⟨b, rfl⟩ := h
    exact ⟨b, rfl, trivial⟩
theorem dat_str {P : Program} {n : Nat} {t : TypeId} {xs : List HVal} (hu : P.underlying t = some .string) (h : Dat P n t xs) : ∃ s : List UInt8, xs = [.str s] ∧ True := by
  match n, h with
  | 0, h => exact h.elim
  | n + 1, h =>
    simp only [Dat, hu] at h
    obtain ⟨b, rfl⟩ := h
    exact ⟨b, rfl, trivial⟩
theorem list_of {α : Type} {c : α → List HVal} {w : α → Prop} : ∀ {es : List (List HVal)}, (∀ y ∈ es, ∃ x, y = c x ∧ w x) → ∃ l : List α, es = l.map c ∧ ∀ x ∈ l, w x
  | [], _ => ⟨[], rfl, by simp⟩
  | e :: es, h => by
    obtain ⟨x, rfl, hx⟩ := h _ List.mem_cons_self
    obtain ⟨l, rfl, hl⟩ := list_of fun y hy => h y (List.mem_cons_of_mem _ hy)
    refine ⟨x :: l, rfl, fun y hy => ?_⟩
    rcases List.mem_cons.1 hy with rfl | hy
    · exact hx
    · exact hl y hy
theorem dat_slice {P : Program} {n sz : Nat} {t e : TypeId} {α : Type} {c : α → List HVal} {w : α → Prop} {xs : List HVal} (hu : P.underlying t = some (.slice e)) (hc : P.cellsOf e = sz) (h : Dat P n t xs)
    (hx : ∀ m y, m < n → Dat P m e y → ∃ x, y = c x ∧ w x) : ∃ l : List α, xs = [sls sz c l] ∧ ∀ x ∈ l, w x := by
  match n, h with
  | 0, h => exact h.elim
  | n + 1, h =>
    simp only [Dat, hu] at h
    obtain ⟨es, rfl, hes⟩ := h
    obtain ⟨l, rfl, hl⟩ := list_of fun y hy => hx n y (by omega) (hes y hy)
    exact ⟨l, by rw [hc], hl⟩
theorem drop_split {α : Type} {xs c r : List α} {o n o' : Nat} (h : (xs.drop o).take n = c) (hr : xs.drop o' = r) (ho : o + n = o') : xs.drop o = c ++ r := by
  rw [← hr, ← ho, ← List.drop_drop, ← h, List.take_append_drop]
theorem cells32 : Tryz.prog.cellsOf 32 = 9 := by kernel_rfl
theorem cells2 : Tryz.prog.cellsOf 2 = 1 := by kernel_rfl
theorem cells159 : Tryz.prog.cellsOf 159 = 1 := by kernel_rfl
theorem cells189 : Tryz.prog.cellsOf 189 = 5 := by kernel_rfl
theorem cells9 : Tryz.prog.cellsOf 9 = 1 := by kernel_rfl
theorem cells161 : Tryz.prog.cellsOf 161 = 3 := by kernel_rfl
theorem cells22 : Tryz.prog.cellsOf 22 = 1 := by kernel_rfl
theorem cells24 : Tryz.prog.cellsOf 24 = 1 := by kernel_rfl
theorem cells25 : Tryz.prog.cellsOf 25 = 1 := by kernel_rfl
theorem cells26 : Tryz.prog.cellsOf 26 = 1 := by kernel_rfl
theorem cells28 : Tryz.prog.cellsOf 28 = 5 := by kernel_rfl
theorem cells72 : Tryz.prog.cellsOf 72 = 3 := by kernel_rfl
theorem cells29 : Tryz.prog.cellsOf 29 = 1 := by kernel_rfl
theorem cells4 : Tryz.prog.cellsOf 4 = 1 := by kernel_rfl
theorem cells30 : Tryz.prog.cellsOf 30 = 1 := by kernel_rfl
set_option maxRecDepth 100000 in
theorem dat_189 : ∀ {n : Nat} {xs : List HVal}, Dat Tryz.prog n 189 xs → ∃ x : DExpr, xs = x.c ∧ x.wf
  | 0, _, h => h.elim
  | n + 1, xs, h => by
    simp only [Dat, Tryz.underlying189] at h
    obtain ⟨hl, hf⟩ := h
    rw [cells189] at hl
    have f0 : Dat Tryz.prog n 2 ((xs.drop 0).take (Tryz.prog.cellsOf 2)) := hf 0 _ rfl
    rw [cells2] at f0
    obtain ⟨x0, e0, w0⟩ := (dat_i64 Tryz.underlying2 f0)
    have f1 : Dat Tryz.prog n 2 ((xs.drop 1).take (Tryz.prog.cellsOf 2)) := hf 1 _ rfl
    rw [cells2] at f1
    obtain ⟨x1, e1, w1⟩ := (dat_i64 Tryz.underlying2 f1)
    have f2 : Dat Tryz.prog n 2 ((xs.drop 2).take (Tryz.prog.cellsOf 2)) := hf 2 _ rfl
    rw [cells2] at f2
    obtain ⟨x2, e2, w2⟩ := (dat_i64 Tryz.underlying2 f2)
    have f3 : Dat Tryz.prog n 2 ((xs.drop 3).take (Tryz.prog.cellsOf 2)) := hf 3 _ rfl
    rw [cells2] at f3
    obtain ⟨x3, e3, w3⟩ := (dat_i64 Tryz.underlying2 f3)
    have f4 : Dat Tryz.prog n 159 ((xs.drop 4).take (Tryz.prog.cellsOf 159)) := hf 4 _ rfl
    rw [cells159] at f4
    obtain ⟨x4, e4, w4⟩ := (dat_slice (c := DExpr.c) (w := (fun x => x.wf)) Tryz.underlying159 cells189 f4 (fun m y hm hy => (dat_189 hy)))
    have r5 : xs.drop 5 = [] := List.drop_eq_nil_of_le (by omega)
    have r4 := drop_split e4 r5 rfl
    have r3 := drop_split e3 r4 rfl
    have r2 := drop_split e2 r3 rfl
    have r1 := drop_split e1 r2 rfl
    have r0 := drop_split e0 r1 rfl
    exact ⟨.mk x0 x1 x2 x3 x4, by rw [DExpr.c_eq]; exact r0, .mk _ w0 w1 w2 w3 w4⟩
termination_by n => n
decreasing_by all_goals omega
set_option maxRecDepth 100000 in
theorem dat_161 : ∀ {n : Nat} {xs : List HVal}, Dat Tryz.prog n 161 xs → ∃ x : DFunc, xs = x.c ∧ x.wf
  | 0, _, h => h.elim
  | n + 1, xs, h => by
    simp only [Dat, Tryz.underlying161] at h
    obtain ⟨hl, hf⟩ := h
    rw [cells161] at hl
    have f0 : Dat Tryz.prog n 9 ((xs.drop 0).take (Tryz.prog.cellsOf 9)) := hf 0 _ rfl
    rw [cells9] at f0
    obtain ⟨x0, e0, w0⟩ := (dat_str Tryz.underlying9 f0)
    have f1 : Dat Tryz.prog n 2 ((xs.drop 1).take (Tryz.prog.cellsOf 2)) := hf 1 _ rfl
    rw [cells2] at f1
    obtain ⟨x1, e1, w1⟩ := (dat_i64 Tryz.underlying2 f1)
    have f2 : Dat Tryz.prog n 159 ((xs.drop 2).take (Tryz.prog.cellsOf 159)) := hf 2 _ rfl
    rw [cells159] at f2
    obtain ⟨x2, e2, w2⟩ := (dat_slice (c := DExpr.c) (w := (fun x => x.wf)) Tryz.underlying159 cells189 f2 (fun m y hm hy => (dat_189 hy)))
    have r3 : xs.drop 3 = [] := List.drop_eq_nil_of_le (by omega)
    have r2 := drop_split e2 r3 rfl
    have r1 := drop_split e1 r2 rfl
    have r0 := drop_split e0 r1 rfl
    exact ⟨⟨x0, x1, x2⟩, r0, ⟨w1, w2⟩⟩
set_option maxRecDepth 100000 in
theorem dat_24 : ∀ {n : Nat} {xs : List HVal}, Dat Tryz.prog n 24 xs → ∃ x : DProgram, xs = x.c ∧ x.wf
  | 0, _, h => h.elim
  | n + 1, xs, h => by
    simp only [Dat, Tryz.underlying24] at h
    obtain ⟨hl, hf⟩ := h
    rw [cells24] at hl
    have f0 : Dat Tryz.prog n 22 ((xs.drop 0).take (Tryz.prog.cellsOf 22)) := hf 0 _ rfl
    rw [cells22] at f0
    obtain ⟨x0, e0, w0⟩ := (dat_slice (c := DFunc.c) (w := (fun x => x.wf)) Tryz.underlying22 cells161 f0 (fun m y hm hy => (dat_161 hy)))
    have r1 : xs.drop 1 = [] := List.drop_eq_nil_of_le (by omega)
    have r0 := drop_split e0 r1 rfl
    exact ⟨⟨x0⟩, r0, w0⟩
set_option maxRecDepth 100000 in
theorem dat_28 : ∀ {n : Nat} {xs : List HVal}, Dat Tryz.prog n 28 xs → ∃ x : DJob, xs = x.c ∧ x.wf
  | 0, _, h => h.elim
  | n + 1, xs, h => by
    simp only [Dat, Tryz.underlying28] at h
    obtain ⟨hl, hf⟩ := h
    rw [cells28] at hl
    have f0 : Dat Tryz.prog n 24 ((xs.drop 0).take (Tryz.prog.cellsOf 24)) := hf 0 _ rfl
    rw [cells24] at f0
    obtain ⟨x0, e0, w0⟩ := (dat_24 f0)
    have f1 : Dat Tryz.prog n 2 ((xs.drop 1).take (Tryz.prog.cellsOf 2)) := hf 1 _ rfl
    rw [cells2] at f1
    obtain ⟨x1, e1, w1⟩ := (dat_i64 Tryz.underlying2 f1)
    have f2 : Dat Tryz.prog n 2 ((xs.drop 2).take (Tryz.prog.cellsOf 2)) := hf 2 _ rfl
    rw [cells2] at f2
    obtain ⟨x2, e2, w2⟩ := (dat_i64 Tryz.underlying2 f2)
    have f3 : Dat Tryz.prog n 25 ((xs.drop 3).take (Tryz.prog.cellsOf 25)) := hf 3 _ rfl
    rw [cells25] at f3
    obtain ⟨x3, e3, w3⟩ := (dat_slice (c := (fun n => [I n])) (w := (fun x => InI x)) Tryz.underlying25 cells2 f3 (fun m y hm hy => (dat_i64 Tryz.underlying2 hy)))
    have f4 : Dat Tryz.prog n 26 ((xs.drop 4).take (Tryz.prog.cellsOf 26)) := hf 4 _ rfl
    rw [cells26] at f4
    obtain ⟨x4, e4, w4⟩ := (dat_slice (c := (fun x => [sls 1 (fun n => [I n]) x])) (w := (fun x => (∀ y ∈ x, InI y))) Tryz.underlying26 cells25 f4 (fun m y hm hy => (dat_slice (c := (fun n => [I n])) (w := (fun x => InI x)) Tryz.underlying25 cells2 hy (fun m y hm hy => (dat_i64 Tryz.underlying2 hy)))))
    have r5 : xs.drop 5 = [] := List.drop_eq_nil_of_le (by omega)
    have r4 := drop_split e4 r5 rfl
    have r3 := drop_split e3 r4 rfl
    have r2 := drop_split e2 r3 rfl
    have r1 := drop_split e1 r2 rfl
    have r0 := drop_split e0 r1 rfl
    exact ⟨⟨x0, x1, x2, x3, x4⟩, r0, ⟨w0, w1, w2, w3, w4⟩⟩
set_option maxRecDepth 100000 in
theorem dat_72 : ∀ {n : Nat} {xs : List HVal}, Dat Tryz.prog n 72 xs → ∃ x : DPart, xs = x.c ∧ x.wf
  | 0, _, h => h.elim
  | n + 1, xs, h => by
    simp only [Dat, Tryz.underlying72] at h
    obtain ⟨hl, hf⟩ := h
    rw [cells72] at hl
    have f0 : Dat Tryz.prog n 2 ((xs.drop 0).take (Tryz.prog.cellsOf 2)) := hf 0 _ rfl
    rw [cells2] at f0
    obtain ⟨x0, e0, w0⟩ := (dat_i64 Tryz.underlying2 f0)
    have f1 : Dat Tryz.prog n 2 ((xs.drop 1).take (Tryz.prog.cellsOf 2)) := hf 1 _ rfl
    rw [cells2] at f1
    obtain ⟨x1, e1, w1⟩ := (dat_i64 Tryz.underlying2 f1)
    have f2 : Dat Tryz.prog n 25 ((xs.drop 2).take (Tryz.prog.cellsOf 25)) := hf 2 _ rfl
    rw [cells25] at f2
    obtain ⟨x2, e2, w2⟩ := (dat_slice (c := (fun n => [I n])) (w := (fun x => InI x)) Tryz.underlying25 cells2 f2 (fun m y hm hy => (dat_i64 Tryz.underlying2 hy)))
    have r3 : xs.drop 3 = [] := List.drop_eq_nil_of_le (by omega)
    have r2 := drop_split e2 r3 rfl
    have r1 := drop_split e1 r2 rfl
    have r0 := drop_split e0 r1 rfl
    exact ⟨⟨x0, x1, x2⟩, r0, ⟨w0, w1, w2⟩⟩
set_option maxRecDepth 100000 in
theorem dat_32 : ∀ {n : Nat} {xs : List HVal}, Dat Tryz.prog n 32 xs → ∃ x : DService, xs = x.c ∧ x.wf
  | 0, _, h => h.elim
  | n + 1, xs, h => by
    simp only [Dat, Tryz.underlying32] at h
    obtain ⟨hl, hf⟩ := h
    rw [cells32] at hl
    have f0 : Dat Tryz.prog n 28 ((xs.drop 0).take (Tryz.prog.cellsOf 28)) := hf 0 _ rfl
    rw [cells28] at f0
    obtain ⟨x0, e0, w0⟩ := (dat_28 f0)
    have f1 : Dat Tryz.prog n 25 ((xs.drop 5).take (Tryz.prog.cellsOf 25)) := hf 1 _ rfl
    rw [cells25] at f1
    obtain ⟨x1, e1, w1⟩ := (dat_slice (c := (fun n => [I n])) (w := (fun x => InI x)) Tryz.underlying25 cells2 f1 (fun m y hm hy => (dat_i64 Tryz.underlying2 hy)))
    have f2 : Dat Tryz.prog n 29 ((xs.drop 6).take (Tryz.prog.cellsOf 29)) := hf 2 _ rfl
    rw [cells29] at f2
    obtain ⟨x2, e2, w2⟩ := (dat_slice (c := (fun b => [.bool b])) (w := (fun _ => True)) Tryz.underlying29 cells4 f2 (fun m y hm hy => (dat_bool Tryz.underlying4 hy)))
    have f3 : Dat Tryz.prog n 30 ((xs.drop 7).take (Tryz.prog.cellsOf 30)) := hf 3 _ rfl
    rw [cells30] at f3
    obtain ⟨x3, e3, w3⟩ := (dat_slice (c := DPart.c) (w := (fun x => x.wf)) Tryz.underlying30 cells72 f3 (fun m y hm hy => (dat_72 hy)))
    have f4 : Dat Tryz.prog n 25 ((xs.drop 8).take (Tryz.prog.cellsOf 25)) := hf 4 _ rfl
    rw [cells25] at f4
    obtain ⟨x4, e4, w4⟩ := (dat_slice (c := (fun n => [I n])) (w := (fun x => InI x)) Tryz.underlying25 cells2 f4 (fun m y hm hy => (dat_i64 Tryz.underlying2 hy)))
    have r5 : xs.drop 9 = [] := List.drop_eq_nil_of_le (by omega)
    have r4 := drop_split e4 r5 rfl
    have r3 := drop_split e3 r4 rfl
    have r2 := drop_split e2 r3 rfl
    have r1 := drop_split e1 r2 rfl
    have r0 := drop_split e0 r1 rfl
    exact ⟨⟨x0, x1, x2, x3, x4⟩, r0, ⟨w0, w1, w3, w4⟩⟩
def datT : List TypeId := [2, 4, 9, 22, 24, 25, 26, 28, 29, 30, 32, 72, 74, 159, 161, 189]
theorem datT_ok : datB Tryz.prog datT = true := by kernel_rfl

end Go.Hl

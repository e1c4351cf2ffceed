/-
  Contracts of functions and laws of the layer over the walk.
-/
import Derived.Test.YtgkipnacdihfnaaGreatVvA
import Derived.Test.YtgkipnacdihfnaaGreatHlD
namespace Go.Hl
set_option maxRecDepth 100000
open Go.Proofs
set_option linter.unusedVariables false
set_option linter.unusedSimpArgs false
@[go_sem] def a7V : List Nat := [0, 1, 2, 4, 5, 9]
@[go_sem] def bKY : List Nat := [2]
@[go_sem] def bKZ : Marks := fun _ => ([], .nil, [])
theorem aW0 (p : aE) (f : Int) (hps : p.s ≤ 4194304) : gV Tryz.prog 36 [.agg p.c, I f] (I (if p.ok then if 0 ≤ f ∧ f ≤ (p.aI.length : Int) - 1 then 0 else 2 else 1)) := by
 have hv := aKY p hps
 simp only [aE.aR] at hv ⊢
 refine gD 17 a7V bKY bKZ mix Tryz.func36 rfl (by kernel_rfl) (by simp) fun h => ?_
 simp -dsimp -implicitDefEqProofs only [go_sem, ↓reduceIte, Tryz.f36]
 first | refine aH.mk (hv) ?_ | refine aF.mk (hv) ?_ | refine aH.bY (hv) ?_ | refine aF.mk (bQ.fJ (hv)) ?_
 simp -dsimp -implicitDefEqProofs only [go_sem, ↓reduceIte, Tryz.f36]
 repeat' (with_reducible first | intro _ | refine And.intro ?_ ?_)
 ·rename_i hn
  rw [if_neg hn]
 ·rename_i hn _
  rw [if_pos hn]
  all_goals try simp (disch := omega) only [IntWalk.i64_in]
  first | refine aH.mk (within f 0 (p.aI.length - 1)) ?_ | refine aF.mk (within f 0 (p.aI.length - 1)) ?_ | refine aH.bY (within f 0 (p.aI.length - 1)) ?_ | refine aF.mk (bQ.fJ (within f 0 (p.aI.length - 1))) ?_
  simp -dsimp -implicitDefEqProofs only [go_sem, ↓reduceIte, Tryz.f36]
  repeat' (with_reducible first | intro _ | refine And.intro ?_ ?_)
  ·rename_i q
   rw [if_neg q]
  ·rename_i q
   rw [if_pos q]
def eU.okF (j : eU) (f : aS) : Prop := (0 ≤ j.bK ∧ j.bK ≤ f.aZ) ∧ ((j.cJ.length : Int) = j.bK ∧ fG j.cJ) ∧ (j.cP.length : Int) ≤ 10 ∧ ∀ t ∈ j.cP, (t.length : Int) = f.aZ - j.bK ∧ fG t
def eU.ok (j : eU) : Prop := j.aU.ok ∧ (0 ≤ j.cO ∧ j.cO ≤ (j.aU.aI.length : Int) - 1) ∧ ∀ f, j.aU.aI[j.cO.toNat]? = some f → j.okF f
noncomputable instance (j : eU) : Decidable j.ok := Classical.propDecidable _
@[go_sem] def aW1 : List Nat := [0, 2, 3, 4, 24, 71, 78, 106]
@[go_sem] def bEC : List Nat := []
@[go_sem] def bED : Marks := fun id => match id with | 1 => ([], (.op 0 (.op 1 (.op 2 (.op 3 (.op 4 (.op 5 (.op 6 (.op 7 (.op 8 (.op 9 (.op 10 (.op 11 (.op 12 (.op 13 (.op 14 (.op 15 (.op 16 (.op 17 (.op 18 (.op 19 .nil)))))))))))))))))))), []) | 3 => ([], (.op 0 (.op 1 (.op 2 (.op 3 (.op 4 (.op 5 (.op 6 (.op 7 (.op 8 (.op 9 (.op 10 (.op 11 (.op 12 .nil))))))))))))), []) | 4 => ([], (.op 0 (.op 1 (.op 2 (.op 3 (.op 4 (.op 5 (.op 6 (.op 7 (.op 8 (.op 9 (.op 10 (.op 11 (.op 12 (.op 13 (.op 14 (.op 15 (.op 16 (.op 17 (.op 18 (.op 19 (.op 20 (.op 21 (.op 22 (.op 23 (.op 24 (.op 25 (.op 26 (.op 27 (.op 28 (.op 29 (.op 30 (.op 31 (.op 32 (.op 33 (.op 34 .nil))))))))))))))))))))))))))))))))))), []) | 9 => ([], (.op 0 (.op 1 (.op 2 (.op 3 (.op 4 (.op 5 (.op 6 (.op 7 (.op 8 (.op 9 (.op 10 (.op 11 (.op 12 (.op 13 (.op 14 (.op 15 (.op 16 (.op 17 (.op 18 (.op 19 (.op 20 (.op 21 (.op 22 (.op 23 (.op 24 (.op 25 .nil)))))))))))))))))))))))))), []) | _ => ([], .nil, [])
theorem a7W (j : eU) (hps : j.aU.s ≤ 4194304) : gV Tryz.prog 28 [.ip 5 [j.c] 0 0] (.bool (decide j.ok)) := by
 have hl := j.aU.aGZ
 have e1 : IntKind.i64.wrap ((j.aU.aI.length : Int) - 1) = j.aU.aI.length - 1 := IntWalk.i64_in _ (by omega)
 simp only [eU.aR]
 refine gD 107 aW1 bEC bED mix Tryz.func28 rfl (by kernel_rfl) (by simp) fun h => ?_
 simp -dsimp -implicitDefEqProofs only [go_sem, ↓reduceIte, Tryz.f28, e1]
 first | refine aF.mk ((a49 j.aU hps).sub (by repeat' (first | exact fN.nil | refine fN.cons ?_ ?_ | exact Sub.refl _ | (rw [aB.aR]; exact Sub.refl _) | exact Sub.fP rfl rfl rfl | exact Sub.ip (cH (by omega)) (by simp) | exact Sub.fP (cH (by omega)) rfl rfl | exact Sub.ip (by simp [*]) (by simp) | exact Sub.fP (by simp [*]) (by rfl) (by rfl)))) ?_ | refine aH.mk ((a49 j.aU hps).sub (by repeat' (first | exact fN.nil | refine fN.cons ?_ ?_ | exact Sub.refl _ | (rw [aB.aR]; exact Sub.refl _) | exact Sub.fP rfl rfl rfl | exact Sub.ip (cH (by omega)) (by simp) | exact Sub.fP (cH (by omega)) rfl rfl | exact Sub.ip (by simp [*]) (by simp) | exact Sub.fP (by simp [*]) (by rfl) (by rfl)))) ?_
 simp -dsimp -implicitDefEqProofs only [go_sem, ↓reduceIte, Tryz.f28, e1]
 repeat' (with_reducible first | intro _ | refine And.intro ?_ ?_)
 ·rename_i hp
  first | refine aH.mk (fI j.cO 0 (j.aU.aI.length - 1)) ?_ | refine aF.mk (fI j.cO 0 (j.aU.aI.length - 1)) ?_ | refine aH.bY (fI j.cO 0 (j.aU.aI.length - 1)) ?_ | refine aF.mk (bQ.fJ (fI j.cO 0 (j.aU.aI.length - 1))) ?_
  simp -dsimp -implicitDefEqProofs only [go_sem, ↓reduceIte, Tryz.f28, e1]
  repeat' (with_reducible first | intro _ | refine And.intro ?_ ?_)
  ·rename_i hr
   exact (decide_eq_false fun z => hr z.2.1).symm
  all_goals try omega
  rename_i hr
  obtain ⟨f, ef⟩ : ∃ f, j.aU.aI[j.cO.toNat]? = some f := ⟨_, List.getElem?_eq_getElem (by omega)⟩
  have hfo := hp.2 _ f ef
  have hj : j.ok ↔ j.okF f := ⟨fun z => z.2.2 f ef, fun z => ⟨hp, hr, fun g eg => by rw [ef] at eg; obtain rfl := Option.some.inj eg; exact z⟩⟩
  have hp1 := hfo.2.1
  simp -dsimp -implicitDefEqProofs only [go_sem, ↓reduceIte, Tryz.f28, ef, aS.aR]
  first | refine aH.mk (fI j.bK 0 f.aZ) ?_ | refine aF.mk (fI j.bK 0 f.aZ) ?_ | refine aH.bY (fI j.bK 0 f.aZ) ?_ | refine aF.mk (bQ.fJ (fI j.bK 0 f.aZ)) ?_
  simp -dsimp -implicitDefEqProofs only [go_sem, ↓reduceIte, Tryz.f28]
  repeat' (with_reducible first | intro _ | refine And.intro ?_ ?_)
  ·rename_i hsh hlen
   first | refine aH.mk (jO j.cJ) ?_ | refine aF.mk (jO j.cJ) ?_ | refine aH.bY (jO j.cJ) ?_ | refine aF.mk (bQ.fJ (jO j.cJ)) ?_
   simp -dsimp -implicitDefEqProofs only [go_sem, ↓reduceIte, Tryz.f28]
   repeat' (with_reducible first | intro _ | refine And.intro ?_ ?_)
   ·exact (decide_eq_false fun z => by have := (hj.1 z).2.2.1; omega).symm
   ·have e4 : IntKind.i64.wrap (f.aZ - j.bK) = f.aZ - j.bK := IntWalk.i64_in _ (by omega)
    refine dA (keep := aW1) (ib := bEC) (mk := bED) mix (by kernel_rfl) (fun k : Nat => [(0, .ip 5 [j.c] 0 0), (3, I f.aZ), (4, I k)]) (fun _ => h) (fun k => k ≤ j.cP.length ∧ ∀ t ∈ j.cP.take k, (t.length : Int) = f.aZ - j.bK ∧ fG t) (fun k => j.cP.length - k) 0 (by refine ⟨by simp [dF, b6, eU.aR], by repeat' (with_reducible first | exact aA.le_refl _ | refine (aP (by first | assumption | exact And.right (by assumption) | exact cW.2 (by assumption))).2 ?_), by simp⟩) ?_
    intro k ⟨hk, hall⟩
    simp only [eU.aR]
    rcases Nat.lt_or_ge k j.cP.length with hlt | hge
    ·have ea : j.cP[k]? = some j.cP[k] := List.getElem?_eq_getElem hlt
     have no (q : ¬ ((j.cP[k].length : Int) = f.aZ - j.bK ∧ fG j.cP[k])) : false = decide j.ok := (decide_eq_false fun z => q ((hj.1 z).2.2.2 _ (List.getElem_mem hlt))).symm
     simp -dsimp -implicitDefEqProofs only [go_sem, ↓reduceIte, Tryz.f28, ea, e4]
     repeat' (with_reducible first | intro _ | refine And.intro ?_ ?_)
     all_goals try omega
     ·first | refine aH.mk (jO j.cP[k]) ?_ | refine aF.mk (jO j.cP[k]) ?_ | refine aH.bY (jO j.cP[k]) ?_ | refine aF.mk (bQ.fJ (jO j.cP[k])) ?_
      simp -dsimp -implicitDefEqProofs only [go_sem, ↓reduceIte, Tryz.f28]
      repeat' (with_reducible first | intro _ | refine And.intro ?_ ?_)
      ·rename_i q4 q5
       exact no fun z => q5 z.2
      ·rename_i q4 q5
       refine ⟨k + 1, ?_⟩
       repeat' (with_reducible refine And.intro ?_ ?_)
       all_goals try (rw [IntWalk.i64_in _ (by omega)]; first | rfl | omega)
       all_goals try omega
       all_goals try (repeat' (with_reducible first | exact aA.le_refl _ | refine (aP (by first | assumption | exact And.right (by assumption) | exact cW.2 (by assumption))).2 ?_))
       all_goals try (simp only [eU.aR]; done)
       exact j8 (P := fun t : List Int => (t.length : Int) = f.aZ - j.bK ∧ fG t) hlt hall ⟨q4, q5⟩
     ·rename_i q4
      exact no fun z => q4 z.1
    ·have hk' : k = j.cP.length := by omega
     subst hk'
     rw [List.take_length] at hall
     simp -dsimp -implicitDefEqProofs only [go_sem, ↓reduceIte, Tryz.f28, Nat.lt_irrefl]
     exact fun _ => (decide_eq_true (hj.2 ⟨hsh, ⟨by assumption, by assumption⟩, by omega, hall⟩)).symm
   ·rename_i q2
    exact (decide_eq_false fun z => q2 (hj.1 z).2.1.2).symm
  ·rename_i q
   exact (decide_eq_false fun z => q (hj.1 z).2.1.1).symm
  ·rename_i q
   exact (decide_eq_false fun z => q (hj.1 z).1).symm
 ·rename_i hp
  exact (decide_eq_false fun z => hp z.1).symm
@[go_sem] def a7X : List Nat := [0, 1, 3]
@[go_sem] def bK0 : List Nat := []
@[go_sem] def bK1 : Marks := fun _ => ([], .nil, [])
theorem aUI (l : List Int) (c : Int) (n : Nat) {h0 : aA} (hn : h0 n = some (.row 1 [[.v (I c)]])) : bQ Tryz.prog 39 [eI 1 (fun n => [I n]) l, .op n 1 0 0] (.bool (!decide ((l.length : Int) = c ∧ fG l))) h0 := by
 have hg (h : aA) (hle : h0.le h) := aA.aKG hle hn
 refine aEL 8 a7X bK0 bK1 mix Tryz.func39 rfl (by kernel_rfl) (by simp) fun h hle => ?_
 simp -dsimp -implicitDefEqProofs only [go_sem, ↓reduceIte, Tryz.f39]
 have hn' := hg h hle
 simp -dsimp -implicitDefEqProofs only [go_sem, ↓reduceIte, Tryz.f39, hn']
 first | refine aH.mk (lE l c) ?_ | refine aF.mk (lE l c) ?_ | refine aH.bY (lE l c) ?_ | refine aF.mk (bQ.fJ (lE l c)) ?_
 simp -dsimp -implicitDefEqProofs only [go_sem, ↓reduceIte, Tryz.f39]
@[go_sem] def aW2 : List Nat := [0, 1, 4, 5, 7, 8, 9, 16]
@[go_sem] def bEE : List Nat := []
@[go_sem] def bEF : Marks := fun _ => ([], .nil, [])
theorem aK0 (a : List (List Int)) (p : (List Int) → Bool) (g : FuncId) (cap : List aD) {h0 : aA} (hc : ∀ x ∈ a, bQ Tryz.prog g ([(eI 1 (fun n => [I n]) x)] ++ cap) (.bool (p x)) h0) : bQ Tryz.prog 72 [(eI 1 (fun x => [eI 1 (fun n => [I n]) x]) a), .fn (.func g) [] cap] (I (idxOf p a)) h0 := by
 refine aEL 19 aW2 bEE bEF mix Tryz.func72 rfl (by kernel_rfl) (by simp) fun h hle => ?_
 simp -dsimp -implicitDefEqProofs only [go_sem, ↓reduceIte, Tryz.f72, Tryz.f72]
 intro _
 refine dA (keep := aW2) (ib := bEE) (mk := bEF) mix (by kernel_rfl) (fun k : Nat => [(0, (eI 1 (fun x => [eI 1 (fun n => [I n]) x]) a)), (1, .fn (.func g) [] cap), (7, I a.length), (8, I k)]) (fun _ => h) (fun k => k ≤ a.length ∧ ∀ x ∈ a.take k, p x = false) (fun k => a.length - k) 0 (by simp [dF, b6, aA.le_refl]) ?_
 intro k ⟨hk, hp⟩
 rcases Nat.lt_or_ge k a.length with hlt | hge
 ·have ea : a[k]? = some a[k] := List.getElem?_eq_getElem hlt
  simp -dsimp -implicitDefEqProofs only [go_sem, ↓reduceIte, Tryz.f72, Tryz.f72, ea]
  repeat' (with_reducible first | intro _ | refine And.intro ?_ ?_)
  all_goals try omega
  have hx := hc a[k] (List.getElem_mem hlt)
  refine aH.bY (hx.mono hle) ?_
  cases hpk : p a[k] with
  |true =>
   simp -dsimp -implicitDefEqProofs only [go_sem, ↓reduceIte, Tryz.f72, Tryz.f72]
   repeat' (with_reducible first | intro _ | refine And.intro ?_ ?_)
   all_goals first | exact (qK hlt hp hpk).symm | rfl | (rw [qK hlt hp hpk])
  |false =>
   simp -dsimp -implicitDefEqProofs only [go_sem, ↓reduceIte, Tryz.f72, Tryz.f72]
   refine ⟨k + 1, ?_⟩
   repeat' (with_reducible refine And.intro ?_ ?_)
   all_goals try (rw [IntWalk.i64_in _ (by omega)]; first | rfl | omega)
   all_goals try omega
   exact j8 (P := fun x => p x = false) hlt hp hpk
 ·have hk' : k = a.length := by omega
  subst hk'
  rw [List.take_length] at hp
  simp -dsimp -implicitDefEqProofs only [go_sem, ↓reduceIte, Tryz.f72, Tryz.f72, Nat.lt_irrefl]
  all_goals first | exact (qJ hp).symm | rw [qJ hp]
@[go_sem] def a7Y : List Nat := [0, 1, 4]
@[go_sem] def bK2 : List Nat := []
@[go_sem] def bK3 : Marks := fun _ => ([], .nil, [])
theorem aK1 (a : List (List Int)) (p : (List Int) → Bool) (g : FuncId) (cap : List aD) {h0 : aA} (hc : ∀ x ∈ a, bQ Tryz.prog g ([(eI 1 (fun n => [I n]) x)] ++ cap) (.bool (p x)) h0) : bQ Tryz.prog 38 [(eI 1 (fun x => [eI 1 (fun n => [I n]) x]) a), .fn (.func g) [] cap] (.bool (a.any p)) h0 := by
 refine aEL 9 a7Y bK2 bK3 mix Tryz.func38 rfl (by kernel_rfl) (by simp) fun h hle => ?_
 simp -dsimp -implicitDefEqProofs only [go_sem, ↓reduceIte, Tryz.f38, Tryz.f38]
 refine aH.bY ((aK0 a p g cap hc).mono hle) ?_
 simp -dsimp -implicitDefEqProofs only [go_sem, ↓reduceIte, Tryz.f38, Tryz.f38]
 all_goals first | done | exact nM | rw [nM]
@[go_sem] def aW3 : List Nat := [0, 1, 2, 3, 31]
@[go_sem] def bEG : List Nat := [1]
@[go_sem] def bEH : Marks := fun id => match id with | 1 => ([], (.op 0 (.op 1 (.op 2 (.op 3 (.op 4 (.op 5 (.op 6 (.op 7 (.op 8 (.op 9 (.op 10 (.op 11 (.op 12 (.op 13 (.op 14 (.op 15 (.op 16 (.op 17 (.op 18 (.op 19 (.op 20 (.op 21 (.op 22 (.op 23 (.op 24 (.op 25 (.op 26 (.op 27 .nil)))))))))))))))))))))))))))), []) | 3 => ([11, 12], (.op 0 (.op 1 (.op 2 (.op 3 (.op 4 (.op 5 (.op 6 (.op 7 (.op 8 (.op 9 (.op 10 (.op 11 (.op 12 .nil))))))))))))), []) | _ => ([], .nil, [])
theorem aOH (j : eU) (hps : j.aU.s ≤ 4194304) : gV Tryz.prog 16 [.agg j.c] (.bool (decide j.ok)) := by
 have hif := aW0 j.aU j.cO hps
 have hl := j.aU.aGZ
 simp only [eU.aR, aE.aR] at hif ⊢
 by_cases hp : j.aU.ok ∧ (0 ≤ j.cO ∧ j.cO ≤ (j.aU.aI.length : Int) - 1)
 ·obtain ⟨hp, hr⟩ := hp
  rw [if_pos hp, if_pos hr] at hif
  obtain ⟨f, ef⟩ : ∃ f, j.aU.aI[j.cO.toNat]? = some f := ⟨_, List.getElem?_eq_getElem (by omega)⟩
  have hfo := hp.2 _ f ef
  have hj : j.ok ↔ j.okF f := ⟨fun z => z.2.2 f ef, fun z => ⟨hp, hr, fun g eg => by rw [ef] at eg; obtain rfl := Option.some.inj eg; exact z⟩⟩
  have hp1 := hfo.2.1
  refine gD 54 aW3 bEG bEH mix Tryz.func16 rfl (by kernel_rfl) (by simp) fun h => ?_
  simp -dsimp -implicitDefEqProofs only [go_sem, ↓reduceIte, Tryz.f16]
  first | refine aH.mk (hif) ?_ | refine aF.mk (hif) ?_ | refine aH.bY (hif) ?_ | refine aF.mk (bQ.fJ (hif)) ?_
  simp -dsimp -implicitDefEqProofs only [go_sem, ↓reduceIte, Tryz.f16, ef, aS.aR]
  repeat' (with_reducible first | intro _ | refine And.intro ?_ ?_)
  all_goals try omega
  first | refine aH.mk (within j.bK 0 f.aZ) ?_ | refine aF.mk (within j.bK 0 f.aZ) ?_ | refine aH.bY (within j.bK 0 f.aZ) ?_ | refine aF.mk (bQ.fJ (within j.bK 0 f.aZ)) ?_
  simp -dsimp -implicitDefEqProofs only [go_sem, ↓reduceIte, Tryz.f16, ef, aS.aR]
  repeat' (with_reducible first | intro _ | refine And.intro ?_ ?_)
  ·first | refine aH.mk (lE j.cJ j.bK) ?_ | refine aF.mk (lE j.cJ j.bK) ?_ | refine aH.bY (lE j.cJ j.bK) ?_ | refine aF.mk (bQ.fJ (lE j.cJ j.bK)) ?_
   simp -dsimp -implicitDefEqProofs only [go_sem, ↓reduceIte, Tryz.f16, ef, aS.aR]
   repeat' (with_reducible first | intro _ | refine And.intro ?_ ?_)
   all_goals try omega
   ·rename_i q
    exact (decide_eq_false fun z => q (hj.1 z).2.1).symm
   ·rename_i n hn q1 q2
    rw [IntWalk.i64_in _ (by omega)]
    refine aH.bY (aK1 j.cP (fun t => !decide ((t.length : Int) = f.aZ - j.bK ∧ fG t)) 39 [.op n 1 0 0] fun t _ => aUI t (f.aZ - j.bK) n (by simp [aL])) ?_
    simp -dsimp -implicitDefEqProofs only [go_sem, ↓reduceIte, Tryz.f16]
    repeat' (with_reducible first | intro _ | refine And.intro ?_ ?_)
    all_goals try (repeat' (with_reducible first | exact aA.le_refl _ | refine (aP (by first | assumption | exact And.right (by assumption) | exact cW.2 (by assumption))).2 ?_))
    rw [aR3, decide_eq_decide, hj]
    exact ⟨fun q => ⟨by assumption, by assumption, by omega, q⟩, fun q => q.2.2.2⟩
   ·rename_i q
    exact (decide_eq_false fun z => q (by have := (hj.1 z).2.2.1; omega)).symm
   ·all_goals try (repeat' (with_reducible first | exact aA.le_refl _ | refine (aP (by first | assumption | exact And.right (by assumption) | exact cW.2 (by assumption))).2 ?_))
  ·rename_i q
   exact (decide_eq_false fun z => q (hj.1 z).1).symm
 ·have hne : ¬ (if j.aU.ok then if 0 ≤ j.cO ∧ j.cO ≤ (j.aU.aI.length : Int) - 1 then 0 else 2 else 1 : Int) = 0 := by
   intro q
   split at q
   ·split at q
    ·rename_i a b
     exact hp ⟨a, b⟩
    ·cases q
   ·cases q
  refine gD 54 aW3 bEG bEH mix Tryz.func16 rfl (by kernel_rfl) (by simp) fun h => ?_
  simp -dsimp -implicitDefEqProofs only [go_sem, ↓reduceIte, Tryz.f16]
  first | refine aH.mk (hif) ?_ | refine aF.mk (hif) ?_ | refine aH.bY (hif) ?_ | refine aF.mk (bQ.fJ (hif)) ?_
  simp -dsimp -implicitDefEqProofs only [go_sem, ↓reduceIte, Tryz.f16]
  repeat' (with_reducible first | intro _ | refine And.intro ?_ ?_)
  all_goals try (exact absurd (by assumption) hne)
  exact (decide_eq_false fun z => hp ⟨z.1, z.2.1⟩).symm
set_option maxRecDepth 100000
open Go.Proofs
set_option linter.unusedVariables false
set_option linter.unusedSimpArgs false
@[go_sem] def a7Z : List Nat := [0, 1, 4]
@[go_sem] def bK4 : List Nat := []
@[go_sem] def bK5 : Marks := fun _ => ([], .nil, [])
theorem aW4 (j : eU) (l : List Int) : gV Tryz.prog 30 [.ip 5 [j.c] 0 0, eI 1 (fun n => [I n]) l] (.bool (decide ((l.length : Int) = j.bK ∧ fG l))) := by
 simp only [eU.aR]
 refine gD 16 a7Z bK4 bK5 mix Tryz.func30 rfl (by kernel_rfl) (by simp) fun h => ?_
 simp -dsimp -implicitDefEqProofs only [go_sem, ↓reduceIte, Tryz.f30]
 repeat' (with_reducible first | intro _ | refine And.intro ?_ ?_)
 all_goals try (first | (simp [*]; done) | omega | grind)
 first | refine aH.mk (jO l) ?_ | refine aF.mk (jO l) ?_ | refine aH.bY (jO l) ?_ | refine aF.mk (bQ.fJ (jO l)) ?_
 simp -dsimp -implicitDefEqProofs only [go_sem, ↓reduceIte, Tryz.f30]
 all_goals try (first | (simp [*]; done) | omega | grind)
open Go.Proofs
set_option linter.unusedVariables false
set_option linter.unusedSimpArgs false
open Go.Proofs
set_option linter.unusedVariables false
set_option linter.unusedSimpArgs false
open Go.Proofs
set_option linter.unusedVariables false
set_option linter.unusedSimpArgs false
mutual
def aB.o : aB → List OV → Prop
 | .mk aO aX cN cA aK, e => ∃ y, e = [.v (.int .i64 aO), .v (.int .i64 aX), .v (.int .i64 cN), .v (.int .i64 cA), y] ∧ ((y = .nil 5 ∧ aK = []) ∨ ∃ n es, y = .sl n 5 es ∧ aB.oR aK es)
def aB.oR : List aB → List (List OV) → Prop
 | [], [] => True
 |x :: l, e :: es => x.o e ∧ aB.oR l es
 | _, _ => False
end
theorem aB.a5C : ∀ (l : List aB) (es : List (List OV)), aB.oR l es = OR aB.o l es
 | [], [] => rfl
 |x :: l, e :: es => by rw [aB.oR, OR, aB.a5C l es]
 | [], _ :: _ => rfl
 | _ :: _, [] => rfl
theorem aB.rU (x : aB) (e : List OV) : x.o e ↔ ∃ y4, e = [.v (.int .i64 x.aO), .v (.int .i64 x.aX), .v (.int .i64 x.cN), .v (.int .i64 x.cA), y4] ∧ OS aB.o 5 x.aK y4 := by
 cases x
 simp only [aB.o, aB.a5C, OS]
 rfl
mutual
theorem aB.aJD : ∀ {x : aB} {e : List OV}, x.o e → e.map OV.sZ = x.c
 | .mk aO aX cN cA aK, e, h => by
  rw [aB.rU] at h
  obtain ⟨y, rfl, h⟩ := h
  have hk : y.sZ = .sl 5 (aK.map aB.c) false := by
   rcases h with ⟨rfl, h0⟩ | ⟨n, es, rfl, h⟩
   ·have h1 : aK = [] := h0
    subst h1; rfl
   ·simp only [OV.sZ]
    rw [aB.aW5 h]
    rfl
  rw [aB.aR]
  simp only [List.map_cons, List.map_nil, OV.sZ, hk]
  rfl
theorem aB.aW5 : ∀ {l : List aB} {es : List (List OV)}, OR aB.o l es → OV.kP es = l.map aB.c
 | [], [], _ => rfl
 |x :: l, e :: es, h => by rw [OV.kP, aB.aW5 h.2, OV.wH, aB.aJD h.1]; rfl
 | [], _ :: _, h => h.elim
 | _ :: _, [], h => h.elim
end
def aS.o (x : aS) (e : List OV) : Prop := ∃ y2, e = [.v (.str x.j5), .v (.int .i64 x.aZ), y2] ∧ OS aB.o 5 x.aW y2
theorem aS.aJD {x : aS} {e : List OV} (h : x.o e) : e.map OV.sZ = x.c := by
 obtain ⟨y2, rfl, o2⟩ := h
 have d2 := OS.sZ (c := aB.c) (fun _ _ q => aB.aJD q) o2
 rw [aS.aR]
 simp only [List.map_cons, List.map_nil, OV.sZ, d2]
def lI.o (x : lI) (e : List OV) : Prop := ∃ y2, e = [.v (.int .i64 x.b7), .v (.int .i64 x.aAO), y2] ∧ OS (oP I) 1 x.vH y2
theorem lI.aJD {x : lI} {e : List OV} (h : x.o e) : e.map OV.sZ = x.c := by
 obtain ⟨y2, rfl, o2⟩ := h
 have d2 := OS.sZ (c := (fun n => [I n])) (fun _ _ q => aKJ q) o2
 rw [lI.aR]
 simp only [List.map_cons, List.map_nil, OV.sZ, d2]
open Go.Proofs
set_option linter.unusedVariables false
set_option linter.unusedSimpArgs false
set_option maxRecDepth 100000
open Go.Proofs
set_option linter.unusedVariables false
set_option linter.unusedSimpArgs false
@[go_sem] def a70 : List Nat := [0, 2, 4]
@[go_sem] def bK6 : List Nat := [5]
@[go_sem] def bK7 : Marks := fun _ => ([], .nil, [])
theorem aW6 (l : List Int) (hl : l.length ≤ 1048576) : FnN Tryz.prog 67 [eI 1 (fun n => [I n]) l] (QS (OS (oP I) 1 l)) := by
 refine aIM 8 a70 bK6 bK7 mix Tryz.func67 rfl (by kernel_rfl) (by simp) fun h => ?_
 simp -dsimp -implicitDefEqProofs only [go_sem, ↓reduceIte, Tryz.f67]
 repeat' (with_reducible first | intro _ | refine And.intro ?_ ?_)
 all_goals try (first | exact aR1 (by assumption) | exact aR2 (by assumption) | exact zB (by assumption) | omega)
@[go_sem] def a71 : List Nat := [0, 2]
@[go_sem] def bK8 : List Nat := [3]
@[go_sem] def bK9 : Marks := fun _ => ([], .nil, [])
theorem aQJ (l : List Int) (hl : l.length ≤ 1048576) : FnN Tryz.prog 51 [eI 1 (fun n => [I n]) l] (QS (OS (oP I) 1 l)) := by
 refine aIM 6 a71 bK8 bK9 mix Tryz.func51 rfl (by kernel_rfl) (by simp) fun h => ?_
 simp -dsimp -implicitDefEqProofs only [go_sem, ↓reduceIte, Tryz.f51]
 repeat' (with_reducible first | intro _ | refine And.intro ?_ ?_)
 all_goals try (first | exact aR1 (by assumption) | exact aR2 (by assumption) | exact zB (by assumption) | omega)
open Go.Proofs
set_option linter.unusedVariables false
set_option linter.unusedSimpArgs false
open Go.Proofs
set_option linter.unusedVariables false
set_option linter.unusedSimpArgs false
open Go.Proofs
set_option linter.unusedVariables false
set_option linter.unusedSimpArgs false
set_option maxRecDepth 100000
open Go.Proofs
set_option linter.unusedVariables false
set_option linter.unusedSimpArgs false
theorem a5D (n : Int) : n.tmod 1000003 = n % 1000003 ∨ n.tmod 1000003 = n % 1000003 - 1000003 := by
 by_cases h : 0 ≤ n
 ·exact .inl (Int.tmod_eq_emod_of_nonneg h)
 ·have h1 : n.tmod 1000003 = -((-n) % 1000003) := by
   have h2 : n = -(-n) := by omega
   rw [h2, Int.neg_tmod, Int.tmod_eq_emod_of_nonneg (by omega), Int.neg_neg]
  rw [h1]; omega
@[go_sem] def a72 : List Nat := [0, 2]
@[go_sem] def bLA : List Nat := []
@[go_sem] def bLB : Marks := fun _ => ([], .nil, [])
theorem iF (n : Int) : gV Tryz.prog 95 [I n] (I (n % 1000003)) := by
 refine gD 7 a72 bLA bLB mix Tryz.func95 rfl (by kernel_rfl) (by simp) fun h => ?_
 simp -dsimp -implicitDefEqProofs only [go_sem, ↓reduceIte, Tryz.f95]
 rcases a5D n with h | h
 all_goals
  rw [h, IntWalk.i64_in _ (by omega), Int.tmod_eq_emod_of_nonneg (by omega)]
  omega
@[go_sem] def a73 : List Nat := [0, 2, 3, 7]
@[go_sem] def bLC : List Nat := []
@[go_sem] def bLD : Marks := fun _ => ([], .nil, [])
theorem cZ (n : Int) : gV Tryz.prog 45 [I n] (I (n % 1000003)) := by
 refine gD 11 a73 bLC bLD mix Tryz.func45 rfl (by kernel_rfl) (by simp) fun h => ?_
 simp -dsimp -implicitDefEqProofs only [go_sem, ↓reduceIte, Tryz.f45]
 rcases a5D n with h | h
 all_goals
  rw [h]
  refine ⟨fun q => ?_, fun q => ?_⟩
  all_goals first | omega | (rw [IntWalk.i64_in _ (by omega)]; omega)
@[go_sem] def a74 : List Nat := [0, 1, 4]
@[go_sem] def bLE : List Nat := []
@[go_sem] def bLF : Marks := fun _ => ([], .nil, [])
theorem aOI (a b : Int) : gV Tryz.prog 68 [I a, I b] (I ((a + b) % 1000003)) := by
 refine gD 11 a74 bLE bLF mix Tryz.func68 rfl (by kernel_rfl) (by simp) fun h => ?_
 simp -dsimp -implicitDefEqProofs only [go_sem, ↓reduceIte, Tryz.f68]
 first | refine aH.mk (iF a) ?_ | refine aF.mk (iF a) ?_ | refine aH.bY (iF a) ?_ | refine aF.mk (bQ.fJ (iF a)) ?_
 simp -dsimp -implicitDefEqProofs only [go_sem, ↓reduceIte, Tryz.f68]
 first | refine aH.mk (iF b) ?_ | refine aF.mk (iF b) ?_ | refine aH.bY (iF b) ?_ | refine aF.mk (bQ.fJ (iF b)) ?_
 simp -dsimp -implicitDefEqProofs only [go_sem, ↓reduceIte, Tryz.f68]
 rw [IntWalk.i64_in _ (by omega), Int.tmod_eq_emod_of_nonneg (by omega)]
 omega
@[go_sem] def a75 : List Nat := [0, 1, 4]
@[go_sem] def bLG : List Nat := []
@[go_sem] def bLH : Marks := fun _ => ([], .nil, [])
theorem iA (a b : Int) : gV Tryz.prog 20 [I a, I b] (I ((a + b) % 1000003)) := by
 refine gD 11 a75 bLG bLH mix Tryz.func20 rfl (by kernel_rfl) (by simp) fun h => ?_
 simp -dsimp -implicitDefEqProofs only [go_sem, ↓reduceIte, Tryz.f20]
 first | refine aH.mk (cZ a) ?_ | refine aF.mk (cZ a) ?_ | refine aH.bY (cZ a) ?_ | refine aF.mk (bQ.fJ (cZ a)) ?_
 simp -dsimp -implicitDefEqProofs only [go_sem, ↓reduceIte, Tryz.f20]
 first | refine aH.mk (cZ b) ?_ | refine aF.mk (cZ b) ?_ | refine aH.bY (cZ b) ?_ | refine aF.mk (bQ.fJ (cZ b)) ?_
 simp -dsimp -implicitDefEqProofs only [go_sem, ↓reduceIte, Tryz.f20]
 rw [IntWalk.i64_in _ (by omega), Int.tmod_eq_emod_of_nonneg (by omega)]
 omega
def pG (a b : List Int) : List Int := List.zipWith (fun x y => (x + y) % 1000003) a b
theorem aOJ {a b : List Int} (h : b.length = a.length) : (pG a b).length = a.length := by simp [pG, h]
@[go_sem] def aW7 : List Nat := [0, 1, 4, 5, 6, 11, 12, 13]
@[go_sem] def bEI : List Nat := []
@[go_sem] def bEJ : Marks := fun id => match id with | 5 => ([13], (.op 0 (.op 1 (.op 2 (.op 3 (.op 4 (.op 5 (.op 6 (.op 7 (.op 8 (.op 9 (.op 10 (.op 11 (.op 12 (.op 13 .nil)))))))))))))), []) | _ => ([], .nil, [])
theorem added (a b : List Int) (hab : b.length = a.length) (hl : a.length ≤ 1048576) (ha : ∀ x ∈ a, 0 ≤ x ∧ x < 1000003) (hb : ∀ x ∈ b, 0 ≤ x ∧ x < 1000003) : FnN Tryz.prog 69 [eI 1 (fun n => [I n]) a, eI 1 (fun n => [I n]) b] (QS (OS (oP I) 1 (pG a b))) := by
 refine aIM 30 aW7 bEI bEJ mix Tryz.func69 rfl (by kernel_rfl) (by simp) fun h => ?_
 simp -dsimp -implicitDefEqProofs only [go_sem, ↓reduceIte, Tryz.f69]
 intro _
 refine ⟨Nat.zero_lt_one, Nat.le_refl _, by omega, by omega, fun n hn _ => ?_⟩
 have hc := aOJ hab
 rw [wI]
 refine r8 (keep := aW7) (ib := bEI) (mk := bEJ) mix (by kernel_rfl) (fun k : Nat => [(0, eI 1 (fun n => [I n]) a), (1, eI 1 (fun n => [I n]) b), (5, .os n 1 0 a.length), (11, I a.length), (12, I k)]) n (fun k => .row 1 (((upL (pG a b) k).map fun n => [I n]).map (List.map .v))) (fun k => k ≤ a.length) (fun k => a.length - k) 0 ⟨by simp [dF, b6], by rw [aG, aBL, hc], Nat.zero_le _⟩ ?_
 intro k hk
 rcases Nat.lt_or_ge k a.length with hlt | hge
 ·have ea : a[k]? = some a[k] := List.getElem?_eq_getElem hlt
  have eb : b[k]? = some b[k] := List.getElem?_eq_getElem (by omega)
  have eu := aE6 (c := pG a b) (k := k) (by omega)
  have el := aE5 (pG a b) (k := k) (by omega)
  simp -dsimp -implicitDefEqProofs only [go_sem, ↓reduceIte, Tryz.f69, aM, hlt, ea, eb, eu, el, hc]
  have h1 := ha _ (List.getElem_mem hlt)
  have h2 := hb b[k] (List.getElem_mem (by omega))
  refine ⟨by omega, k + 1, by rw [IntWalk.i64_in _ (by omega)]; rfl, ?_, by omega, by omega⟩
  have hv : (pG a b)[k]'(by omega) = (a[k] + b[k]) % 1000003 := by simp [pG]
  rw [IntWalk.i64_in _ (by omega), Int.tmod_eq_emod_of_nonneg (by omega), ← aE7 (by omega), hv, ← aAM I]
  exact aA.le_refl _
 ·have hk' : k = a.length := by omega
  subst hk'
  simp -dsimp -implicitDefEqProofs only [go_sem, ↓reduceIte, Tryz.f69, aM, Nat.lt_irrefl]
  have hu : upL (pG a b) a.length = pG a b := by rw [← hc]; exact aE4 _
  rw [hu, show a.length = (pG a b).length from hc.symm]
  exact zB hn
open Go.Proofs
set_option linter.unusedVariables false
set_option linter.unusedSimpArgs false
def cV (n : Nat) (s : List Int) : Prop := s.length = n ∧ fG s
def nI (a : List Int) (n : Int) : List Int := a.map fun x => x * n % 1000003
def aOK (a b : List Int) : List Int := pG a (nI b 1000002)
def cvS (a b : List Int) (k : Nat) : Nat → Int
 |0 => 0
 |i + 1 => (cvS a b k i + a.getD i 0 * b.getD (k - i) 0) % 1000003
def mulL (a b : List Int) : List Int := (List.range a.length).map fun k => cvS a b k (k + 1)
def pwN (b : Int) (n : Nat) : Int := b ^ n % 1000003
def oE (x : Int) : Int := pwN (x % 1000003) 1000001
def dvS (o b : List Int) (k : Nat) (r : Int) : Nat → Int
 |0 => r
 |i + 1 => (dvS o b k r i - o.getD i 0 * b.getD (k - i) 0) % 1000003
def j6 (a b : List Int) : Nat → List Int
 |0 => []
 |k + 1 => j6 a b k ++ [dvS (j6 a b k) b k (a.getD k 0) k * oE (b.getD 0 0) % 1000003]
def nJ (a b : List Int) : List Int := j6 a b a.length
def lP (n : Int) (sz : Nat) : List Int := (List.replicate sz 0).set 0 n
def dE : aB := .mk 0 0 0 0 []
def aB.mJ (e : aB) (i : Nat) : aB := e.aK.getD i dE
def aE.outs (p : aE) (f : Int) : List aB := ((p.aI[f.toNat]?).map (·.aW)).getD []
def aE.out (p : aE) (f i : Int) : aB := (p.outs f).getD i.toNat dE
abbrev Out (α : Type) := Except Int (α × Nat)
def Out.andThen {α β : Type} (x : Out α) (f : α → Nat → Out β) : Out β := match x with
 | .ok (a, t) => f a t
 | .error c => .error c
def lJ (ev : Nat → aB → Out (List Int)) : List aB → Nat → Out (List (List Int))
 | [], t => .ok ([], t)
 |e :: l, t => (ev t e).andThen fun v t => (lJ ev l t).andThen fun vs t => .ok (v :: vs, t)
def pC (f : List (List Int) → Nat → Out (List (List Int))) : Nat → List (List Int) → Nat → Out (List (List Int))
 |0, vs, t => .ok (vs, t)
 |n + 1, vs, t => (f vs t).andThen fun vs t => pC f n vs t
def opE (k : Int) (vs : List (List Int)) (t : Nat) : Out (List Int) :=
 if k = 3 then .ok (pG (vs.getD 0 []) (vs.getD 1 []), t)
 else if k = 4 then .ok (aOK (vs.getD 0 []) (vs.getD 1 []), t)
 else if k = 5 then .ok (mulL (vs.getD 0 []) (vs.getD 1 []), t)
 else if k = 7 then .ok (nI (vs.getD 0 []) 1000002, t)
 else if (vs.getD 1 []).getD 0 0 = 0 then .error 6
 else .ok (nJ (vs.getD 0 []) (vs.getD 1 []), t)
def iU (p : aE) (sz : Nat) : Nat → Nat → aB → List (List Int) → Out (List Int)
 |0, _, _, _ => .error 7
 |n + 1, t, e, env =>
  if t = 3000 then .error 7
  else if e.aO = 1 then .ok (lP e.aX sz, t + 1)
  else if e.aO = 2 then .ok (env.getD e.aX.toNat [], t + 1)
  else if e.aO = 8 then (iU p sz n (t + 1) (e.mJ 0) env).andThen fun c t => if c.getD 0 0 = 0 then iU p sz n t (e.mJ 1) env else iU p sz n t (e.mJ 2) env
  else if e.aO = 9 then (iU p sz n (t + 1) (e.mJ 0) env).andThen fun v t => iU p sz n t (e.mJ 1) (env ++ [v])
  else (lJ (fun t e => iU p sz n t e env) e.aK (t + 1)).andThen fun vs t =>
   if e.aO = 10 then iU p sz n t (p.out e.aX e.cN) vs
   else if e.aO = 11 then (pC (fun vs t => lJ (fun t e => iU p sz n t e vs) (p.outs e.aX) t) e.cA.toNat vs t).andThen fun vs t => .ok (vs.getD e.cN.toNat [], t)
   else opE e.aO vs t
def jB {α : Type} (X : Out α) (v : α) (t : Nat) (c : Int) : Prop := match X with
 | .ok (w, u) => c = 0 ∧ v = w ∧ t = u
 | .error d => c = d ∧ d ≠ 0
def oG {α : Type} (c : Int) (X : Out α) : Out α := if c = 0 then X else .error c
theorem dC {α : Type} (X : Out α) : oG 0 X = X := if_pos rfl
theorem iG {α : Type} {c : Int} (X : Out α) (h : ¬ c = 0) : oG c X = .error c := if_neg h
theorem eX {α : Type} {c : Int} (v : α) (t : Nat) (h : ¬ c = 0) : jB (.error c : Out α) v t c := ⟨rfl, h⟩
theorem kR {α : Type} (v : α) (t : Nat) : jB (.ok (v, t) : Out α) v t 0 := ⟨rfl, rfl, rfl⟩
theorem gR {α : Type} (v : α) (t : Nat) (c : Int) : jB (oG c (.ok (v, t))) v t c := by
 by_cases e : c = 0
 ·subst e; rw [dC]; exact kR v t
 ·rw [iG _ e]; exact eX v t e
theorem jB.then {α β : Type} {X : Out α} {F : α → Nat → Out β} {v : α} {t : Nat} {c : Int} {v2 : β} {t2 : Nat} {c2 : Int} (h : jB X v t c) (h2 : jB (oG c (F v t)) v2 t2 c2) : jB (X.andThen F) v2 t2 c2 := by
 cases X with
 |ok p =>
  obtain ⟨w, u⟩ := p
  obtain ⟨rfl, rfl, rfl⟩ := h
  rw [dC] at h2
  exact h2
 |error d =>
  obtain ⟨rfl, h⟩ := h
  rw [iG _ h] at h2
  exact h2
theorem jB.err {α : Type} {X : Out α} {v : α} {t : Nat} {c : Int} (h : jB X v t c) (hc : ¬ c = 0) : X = .error c := by
 cases X with
 |ok p => exact absurd h.1 hc
 |error d => rw [h.1]
theorem jB.dY {α β : Type} {c0 : Int} {X : Out α} {F : α → Nat → Out β} {v : α} {t : Nat} {c : Int} {v2 : β} {t2 : Nat} {c2 : Int} (h : jB (oG c0 X) v t c) (h2 : jB (oG c (F v t)) v2 t2 c2) : jB (oG c0 (X.andThen F)) v2 t2 c2 := by
 by_cases e : c0 = 0
 ·subst e
  rw [dC] at h ⊢
  exact h.then h2
 ·rw [iG _ e] at h ⊢
  obtain ⟨rfl, h⟩ := h
  rw [iG _ h] at h2
  exact h2
theorem jB.bEL {α : Type} {c0 : Int} {X : Out α} {v : α} {t : Nat} {c : Int} (h : jB (oG c0 X) v t c) (hc : c = 0) : c0 = 0 := by
 by_cases e : c0 = 0
 ·exact e
 ·rw [iG _ e] at h
  exact h.1.symm.trans hc
theorem Out.lF {α β γ : Type} (x : Out α) (f : α → Nat → Out β) (g : β → Nat → Out γ) : (x.andThen f).andThen g = x.andThen fun a t => (f a t).andThen g := by
 cases x <;> rfl
theorem Out.andThen_ok {α β : Type} (a : α) (t : Nat) (f : α → Nat → Out β) : Out.andThen (.ok (a, t)) f = f a t := rfl
theorem vI (ev : Nat → aB → Out (List Int)) (e : aB) : ∀ (l : List aB) (t : Nat), lJ ev (l ++ [e]) t = (lJ ev l t).andThen fun vs t => (ev t e).andThen fun v t => .ok (vs ++ [v], t)
 | [], t => rfl
 |x :: l, t => by
  simp only [List.cons_append, lJ, vI ev e l, Out.lF, Out.andThen_ok]
theorem wK (f : List (List Int) → Nat → Out (List (List Int))) : ∀ (n : Nat) (vs : List (List Int)) (t : Nat), pC f (n + 1) vs t = (pC f n vs t).andThen f
 |0, vs, t => by
  show (f vs t).andThen (fun vs t => .ok (vs, t)) = f vs t
  cases f vs t with
  |ok p => rfl
  |error c => rfl
 |n + 1, vs, t => by
  show (f vs t).andThen (fun vs t => pC f (n + 1) vs t) = ((f vs t).andThen fun vs t => pC f n vs t).andThen f
  rw [Out.lF]
  congr 1
  funext a t
  exact wK f n a t
theorem aJE {f : List (List Int) → Nat → Out (List (List Int))} {vs : List (List Int)} {t : Nat} {c : Int} : ∀ (n k : Nat), k ≤ n → pC f k vs t = .error c → pC f n vs t = .error c
 |0, k, hk, h => by
  have : k = 0 := by omega
  subst this; exact h
 |n + 1, k, hk, h => by
  rcases Nat.lt_or_ge k (n + 1) with hlt | hge
  ·rw [wK, aJE n k (by omega) h]; rfl
  ·have : k = n + 1 := by omega
   subst this; exact h
theorem pO (n : Int) : kI (n % 1000003) := by unfold kI; omega
theorem cV.len {n : Nat} {s : List Int} (h : cV n s) : s.length = n := h.1
theorem vJ {n : Nat} {a b : List Int} (ha : cV n a) (hb : cV n b) : cV n (pG a b) := by
 refine ⟨by simp [pG, ha.1, hb.1], fun x hx => ?_⟩
 obtain ⟨i, hi, rfl⟩ := List.mem_iff_getElem.1 hx
 simp only [pG, List.getElem_zipWith]
 exact pO _
theorem mP {n : Nat} {a : List Int} (k : Int) (ha : cV n a) : cV n (nI a k) := by
 refine ⟨by simp [nI, ha.1], fun x hx => ?_⟩
 obtain ⟨y, _, rfl⟩ := List.mem_map.1 hx
 exact pO _
theorem zC {n : Nat} {a b : List Int} (ha : cV n a) (hb : cV n b) : cV n (aOK a b) := vJ ha (mP _ hb)
theorem aW8 (a b : List Int) (k : Nat) : ∀ i, kI (cvS a b k i)
 |0 => by unfold cvS kI; omega
 |i + 1 => pO _
theorem zD {n : Nat} {a : List Int} (b : List Int) (ha : cV n a) : cV n (mulL a b) := by
 refine ⟨by simp [mulL, ha.1], fun x hx => ?_⟩
 obtain ⟨k, _, rfl⟩ := List.mem_map.1 hx
 exact aW8 _ _ _ _
theorem oO (a b : List Int) : ∀ k, (j6 a b k).length = k
 |0 => rfl
 |k + 1 => by rw [j6, List.length_append, oO a b k]; rfl
theorem tB (a b : List Int) : ∀ k, fG (j6 a b k)
 |0 => fun x hx => by cases hx
 |k + 1 => fun x hx => by
  rw [j6, List.mem_append, List.mem_singleton] at hx
  rcases hx with hx | rfl
  ·exact tB a b k x hx
  ·exact pO _
theorem zE {n : Nat} {a : List Int} (b : List Int) (ha : cV n a) : cV n (nJ a b) := ⟨by rw [nJ, oO, ha.1], tB _ _ _⟩
theorem e7 {n : Int} {sz : Nat} (h : kI n) : cV sz (lP n sz) := by
 refine ⟨by simp [lP], fun x hx => ?_⟩
 rw [lP] at hx
 rcases List.mem_or_eq_of_mem_set hx with hx | rfl
 ·have := (List.mem_replicate.1 hx).2
  subst this; unfold kI; omega
 ·exact h
theorem fG.get {l : List Int} (h : fG l) (i : Nat) : kI (l.getD i 0) := by
 rw [List.getD_eq_getElem?_getD]
 rcases Nat.lt_or_ge i l.length with hi | hi
 ·rw [List.getElem?_eq_getElem hi]; exact h _ (List.getElem_mem hi)
 ·rw [List.getElem?_eq_none hi]; unfold kI; simp
def hR (s s' : List Int) : Prop := (s = [] ∧ s' = []) ∨ ∃ x a b, s = x :: a ∧ s' = x :: b
theorem a76 : hR [] [] := .inl ⟨rfl, rfl⟩
theorem hR.hd {s s' : List Int} (h : hR s s') : s.getD 0 0 = s'.getD 0 0 := by
 rcases h with ⟨rfl, rfl⟩ | ⟨x, a, b, rfl, rfl⟩ <;> rfl
theorem aW9 {a a' b b' : List Int} (ha : hR a a') (hb : hR b b') : hR (pG a b) (pG a' b') := by
 rcases ha with ⟨rfl, rfl⟩ | ⟨x, a, a', rfl, rfl⟩
 ·exact .inl ⟨rfl, rfl⟩
 ·rcases hb with ⟨rfl, rfl⟩ | ⟨y, b, b', rfl, rfl⟩
  ·exact .inl ⟨rfl, rfl⟩
  ·exact .inr ⟨_, _, _, rfl, rfl⟩
theorem aXA {a a' : List Int} (n : Int) (ha : hR a a') : hR (nI a n) (nI a' n) := by
 rcases ha with ⟨rfl, rfl⟩ | ⟨x, a, a', rfl, rfl⟩
 ·exact .inl ⟨rfl, rfl⟩
 ·exact .inr ⟨_, _, _, rfl, rfl⟩
theorem a77 {a a' b b' : List Int} (ha : hR a a') (hb : hR b b') : hR (aOK a b) (aOK a' b') := aW9 ha (aXA _ hb)
theorem aDG (x : Int) (a b : List Int) : ∃ t, mulL (x :: a) b = (x * b.getD 0 0) % 1000003 :: t := by
 refine ⟨((List.range a.length).map Nat.succ).map fun k => cvS (x :: a) b k (k + 1), ?_⟩
 rw [mulL, List.length_cons, List.range_succ_eq_map, List.map_cons]
 congr 1
 simp [cvS]
theorem a78 {a a' b b' : List Int} (ha : hR a a') (hb : hR b b') : hR (mulL a b) (mulL a' b') := by
 rcases ha with ⟨rfl, rfl⟩ | ⟨x, a, a', rfl, rfl⟩
 ·exact .inl ⟨rfl, rfl⟩
 ·obtain ⟨t, h⟩ := aDG x a b
  obtain ⟨t', h'⟩ := aDG x a' b'
  rw [h, h', hb.hd]
  exact .inr ⟨_, _, _, rfl, rfl⟩
theorem zF (x : Int) (a b : List Int) : ∀ k, ∃ t, j6 (x :: a) b (k + 1) = x * oE (b.getD 0 0) % 1000003 :: t
 |0 => ⟨[], rfl⟩
 |k + 1 => by
  obtain ⟨t, h⟩ := zF x a b k
  rw [j6, h]
  exact ⟨_, rfl⟩
theorem a79 {a a' b b' : List Int} (ha : hR a a') (hb : hR b b') : hR (nJ a b) (nJ a' b') := by
 rcases ha with ⟨rfl, rfl⟩ | ⟨x, a, a', rfl, rfl⟩
 ·exact .inl ⟨rfl, rfl⟩
 ·obtain ⟨t, h⟩ := zF x a b a.length
  obtain ⟨t', h'⟩ := zF x a' b' a'.length
  rw [nJ, nJ, List.length_cons, List.length_cons, h, h', hb.hd]
  exact .inr ⟨_, _, _, rfl, rfl⟩
theorem aXB (n : Int) (sz sz' : Nat) : hR (lP n (sz + 1)) (lP n (sz' + 1)) := by
 rw [lP, lP, List.replicate_succ, List.replicate_succ]
 exact .inr ⟨_, _, _, rfl, rfl⟩
def eR : List (List Int) → List (List Int) → Prop
 | [], [] => True
 |s :: l, s' :: l' => hR s s' ∧ eR l l'
 | _, _ => False
theorem eR.get : ∀ {l l' : List (List Int)}, eR l l' → ∀ i, hR (l.getD i []) (l'.getD i [])
 | [], [], _, i => by simp [a76]
 |s :: l, s' :: l', h, 0 => h.1
 |s :: l, s' :: l', h, i + 1 => by simpa using eR.get h.2 i
 | [], _ :: _, h, _ => h.elim
 | _ :: _, [], h, _ => h.elim
theorem eR.len : ∀ {l l' : List (List Int)}, eR l l' → l.length = l'.length
 | [], [], _ => rfl
 |s :: l, s' :: l', h => by simp [eR.len h.2]
 | [], _ :: _, h => h.elim
 | _ :: _, [], h => h.elim
theorem eR.snoc {s s' : List Int} (h : hR s s') : ∀ {l l' : List (List Int)}, eR l l' → eR (l ++ [s]) (l' ++ [s'])
 | [], [], _ => ⟨h, trivial⟩
 |x :: l, x' :: l', k => ⟨k.1, eR.snoc h k.2⟩
 | [], _ :: _, k => k.elim
 | _ :: _, [], k => k.elim
def oR {α : Type} (R : α → α → Prop) (X Y : Out α) : Prop := match X, Y with
 | .ok (v, t), .ok (v', t') => R v v' ∧ t = t'
 | .error c, .error c' => c = c'
 | _, _ => False
theorem oR.bind {α β : Type} {R : α → α → Prop} {S : β → β → Prop} {X Y : Out α} {F G : α → Nat → Out β} (h : oR R X Y) (hf : ∀ v v' t, R v v' → oR S (F v t) (G v' t)) : oR S (X.andThen F) (Y.andThen G) := by
 cases X with
 |ok p =>
  cases Y with
  |ok q =>
   obtain ⟨v, t⟩ := p
   obtain ⟨v', t'⟩ := q
   obtain ⟨h1, rfl⟩ := h
   exact hf _ _ _ h1
  |error c => exact h.elim
 |error c =>
  cases Y with
  |ok q => exact h.elim
  |error d => exact h
theorem oR.pure {α : Type} {R : α → α → Prop} {v v' : α} {t : Nat} (h : R v v') : oR R (.ok (v, t)) (.ok (v', t)) := ⟨h, rfl⟩
theorem zG {ev ev' : Nat → aB → Out (List Int)} (h : ∀ t e, oR hR (ev t e) (ev' t e)) : ∀ (l : List aB) (t : Nat), oR eR (lJ ev l t) (lJ ev' l t)
 | [], t => ⟨trivial, rfl⟩
 |e :: l, t => (h t e).bind fun v v' t hv => (zG h l t).bind fun vs vs' t hvs => oR.pure ⟨hv, hvs⟩
theorem aG5 {f g : List (List Int) → Nat → Out (List (List Int))} (h : ∀ vs vs' t, eR vs vs' → oR eR (f vs t) (g vs' t)) : ∀ (n : Nat) (vs vs' : List (List Int)) (t : Nat), eR vs vs' → oR eR (pC f n vs t) (pC g n vs' t)
 |0, vs, vs', t, hv => ⟨hv, rfl⟩
 |n + 1, vs, vs', t, hv => (h vs vs' t hv).bind fun a a' t ha => aG5 h n a a' t ha
theorem aXC (k : Int) {vs vs' : List (List Int)} (t : Nat) (h : eR vs vs') : oR hR (opE k vs t) (opE k vs' t) := by
 have h0 := h.get 0
 have h1 := h.get 1
 unfold opE
 split
 ·exact oR.pure (aW9 h0 h1)
 split
 ·exact oR.pure (a77 h0 h1)
 split
 ·exact oR.pure (a78 h0 h1)
 split
 ·exact oR.pure (aXA _ h0)
 rw [h1.hd]
 split
 ·exact rfl
 ·exact oR.pure (a79 h0 h1)
theorem aOL (p : aE) (sz sz' : Nat) : ∀ (n t : Nat) (e : aB) (env env' : List (List Int)), eR env env' → oR hR (iU p (sz + 1) n t e env) (iU p (sz' + 1) n t e env')
 |0, t, e, env, env', h => rfl
 |n + 1, t, e, env, env', h => by
  have ih := aOL p sz sz' n
  rw [iU, iU]
  split
  ·exact rfl
  split
  ·exact oR.pure (aXB _ _ _)
  split
  ·exact oR.pure (h.get _)
  split
  ·refine (ih _ _ _ _ h).bind fun c c' t hc => ?_
   rw [hc.hd]
   split
   ·exact ih _ _ _ _ h
   ·exact ih _ _ _ _ h
  split
  ·exact (ih _ _ _ _ h).bind fun v v' t hv => ih _ _ _ _ (eR.snoc hv h)
  refine (zG (fun t e => ih t e _ _ h) _ _).bind fun vs vs' t hv => ?_
  split
  ·exact ih _ _ _ _ hv
  split
  ·refine (aG5 (f := fun vs t => lJ (fun t e => iU p (sz + 1) n t e vs) (p.outs e.aX) t) (g := fun vs t => lJ (fun t e => iU p (sz' + 1) n t e vs) (p.outs e.aX) t) (fun a a' u ha => zG (fun u x => ih u x a a' ha) (p.outs e.aX) u) e.cA.toNat vs vs' t hv).bind fun a a' u ha => ?_
   exact oR.pure (ha.get _)
  ·exact aXC _ _ hv
def xW (p : aE) (sz : Nat) (f : Int) (args : List (List Int)) : Out (List (List Int)) := lJ (fun t e => iU p sz 3001 t e args) (p.outs f) 0
theorem aXD (p : aE) (sz sz' : Nat) (f : Int) (args args' : List (List Int)) (h : eR args args') : oR eR (xW p (sz + 1) f args) (xW p (sz' + 1) f args') :=
 zG (fun t e => aOL p sz sz' _ t e _ _ h) _ _
theorem aXE (b : Int) : ∀ n : Nat, (b % 1000003) ^ n % 1000003 = b ^ n % 1000003
 |0 => by rw [Int.pow_zero, Int.pow_zero]
 |n + 1 => by
  rw [Int.pow_succ, Int.pow_succ, Int.mul_emod, aXE b n, Int.emod_emod_of_dvd _ (Int.dvd_refl _), ← Int.mul_emod]
theorem aSE (x b : Int) (n : Nat) : x * b ^ n % 1000003 = (if n % 2 = 1 then x * b % 1000003 else x) * (b * b % 1000003) ^ (n / 2) % 1000003 := by
 have h2 : b ^ n = (b * b) ^ (n / 2) * b ^ (n % 2) := by
  rw [show b * b = b ^ 2 by rw [Int.pow_succ, Int.pow_succ, Int.pow_zero, Int.one_mul], ← Int.pow_mul, ← Int.pow_add]
  congr 1; omega
 have h3 : ∀ y : Int, y * (b * b % 1000003) ^ (n / 2) % 1000003 = y * (b * b) ^ (n / 2) % 1000003 := fun y => by
  rw [Int.mul_emod, aXE, ← Int.mul_emod]
 rw [h3, h2]
 split
 ·rename_i h
  rw [h, Int.pow_succ, Int.pow_zero, Int.one_mul, Int.mul_emod (x * b % 1000003), Int.emod_emod_of_dvd _ (Int.dvd_refl _), ← Int.mul_emod]
  congr 1
  rw [Int.mul_comm ((b * b) ^ (n / 2)) b, Int.mul_assoc]
 ·rename_i h
  have : n % 2 = 0 := by omega
  rw [this, Int.pow_zero, Int.mul_one]
theorem aSF (x b : Int) (hx : 0 ≤ x ∧ x < 1000003) : x * b ^ 0 % 1000003 = x := by
 rw [Int.pow_zero, Int.mul_one]; omega
theorem aXF {x b m T : Int} (hm : 0 ≤ m) (h : m % 2 = 1) (hp : x * b ^ m.toNat % 1000003 = T) : (x * b % 1000003) * (b * b % 1000003) ^ (m / 2).toNat % 1000003 = T := by
 rw [← hp, aSE x b m.toNat, if_pos (by omega), show (m / 2).toNat = m.toNat / 2 by omega]
theorem aSG {x b m T : Int} (hm : 0 ≤ m) (h : ¬ m % 2 = 1) (hp : x * b ^ m.toNat % 1000003 = T) : x * (b * b % 1000003) ^ (m / 2).toNat % 1000003 = T := by
 rw [← hp, aSE x b m.toNat, if_neg (by omega), show (m / 2).toNat = m.toNat / 2 by omega]
theorem aOM (y : Int) : 0 ≤ y % 1000003 ∧ y % 1000003 < 1000003 := by omega
theorem cX {l : List Int} {i : Nat} (h : i < l.length) : l[i]? = some (l.getD i 0) := by
 rw [List.getD_eq_getElem?_getD, List.getElem?_eq_getElem h]; rfl
theorem num_inv (x : Int) : kI (oE x) := pO _
theorem wL (o b : List Int) (k : Nat) {r : Int} (hr : kI r) : ∀ i, kI (dvS o b k r i)
 |0 => hr
 |i + 1 => pO _
theorem aDH (a b : List Int) {k : Nat} : ∀ n, k ≤ n → (j6 a b n).take k = j6 a b k
 |0, h => by
  have : k = 0 := by omega
  subst this; rfl
 |n + 1, h => by
  rcases Nat.lt_or_ge k (n + 1) with h1 | h1
  ·rw [j6, List.take_append_of_le_length (by rw [oO]; omega), aDH a b n (by omega)]
  ·have : k = n + 1 := by omega
   subst this
   rw [List.take_of_length_le (by rw [oO]; omega)]
theorem vK (a b : List Int) : (nJ a b).length = a.length := oO _ _ _
theorem a03 (a b : List Int) {k : Nat} (hk : k ≤ a.length) : upL (nJ a b) k = j6 a b k ++ List.replicate (a.length - k) 0 := by
 rw [upL, vK, nJ, aDH a b _ hk]
theorem aEO {a b : List Int} {k i : Nat} (hk : k ≤ a.length) (hi : i < k) : (upL (nJ a b) k)[i]? = some ((j6 a b k).getD i 0) := by
 rw [a03 a b hk, List.getElem?_append_left (by rw [oO]; exact hi)]
 exact cX (by rw [oO]; exact hi)
theorem aON {a b : List Int} {k : Nat} (hk : k < a.length) : (nJ a b)[k]'(by rw [vK]; exact hk) = dvS (j6 a b k) b k (a.getD k 0) k * oE (b.getD 0 0) % 1000003 := by
 have h := aEO (a := a) (b := b) (k := k + 1) (i := k) (by omega) (by omega)
 have h2 : (j6 a b (k + 1)).getD k 0 = dvS (j6 a b k) b k (a.getD k 0) k * oE (b.getD 0 0) % 1000003 := by
  rw [j6, List.getD_eq_getElem?_getD, List.getElem?_append_right (by rw [oO]; omega), oO, Nat.sub_self]; rfl
 rw [h2, upL, List.getElem?_append_left (by rw [List.length_take, vK]; omega), List.getElem?_take_of_lt (by omega), List.getElem?_eq_getElem (by rw [vK]; exact hk)] at h
 exact Option.some.inj h
theorem num_mul {x y : Int} (hx : kI x) (hy : kI y) : 0 ≤ x * y ∧ x * y ≤ 1000004000004 := by
 refine ⟨Int.mul_nonneg hx.1 hy.1, ?_⟩
 have := Int.mul_le_mul hx.2 hy.2 hy.1 (by omega)
 omega
theorem tC (a : List Int) (n : Int) : (nI a n).length = a.length := by simp [nI]
theorem aOO (a b : List Int) : (mulL a b).length = a.length := by simp [mulL]
theorem aFB {l : List Int} (h : fG l) : ∀ x ∈ l, 0 ≤ x ∧ x < 1000003 := fun x hx => by have := h x hx; unfold kI at this; omega
theorem aQK {n : Int} (h0 : 0 ≤ n) (h1 : n ≤ 9223372036854775807) : (IntKind.i64.wrap n).tmod 1000003 = n % 1000003 := by
 rw [IntWalk.i64_in _ (by omega), Int.tmod_eq_emod_of_nonneg h0]
theorem aXG {c : List Int} {k : Nat} (hk : k < c.length) : (upL c k).set k 0 = upL c k := by
 have h := aE6 hk
 apply List.ext_getElem?
 intro i
 rw [List.getElem?_set]
 split
 ·subst_vars
  split
  ·exact h.symm
  ·rename_i h2
   rw [List.getElem?_eq_none (by omega)]
 ·rfl
theorem aOP {p : aE} {sz n st : Nat} {e : aB} {env : List (List Int)} (h3 : ¬ st = 3000) (hk : e.aO = 1) : iU p sz (n + 1) st e env = .ok (lP e.aX sz, st + 1) := by rw [iU, if_neg h3, if_pos hk]
theorem aOQ {p : aE} {sz n st : Nat} {e : aB} {env : List (List Int)} (h3 : ¬ st = 3000) (hk : e.aO = 2) : iU p sz (n + 1) st e env = .ok (env.getD e.aX.toNat [], st + 1) := by rw [iU, if_neg h3, if_neg (by omega), if_pos hk]
theorem aG6 {p : aE} {sz n st : Nat} {e : aB} {env : List (List Int)} (h3 : ¬ st = 3000) (hk : e.aO = 8) : iU p sz (n + 1) st e env = (iU p sz n (st + 1) (e.mJ 0) env).andThen fun c t => if c.getD 0 0 = 0 then iU p sz n t (e.mJ 1) env else iU p sz n t (e.mJ 2) env := by rw [iU, if_neg h3, if_neg (by omega), if_neg (by omega), if_pos hk]
theorem aOR {p : aE} {sz n st : Nat} {e : aB} {env : List (List Int)} (h3 : ¬ st = 3000) (hk : e.aO = 9) : iU p sz (n + 1) st e env = (iU p sz n (st + 1) (e.mJ 0) env).andThen fun v t => iU p sz n t (e.mJ 1) (env ++ [v]) := by rw [iU, if_neg h3, if_neg (by omega), if_neg (by omega), if_neg (by omega), if_pos hk]
theorem aDI {p : aE} {sz n st : Nat} {e : aB} {env : List (List Int)} (h3 : ¬ st = 3000) (hk : e.aO = 10) : iU p sz (n + 1) st e env = (lJ (fun t e => iU p sz n t e env) e.aK (st + 1)).andThen fun vs t => iU p sz n t (p.out e.aX e.cN) vs := by
 rw [iU, if_neg h3, if_neg (by omega), if_neg (by omega), if_neg (by omega), if_neg (by omega)]; simp only [if_pos hk]
theorem aDJ {p : aE} {sz n st : Nat} {e : aB} {env : List (List Int)} (h3 : ¬ st = 3000) (hk : e.aO = 11) : iU p sz (n + 1) st e env = (lJ (fun t e => iU p sz n t e env) e.aK (st + 1)).andThen fun vs t => (pC (fun vs t => lJ (fun t e => iU p sz n t e vs) (p.outs e.aX) t) e.cA.toNat vs t).andThen fun vs t => .ok (vs.getD e.cN.toNat [], t) := by
 have h : ¬ e.aO = 10 := by omega
 rw [iU, if_neg h3, if_neg (by omega), if_neg (by omega), if_neg (by omega), if_neg (by omega)]; simp only [if_neg h, if_pos hk]
theorem oH {p : aE} {sz n st : Nat} {e : aB} {env : List (List Int)} (h3 : ¬ st = 3000) (hk : e.aO = 3 ∨ e.aO = 4 ∨ e.aO = 5 ∨ e.aO = 6 ∨ e.aO = 7) : iU p sz (n + 1) st e env = (lJ (fun t e => iU p sz n t e env) e.aK (st + 1)).andThen fun vs t => opE e.aO vs t := by
 have h : ¬ e.aO = 10 := by omega
 have h2 : ¬ e.aO = 11 := by omega
 rw [iU, if_neg h3, if_neg (by omega), if_neg (by omega), if_neg (by omega), if_neg (by omega)]; simp only [if_neg h, if_neg h2]
theorem aB.gE {e : aB} {i : Nat} (h : i < e.aK.length) : e.aK[i]? = some (e.mJ i) := by
 rw [aB.mJ, List.getD_eq_getElem?_getD, List.getElem?_eq_getElem h]; rfl
theorem aB.tD {e : aB} {i : Nat} (h : i < e.aK.length) : e.mJ i = e.aK[i] := by
 have := aB.gE h
 rw [List.getElem?_eq_getElem h] at this
 exact (Option.some.inj this).symm
theorem aB.eP {p : aE} {funcs vars : Int} {e : aB} {i : Nat} (hok : e.ok p funcs vars) (h : i < e.aK.length) : (e.mJ i).ok p funcs (iL e.aO i vars) := by
 rw [aB.tD h]; exact ((aB.cR _ _ _ _).1 hok).2 i h
theorem aB.ld5 (x : aB) : (if 5 ≤ x.c.length then some (aD.agg (List.take 5 x.c)) else none) = some (.agg x.c) := by
 rw [if_pos (by rw [aB.aJA]; exact Nat.le_refl _), List.take_of_length_le (by rw [aB.aJA]; exact Nat.le_refl _)]
theorem gT {k : Int} {i : Nat} {v : Int} (h : ¬ (k = 9 ∧ i = 1)) : iL k i v = v := if_neg h
theorem iS {sz : Nat} {env : List (List Int)} (h : ∀ s ∈ env, cV sz s) {i : Nat} (hi : i < env.length) : cV sz (env.getD i []) := by
 rw [List.getD_eq_getElem?_getD, List.getElem?_eq_getElem hi]; exact h _ (List.getElem_mem hi)
theorem kS {env : List (List Int)} {i : Nat} (hi : i < env.length) : env[i]? = some (env.getD i []) := by
 rw [List.getD_eq_getElem?_getD, List.getElem?_eq_getElem hi]; rfl
theorem dB {p : aE} {funcs vars : Int} {e : aB} (hok : e.ok p funcs vars) (hk : ¬ (e.aO = 10 ∨ e.aO = 11)) : dN e.aO = e.aK.length := ((dQ hk).1 ((aB.cR _ _ _ _).1 hok).1).1
theorem dZ {p : aE} {funcs vars : Int} {e : aB} (hok : e.ok p funcs vars) (hk : ¬ e.aO = 9) : ∀ x ∈ e.aK, x.ok p funcs vars := fun x hx => by
 obtain ⟨i, hi, rfl⟩ := List.mem_iff_getElem.1 hx
 have := ((aB.cR _ _ _ _).1 hok).2 i hi
 rwa [gT (fun q => hk q.1)] at this
structure bEM (p : aE) (e : aB) (f : aS) : Prop where
 get : p.aI[e.aX.toNat]? = some f
 lo : 0 ≤ e.aX
 hi : e.aX < p.aI.length
 pk : 0 ≤ e.cN
 pk2 : e.cN.toNat < f.aW.length
 kids : (e.aK.length : Int) = f.aZ
 params : 0 ≤ f.aZ ∧ f.aZ ≤ 12
 outs : 1 ≤ f.aW.length ∧ f.aW.length ≤ 12
 oks : ∀ x ∈ f.aW, x.ok p e.aX f.aZ
 eq : p.outs e.aX = f.aW
 out : f.aW[e.cN.toNat]? = some (p.out e.aX e.cN)
 loop : e.aO = 11 → 0 ≤ e.cA ∧ e.cA ≤ 8 ∧ (f.aW.length : Int) = f.aZ
theorem l4 {p : aE} (hp : p.ok) {e : aB} {funcs vars : Int} (hok : e.ok p funcs vars) (hf : funcs ≤ p.aI.length) (hk : e.aO = 10 ∨ e.aO = 11) : ∃ f, bEM p e f := by
 have h1 := ((aB.cR _ _ _ _).1 hok).1
 have h2 := h1
 unfold l3 at h1
 rw [if_pos hk] at h1
 have hlt : e.aX.toNat < p.aI.length := by omega
 have ef : p.aI[e.aX.toNat]? = some p.aI[e.aX.toNat] := List.getElem?_eq_getElem hlt
 rw [qZ hk ef] at h2
 obtain ⟨n1, n2, n3, n4, n5, n6, n7⟩ := h2
 have hF := hp.2 _ _ ef
 have heq : p.outs e.aX = p.aI[e.aX.toNat].aW := by rw [aE.outs, ef]; rfl
 refine ⟨_, ⟨ef, n1, by omega, n3, by omega, n5, hF.2.1, by have := hF.2.2.1; omega, fun x hx => ?_, heq, ?_, n7⟩⟩
 ·have := (hF.2.2.2.2.2 x hx).2.2.2.2
  rwa [show ((e.aX.toNat : Nat) : Int) = e.aX by omega] at this
 ·rw [aE.out, heq, List.getD_eq_getElem?_getD, List.getElem?_eq_getElem (by omega)]; rfl
def aDK {α : Type} (X : Out α) : Prop := ∀ c, X = .error c → c = 6 ∨ c = 7
theorem aDK.ok {α : Type} {v : α} {t : Nat} : aDK (.ok (v, t) : Out α) := fun c h => by cases h
theorem aDK.then {α β : Type} {X : Out α} {F : α → Nat → Out β} (h : aDK X) (hf : ∀ v t, aDK (F v t)) : aDK (X.andThen F) := fun c hc => by
 cases X with
 |ok p => exact hf p.1 p.2 c hc
 |error d => exact h c (by cases hc; rfl)
theorem aBR {ev : Nat → aB → Out (List Int)} (h : ∀ t e, aDK (ev t e)) : ∀ (l : List aB) (t : Nat), aDK (lJ ev l t)
 | [], t => .ok
 |e :: l, t => (h t e).then fun v t => (aBR h l t).then fun vs t => .ok
theorem aG7 {f : List (List Int) → Nat → Out (List (List Int))} (h : ∀ vs t, aDK (f vs t)) : ∀ (n : Nat) (vs : List (List Int)) (t : Nat), aDK (pC f n vs t)
 |0, vs, t => .ok
 |n + 1, vs, t => (h vs t).then fun a t => aG7 h n a t
theorem a05 (k : Int) (vs : List (List Int)) (t : Nat) : aDK (opE k vs t) := by
 unfold opE
 repeat' split
 all_goals first | exact .ok | (intro c h; cases h; exact .inl rfl)
theorem aSH (p : aE) (sz : Nat) : ∀ (n t : Nat) (e : aB) (env : List (List Int)), aDK (iU p sz n t e env)
 |0, t, e, env => fun c h => by rw [iU] at h; cases h; exact .inr rfl
 |n + 1, t, e, env => by
  have ih := aSH p sz n
  rw [iU]
  split
  ·intro c h; cases h; exact .inr rfl
  split
  ·exact .ok
  split
  ·exact .ok
  split
  ·refine (ih _ _ _).then fun v t => ?_
   split
   ·exact ih _ _ _
   ·exact ih _ _ _
  split
  ·exact (ih _ _ _).then fun v t => ih _ _ _
  refine (aBR (fun t e => ih t e env) _ _).then fun vs t => ?_
  split
  ·exact ih _ _ _
  split
  ·exact (aG7 (fun vs t => aBR (fun t e => ih t e vs) _ t) _ _ _).then fun vs t => .ok
  ·exact a05 _ _ _
theorem aBS (p : aE) (sz : Nat) (f : Int) (args : List (List Int)) : aDK (xW p sz f args) := aBR (fun t e => aSH p sz 3001 t e args) _ _
def okP {α : Type} (P : α → Prop) (X : Out α) : Prop := ∀ v u, X = .ok (v, u) → P v
theorem okP.then {α β : Type} {P : α → Prop} {Q : β → Prop} {X : Out α} {F : α → Nat → Out β} (h : okP P X) (hf : ∀ v t, P v → okP Q (F v t)) : okP Q (X.andThen F) := fun w u hw => by
 cases X with
 |ok p => obtain ⟨v, t⟩ := p; exact hf v t (h v t rfl) w u hw
 |error c => cases hw
theorem okP.pure {α : Type} {P : α → Prop} {v : α} {t : Nat} (h : P v) : okP P (.ok (v, t)) := fun w u e => by cases e; exact h
theorem okP.err {α : Type} {P : α → Prop} {c : Int} : okP P (.error c : Out α) := fun w u e => by cases e
def aUJ (sz n : Nat) (l : List (List Int)) : Prop := l.length = n ∧ ∀ s ∈ l, cV sz s
theorem vL {ev : Nat → aB → Out (List Int)} {sz : Nat} : ∀ (l : List aB) (t : Nat), (∀ e ∈ l, ∀ t, okP (cV sz) (ev t e)) → okP (aUJ sz l.length) (lJ ev l t)
 | [], t, _ => okP.pure ⟨rfl, by simp⟩
 |e :: l, t, h => (h e List.mem_cons_self t).then fun v t hv => (vL l t fun x hx => h x (List.mem_cons_of_mem _ hx)).then fun vs t hvs => okP.pure ⟨by rw [List.length_cons, hvs.1]; rfl, fun s hs => by
   rcases List.mem_cons.1 hs with rfl | hs
   ·exact hv
   ·exact hvs.2 s hs⟩
theorem aJF {f : List (List Int) → Nat → Out (List (List Int))} {P : List (List Int) → Prop} (h : ∀ vs t, P vs → okP P (f vs t)) : ∀ (n : Nat) (vs : List (List Int)) (t : Nat), P vs → okP P (pC f n vs t)
 |0, vs, t, hv => okP.pure hv
 |n + 1, vs, t, hv => (h vs t hv).then fun a t ha => aJF h n a t ha
theorem aUJ.get {sz n i : Nat} {l : List (List Int)} (h : aUJ sz n l) (hi : i < n) : cV sz (l.getD i []) := by
 rw [List.getD_eq_getElem?_getD, List.getElem?_eq_getElem (by rw [h.1]; exact hi)]; exact h.2 _ (List.getElem_mem _)
theorem pD {p : aE} {e : aB} {vars funcs : Int} (h : l3 p e vars funcs) : e.aO = 1 ∨ e.aO = 2 ∨ e.aO = 3 ∨ e.aO = 4 ∨ e.aO = 5 ∨ e.aO = 6 ∨ e.aO = 7 ∨ e.aO = 8 ∨ e.aO = 9 ∨ e.aO = 10 ∨ e.aO = 11 := by
 by_cases hk : e.aO = 10 ∨ e.aO = 11
 ·omega
 ·have h1 := ((dQ hk).1 h).1
  unfold dN at h1
  repeat' (split at h1)
  all_goals omega
theorem aSI {p : aE} (hp : p.ok) {sz : Nat} (hsz : 1 ≤ sz) : ∀ (n t : Nat) (e : aB) (env : List (List Int)) (funcs : Int), e.ok p funcs env.length → funcs ≤ p.aI.length → (∀ s ∈ env, cV sz s) → okP (cV sz) (iU p sz n t e env)
 |0, t, e, env, funcs, _, _, _ => okP.err
 |n + 1, t, e, env, funcs, hok, hf, henv => by
  have ih := aSI hp hsz n
  have hnode := ((aB.cR _ _ _ _).1 hok).1
  by_cases h3 : t = 3000
  ·rw [iU, if_pos h3]; exact okP.err
  rcases pD hnode with hk | hk | hk | hk | hk | hk | hk | hk | hk | hk | hk
  ·rw [aOP h3 hk]; exact okP.pure (e7 (((dQ (by omega)).1 hnode).2.2.2.1 hk))
  ·rw [aOQ h3 hk]
   have := ((dQ (by omega)).1 hnode).2.2.2.2.1 hk
   exact okP.pure (iS henv (by omega))
  iterate 5
   ·have hlen := dB hok (by omega)
    rw [hk] at hlen
    rw [oH h3 (by omega)]
    refine (vL _ _ fun x hx t => ih t x env funcs (dZ hok (by omega) x hx) hf henv).then fun vs t hv => ?_
    have h0 := hv.get (i := 0) (by unfold dN at hlen; simp at hlen; omega)
    rw [hk]
    unfold opE
    first
    |exact okP.pure (mP _ h0)
    |(have h1 := hv.get (i := 1) (by unfold dN at hlen; simp at hlen; omega); first | exact okP.pure (vJ h0 h1) | exact okP.pure (zC h0 h1) | exact okP.pure (zD _ h0) | (simp only [if_neg (show ¬ (6 : Int) = 3 by decide), if_neg (show ¬ (6 : Int) = 4 by decide), if_neg (show ¬ (6 : Int) = 5 by decide), if_neg (show ¬ (6 : Int) = 7 by decide)]; split; exact okP.err; exact okP.pure (zE _ h0)))
  ·have hlen := dB hok (by omega)
   rw [hk, show dN 8 = 3 from rfl] at hlen
   have o0 := aB.eP hok (i := 0) (by omega)
   have o1 := aB.eP hok (i := 1) (by omega)
   have o2 := aB.eP hok (i := 2) (by omega)
   rw [gT (by omega)] at o0 o1 o2
   rw [aG6 h3 hk]
   refine (ih _ _ _ _ o0 hf henv).then fun c t hc => ?_
   split
   ·exact ih _ _ _ _ o1 hf henv
   ·exact ih _ _ _ _ o2 hf henv
  ·have hlen := dB hok (by omega)
   rw [hk, show dN 9 = 2 from rfl] at hlen
   have o0 := aB.eP hok (i := 0) (by omega)
   have o1 := aB.eP hok (i := 1) (by omega)
   rw [gT (by omega)] at o0
   rw [hk, show iL 9 1 (env.length : Int) = env.length + 1 from rfl] at o1
   rw [aOR h3 hk]
   refine (ih _ _ _ _ o0 hf henv).then fun v t hv => ih _ _ _ _ (by rw [List.length_append]; exact o1) hf fun s hs => ?_
   rcases List.mem_append.1 hs with hs | hs
   ·exact henv s hs
   ·rw [List.mem_singleton.1 hs]; exact hv
  ·obtain ⟨f, F⟩ := l4 hp hok hf (.inl hk)
   have f2 := F.hi
   have f4 := F.pk2
   rw [aDI h3 hk]
   refine (vL _ _ fun x hx t => ih t x env funcs (dZ hok (by omega) x hx) hf henv).then fun vs t hv => ?_
   exact ih _ _ _ e.aX (by rw [hv.1, F.kids]; exact F.oks _ (List.mem_of_getElem? F.out)) (by omega) hv.2
  ·obtain ⟨f, F⟩ := l4 hp hok hf (.inr hk)
   have f2 := F.hi
   have f4 := F.pk2
   have f9 := F.loop hk
   rw [aDJ h3 hk]
   refine (vL _ _ fun x hx t => ih t x env funcs (dZ hok (by omega) x hx) hf henv).then fun vs t hv => ?_
   refine (aJF (P := aUJ sz f.aW.length) (fun us u hu => ?_) _ _ _ ⟨by have := hv.1; have := F.kids; omega, hv.2⟩).then fun us u hu => okP.pure (hu.get f4)
   rw [F.eq]
   exact vL _ _ fun x hx t => ih t x us e.aX (by rw [hu.1, f9.2.2]; exact F.oks x hx) (by omega) hu.2
theorem nN {p : aE} (hp : p.ok) {f : Int} (hf : 0 ≤ f ∧ f < p.aI.length) : ∃ F, p.aI[f.toNat]? = some F ∧ (1 ≤ F.aW.length ∧ F.aW.length ≤ 12) ∧ (0 ≤ F.aZ ∧ F.aZ ≤ 12) ∧ p.outs f = F.aW ∧ ∀ x ∈ F.aW, x.ok p f F.aZ := by
 have hlt : f.toNat < p.aI.length := by omega
 have ef : p.aI[f.toNat]? = some p.aI[f.toNat] := List.getElem?_eq_getElem hlt
 have hF := hp.2 _ _ ef
 refine ⟨_, ef, by have := hF.2.2.1; omega, hF.2.1, by rw [aE.outs, ef]; rfl, fun x hx => ?_⟩
 have := (hF.2.2.2.2.2 x hx).2.2.2.2
 rwa [show ((f.toNat : Nat) : Int) = f by omega] at this
theorem aK2 {p : aE} (hp : p.ok) {sz : Nat} (hsz : 1 ≤ sz) (f : Int) (hf : 0 ≤ f ∧ f < p.aI.length) (args : List (List Int)) (ha : ∀ s ∈ args, cV sz s) (hl : ∀ F, p.aI[f.toNat]? = some F → (args.length : Int) = F.aZ) : okP (fun l => aUJ sz (p.outs f).length l) (xW p sz f args) := by
 obtain ⟨F, ef, hF1, hF2, hF3, hF4⟩ := nN hp hf
 exact vL _ _ fun x hx t => aSI hp hsz _ _ x args f (by rw [hl F ef]; exact hF4 x (by rw [← hF3]; exact hx)) (by omega) ha
set_option maxRecDepth 100000
open Go.Proofs
set_option linter.unusedVariables false
set_option linter.unusedSimpArgs false
@[go_sem] def aSJ : List Nat := [0, 1, 4, 5, 6, 11, 12, 13]
@[go_sem] def a5F : List Nat := []
@[go_sem] def a5G : Marks := fun _ => ([], .nil, [])
theorem a07 (a : List Int) (m : Int) (hm : kI m) (hl : a.length ≤ 1048576) (ha : fG a) : FnN Tryz.prog 109 [eI 1 (fun n => [I n]) a, I m] (QS (OS (oP I) 1 (nI a m))) := by
 refine aIM 27 aSJ a5F a5G mix Tryz.func109 rfl (by kernel_rfl) (by simp) fun h => ?_
 simp -dsimp -implicitDefEqProofs only [go_sem, ↓reduceIte, Tryz.f109]
 intro _
 refine ⟨Nat.zero_lt_one, Nat.le_refl _, by omega, by omega, fun n hn _ => ?_⟩
 have hc := tC a m
 rw [wI]
 refine r8 (keep := aSJ) (ib := a5F) (mk := a5G) mix (by kernel_rfl) (fun k : Nat => [(0, eI 1 (fun n => [I n]) a), (1, I m), (5, .os n 1 0 a.length), (11, I a.length), (12, I k)]) n (fun k => .row 1 (((upL (nI a m) k).map fun n => [I n]).map (List.map .v))) (fun k => k ≤ a.length) (fun k => a.length - k) 0 ⟨by simp [dF, b6], by rw [aG, aBL, hc], Nat.zero_le _⟩ ?_
 intro k hk
 rcases Nat.lt_or_ge k a.length with hlt | hge
 ·have ea : a[k]? = some a[k] := List.getElem?_eq_getElem hlt
  have eu := aE6 (c := nI a m) (k := k) (by omega)
  have el := aE5 (nI a m) (k := k) (by omega)
  simp -dsimp -implicitDefEqProofs only [go_sem, ↓reduceIte, Tryz.f109, aM, hlt, ea, eu, el, hc]
  have h1 := num_mul (ha _ (List.getElem_mem hlt)) hm
  refine ⟨k + 1, by rw [IntWalk.i64_in _ (by omega)]; rfl, ?_, by omega, by omega⟩
  have hv : (nI a m)[k]'(by omega) = a[k] * m % 1000003 := by simp [nI]
  rw [aQK h1.1 (by omega), ← aE7 (by omega), hv, ← aAM I]
  exact aA.le_refl _
 ·have hk' : k = a.length := by omega
  subst hk'
  simp -dsimp -implicitDefEqProofs only [go_sem, ↓reduceIte, Tryz.f109, aM, Nat.lt_irrefl]
  have hu : upL (nI a m) a.length = nI a m := by rw [← hc]; exact aE4 _
  rw [hu, show a.length = (nI a m).length from hc.symm]
  exact zB hn
theorem aBU {P : Program} {f : FuncId} {args : List aD} {l : List Int} (a : FnN P f args (QS (OS (oP I) 1 l))) : gV P f args (eI 1 (fun n => [I n]) l) := QS.fJ a (fun y hy => OS.sZ (c := fun n => [I n]) (fun _ _ q => aKJ q) hy)
theorem scaled (a : List Int) (m : Int) (hm : kI m) (hl : a.length ≤ 1048576) (ha : fG a) : gV Tryz.prog 109 [eI 1 (fun n => [I n]) a, I m] (eI 1 (fun n => [I n]) (nI a m)) := aBU (a07 a m hm hl ha)
theorem a8A (a b : List Int) (hab : b.length = a.length) (hl : a.length ≤ 1048576) (ha : fG a) (hb : fG b) : gV Tryz.prog 69 [eI 1 (fun n => [I n]) a, eI 1 (fun n => [I n]) b] (eI 1 (fun n => [I n]) (pG a b)) := aBU (added a b hab hl (aFB ha) (aFB hb))
@[go_sem] def a08 : List Nat := [0, 1, 4]
@[go_sem] def bEN : List Nat := []
@[go_sem] def bEO : Marks := fun _ => ([], .nil, [])
theorem aXH (a b : List Int) (hab : b.length = a.length) (hl : a.length ≤ 1048576) (ha : fG a) (hb : fG b) : FnN Tryz.prog 107 [eI 1 (fun n => [I n]) a, eI 1 (fun n => [I n]) b] (QS (OS (oP I) 1 (aOK a b))) := by
 refine aIM 9 a08 bEN bEO mix Tryz.func107 rfl (by kernel_rfl) (by simp) fun h => ?_
 simp -dsimp -implicitDefEqProofs only [go_sem, ↓reduceIte, Tryz.f107]
 first | refine aH.mk (scaled b 1000002 (by unfold kI; omega) (by omega) hb) ?_ | refine aF.mk (scaled b 1000002 (by unfold kI; omega) (by omega) hb) ?_ | refine aH.bY (scaled b 1000002 (by unfold kI; omega) (by omega) hb) ?_ | refine aF.mk (bQ.fJ (scaled b 1000002 (by unfold kI; omega) (by omega) hb)) ?_
 simp -dsimp -implicitDefEqProofs only [go_sem, ↓reduceIte, Tryz.f107]
 refine aH.wn0 (added a (nI b 1000002) (by rw [tC]; exact hab) hl (aFB ha) (aFB (mP _ ⟨rfl, hb⟩).2)) ?_
 rintro r l g ⟨y, oy, rfl, rfl⟩ wn
 simp -dsimp -implicitDefEqProofs only [go_sem, ↓reduceIte, Tryz.f107, oy.flat, oy.one]
 exact ⟨_, g, _, bD _ _, ⟨y, oy, rfl, rfl⟩, wn⟩
theorem reduced (a b : List Int) (hab : b.length = a.length) (hl : a.length ≤ 1048576) (ha : fG a) (hb : fG b) : gV Tryz.prog 107 [eI 1 (fun n => [I n]) a, eI 1 (fun n => [I n]) b] (eI 1 (fun n => [I n]) (aOK a b)) := aBU (aXH a b hab hl ha hb)
@[go_sem] def a09 : List Nat := [0, 1, 4]
@[go_sem] def bEP : List Nat := []
@[go_sem] def bEQ : Marks := fun _ => ([], .nil, [])
theorem minus (a b : Int) : gV Tryz.prog 130 [I a, I b] (I ((a - b) % 1000003)) := by
 refine gD 10 a09 bEP bEQ mix Tryz.func130 rfl (by kernel_rfl) (by simp) fun h => ?_
 simp -dsimp -implicitDefEqProofs only [go_sem, ↓reduceIte, Tryz.f130]
 first | refine aH.mk (iF b) ?_ | refine aF.mk (iF b) ?_ | refine aH.bY (iF b) ?_ | refine aF.mk (bQ.fJ (iF b)) ?_
 simp -dsimp -implicitDefEqProofs only [go_sem, ↓reduceIte, Tryz.f130]
 rw [IntWalk.i64_in _ (by omega)]
 first | refine aH.mk (aOI a (1000003 - b % 1000003)) ?_ | refine aF.mk (aOI a (1000003 - b % 1000003)) ?_ | refine aH.bY (aOI a (1000003 - b % 1000003)) ?_ | refine aF.mk (bQ.fJ (aOI a (1000003 - b % 1000003))) ?_
 simp -dsimp -implicitDefEqProofs only [go_sem, ↓reduceIte, Tryz.f130]
 omega
@[go_sem] def aK3 : List Nat := [0, 1, 4, 5, 6, 7, 12, 13, 14, 18]
@[go_sem] def aXI : List Nat := []
@[go_sem] def aXJ : Marks := fun id => match id with | 8 => ([5, 20], (.op 0 (.op 1 (.op 2 (.op 3 (.op 4 (.op 6 (.op 7 (.op 8 (.op 9 (.op 10 (.op 11 (.op 12 (.op 13 (.op 14 (.op 15 (.op 16 (.op 5 (.op 17 (.op 18 (.op 19 (.op 20 .nil))))))))))))))))))))), []) | _ => ([], .nil, [])
theorem aXK (a b : List Int) (hab : b.length = a.length) (hl : a.length ≤ 1048576) (ha : fG a) (hb : fG b) : FnN Tryz.prog 108 [eI 1 (fun n => [I n]) a, eI 1 (fun n => [I n]) b] (QS (OS (oP I) 1 (mulL a b))) := by
 refine aIM 43 aK3 aXI aXJ mix Tryz.func108 rfl (by kernel_rfl) (by simp) fun h => ?_
 simp -dsimp -implicitDefEqProofs only [go_sem, ↓reduceIte, Tryz.f108]
 intro _
 refine ⟨Nat.zero_lt_one, Nat.le_refl _, by omega, by omega, fun n hn _ => ?_⟩
 have hc := aOO a b
 rw [wI]
 refine r8 (keep := aK3) (ib := aXI) (mk := aXJ) mix (by kernel_rfl) (fun k : Nat => [(0, eI 1 (fun n => [I n]) a), (1, eI 1 (fun n => [I n]) b), (5, .os n 1 0 a.length), (12, I a.length), (13, I k)]) n (fun k => .row 1 (((upL (mulL a b) k).map fun n => [I n]).map (List.map .v))) (fun k => k ≤ a.length) (fun k => a.length - k) 0 ⟨by simp [dF, b6], by rw [aG, aBL, hc], Nat.zero_le _⟩ ?_
 intro k hk
 rcases Nat.lt_or_ge k a.length with hlt | hge
 ·simp -dsimp -implicitDefEqProofs only [go_sem, ↓reduceIte, Tryz.f108, aM, hlt]
  refine r8 (keep := aK3) (ib := aXI) (mk := aXJ) mix (by kernel_rfl) (fun i : Nat => [(0, eI 1 (fun n => [I n]) a), (1, eI 1 (fun n => [I n]) b), (5, .os n 1 0 a.length), (6, I k), (7, I i), (12, I a.length), (13, I k)]) n (fun i => .row 1 ((((upL (mulL a b) k).set k (cvS a b k i)).map fun n => [I n]).map (List.map .v))) (fun i => i ≤ k + 1) (fun i => k + 1 - i) 0 ⟨by simp [dF, b6], by rw [aG, cvS, aXG (by omega)], Nat.zero_le _⟩ ?_
  intro i hi
  have el : ((upL (mulL a b) k).set k (cvS a b k i)).length = a.length := by rw [List.length_set, aE5 _ (by omega), hc]
  have eu : ((upL (mulL a b) k).set k (cvS a b k i))[k]? = some (cvS a b k i) := by rw [List.getElem?_set_self (by rw [List.length_set] at el; omega)]
  rcases Nat.lt_or_ge i (k + 1) with nD | aKZ
  ·have ea := cX (l := a) (i := i) (by omega)
   have eb := cX (l := b) (i := k - i) (by omega)
   have ew : IntKind.i64.wrap ((k : Int) - (i : Int)) = ((k - i : Nat) : Int) := by rw [IntWalk.i64_in _ (by omega)]; omega
   simp -dsimp -implicitDefEqProofs only [go_sem, ↓reduceIte, Tryz.f108, aM, hlt, ea, eb, eu, el, hc, ew]
   refine ⟨fun _ => ⟨by omega, by omega, i + 1, by rw [IntWalk.i64_in _ (by omega)]; rfl, ?_, by omega, by omega⟩, fun q => absurd (by omega) q⟩
   have h1 := num_mul (ha.get i) (hb.get (k - i))
   have h2 := aW8 a b k i
   unfold kI at h2
   rw [IntWalk.i64_in (a.getD i 0 * b.getD (k - i) 0) (by omega), aQK (by omega) (by omega), show (upL (mulL a b) k).set k (cvS a b k (i + 1)) = ((upL (mulL a b) k).set k (cvS a b k i)).set k ((cvS a b k i + a.getD i 0 * b.getD (k - i) 0) % 1000003) by rw [List.set_set, cvS], ← aAM I]
   exact aA.le_refl _
  ·have hi' : i = k + 1 := by omega
   subst hi'
   simp -dsimp -implicitDefEqProofs only [go_sem, ↓reduceIte, Tryz.f108, aM, hlt]
   refine ⟨fun q => absurd q (by omega), fun _ => ⟨k + 1, by rw [IntWalk.i64_in _ (by omega)]; rfl, ?_, by omega, by omega⟩⟩
   have hv : (mulL a b)[k]'(by omega) = cvS a b k (k + 1) := by simp [mulL]
   rw [← hv, aE7 (by omega)]
   exact aA.le_refl _
 ·have hk' : k = a.length := by omega
  subst hk'
  simp -dsimp -implicitDefEqProofs only [go_sem, ↓reduceIte, Tryz.f108, aM, Nat.lt_irrefl]
  have hu : upL (mulL a b) a.length = mulL a b := by rw [← hc]; exact aE4 _
  rw [hu, show a.length = (mulL a b).length from hc.symm]
  exact zB hn
theorem product (a b : List Int) (hab : b.length = a.length) (hl : a.length ≤ 1048576) (ha : fG a) (hb : fG b) : gV Tryz.prog 108 [eI 1 (fun n => [I n]) a, eI 1 (fun n => [I n]) b] (eI 1 (fun n => [I n]) (mulL a b)) := aBU (aXK a b hab hl ha hb)
@[go_sem] def aSK : List Nat := [0, 1, 4, 5, 6, 8, 12, 17]
@[go_sem] def a5H : List Nat := []
@[go_sem] def a5I : Marks := fun _ => ([], .nil, [])
theorem Power (a n : Int) (hn : 0 ≤ n) (hn2 : n ≤ 4294967296) : gV Tryz.prog 155 [I a, I n] (I (pwN (a % 1000003) n.toNat)) := by
 refine gD 27 aSK a5H a5I mix Tryz.func155 rfl (by kernel_rfl) (by simp) fun h => ?_
 simp -dsimp -implicitDefEqProofs only [go_sem, ↓reduceIte, Tryz.f155]
 refine ⟨fun q => absurd q (by omega), fun _ => ?_⟩
 first | refine aH.mk (iF a) ?_ | refine aF.mk (iF a) ?_ | refine aH.bY (iF a) ?_ | refine aF.mk (bQ.fJ (iF a)) ?_
 simp -dsimp -implicitDefEqProofs only [go_sem, ↓reduceIte, Tryz.f155]
 generalize hT : pwN (a % 1000003) n.toNat = T
 refine oN (keep := aSK) (ib := a5H) (mk := a5I) mix (by kernel_rfl) (fun x : Int × Int × Int => [(1, I x.2.2), (5, I x.1), (6, I x.2.1)]) (fun x => (0 ≤ x.1 ∧ x.1 < 1000003) ∧ (0 ≤ x.2.1 ∧ x.2.1 < 1000003) ∧ (0 ≤ x.2.2 ∧ x.2.2 ≤ 4294967296) ∧ x.1 * x.2.1 ^ x.2.2.toNat % 1000003 = T) (fun x => x.2.2.toNat) (1, a % 1000003, n) ⟨by simp [dF, b6], ⟨by simp, by simp⟩, aOM _, ⟨hn, hn2⟩, by rw [Int.one_mul]; exact hT⟩ ?_
 rintro ⟨x, b, m⟩ ⟨hx, hb, hm, hp⟩
 simp only at hx hb hm hp ⊢
 simp -dsimp -implicitDefEqProofs only [go_sem, ↓reduceIte, Tryz.f155]
 have h1 := num_mul (x := x) (y := b) (by unfold kI; omega) (by unfold kI; omega)
 have h2 := num_mul (x := b) (y := b) (by unfold kI; omega) (by unfold kI; omega)
 rw [Int.tmod_eq_emod_of_nonneg hm.1, Int.tdiv_eq_ediv_of_nonneg hm.1, IntWalk.i64_in (m / 2) (by omega), aQK h1.1 (by omega), aQK h2.1 (by omega)]
 refine ⟨fun hg => ⟨fun ho => ⟨(x * b % 1000003, b * b % 1000003, m / 2), ⟨rfl, rfl, rfl⟩, ⟨aOM _, aOM _, (show 0 ≤ m / 2 ∧ m / 2 ≤ 4294967296 by omega), aXF hm.1 ho hp⟩, by simp only; omega⟩, fun ho => ⟨(x, b * b % 1000003, m / 2), ⟨rfl, rfl, rfl⟩, ⟨hx, aOM _, (show 0 ≤ m / 2 ∧ m / 2 ≤ 4294967296 by omega), aSG hm.1 ho hp⟩, by simp only; omega⟩⟩, fun hg => ?_⟩
 have : m.toNat = 0 := by omega
 rw [this, aSF x b hx] at hp
 exact hp
@[go_sem] def a1A : List Nat := [0, 2]
@[go_sem] def bES : List Nat := []
@[go_sem] def bET : Marks := fun _ => ([], .nil, [])
theorem uB (a : Int) : gV Tryz.prog 129 [I a] (I (oE a)) := by
 refine gD 5 a1A bES bET mix Tryz.func129 rfl (by kernel_rfl) (by simp) fun h => ?_
 simp -dsimp -implicitDefEqProofs only [go_sem, ↓reduceIte, Tryz.f129]
 first | refine aH.mk (Power a 1000001 (by decide) (by decide)) ?_ | refine aF.mk (Power a 1000001 (by decide) (by decide)) ?_ | refine aH.bY (Power a 1000001 (by decide) (by decide)) ?_ | refine aF.mk (bQ.fJ (Power a 1000001 (by decide) (by decide))) ?_
 simp -dsimp -implicitDefEqProofs only [go_sem, ↓reduceIte, Tryz.f129]
 rfl
@[go_sem] def aK4 : List Nat := [0, 1, 4, 5, 6, 7, 8, 9, 18, 19, 20, 28]
@[go_sem] def aXL : List Nat := []
@[go_sem] def aXM : Marks := fun id => match id with | 1 => ([2], (.op 0 (.op 1 (.op 3 (.op 4 (.op 5 (.op 6 (.op 2 (.op 7 (.op 8 .nil))))))))), []) | 9 => ([4], (.op 0 (.op 1 (.op 2 (.op 3 (.op 5 (.op 6 (.op 7 (.op 8 (.op 9 (.op 10 (.op 4 (.op 11 (.op 12 (.op 13 .nil)))))))))))))), []) | _ => ([], .nil, [])
theorem aUK (a b : List Int) (hab : b.length = a.length) (hl : a.length ≤ 1048576) (h0 : 0 < a.length) (ha : fG a) (hb : fG b) : FnN Tryz.prog 110 [eI 1 (fun n => [I n]) a, eI 1 (fun n => [I n]) b] (QS (OS (oP I) 1 (nJ a b))) := by
 have e0 : b[Int.toNat 0]? = some (b.getD 0 0) := cX (l := b) (i := 0) (by omega)
 refine aIM 53 aK4 aXL aXM mix Tryz.func110 rfl (by kernel_rfl) (by simp) fun h => ?_
 simp -dsimp -implicitDefEqProofs only [go_sem, ↓reduceIte, Tryz.f110, e0]
 refine ⟨by omega, ?_⟩
 first | refine aH.mk (uB (b.getD 0 0)) ?_ | refine aF.mk (uB (b.getD 0 0)) ?_ | refine aH.bY (uB (b.getD 0 0)) ?_ | refine aF.mk (bQ.fJ (uB (b.getD 0 0))) ?_
 simp -dsimp -implicitDefEqProofs only [go_sem, ↓reduceIte, Tryz.f110]
 refine ⟨Nat.zero_lt_one, Nat.le_refl _, by omega, by omega, fun n hn _ => ?_⟩
 have hc := vK a b
 rw [wI]
 refine r8 (keep := aK4) (ib := aXL) (mk := aXM) mix (by kernel_rfl) (fun k : Nat => [(0, eI 1 (fun n => [I n]) a), (1, eI 1 (fun n => [I n]) b), (5, .os n 1 0 a.length), (6, I (oE (b.getD 0 0))), (18, I a.length), (19, I k)]) n (fun k => .row 1 (((upL (nJ a b) k).map fun n => [I n]).map (List.map .v))) (fun k => k ≤ a.length) (fun k => a.length - k) 0 ⟨by simp [dF, b6], by rw [aG, aBL, hc], Nat.zero_le _⟩ ?_
 intro k hk
 rcases Nat.lt_or_ge k a.length with hlt | hge
 ·have ek := cX hlt
  simp -dsimp -implicitDefEqProofs only [go_sem, ↓reduceIte, Tryz.f110, aM, hlt, ek]
  refine oN (keep := aK4) (ib := aXL) (mk := aXM) mix (by kernel_rfl) (fun i : Nat => [(0, eI 1 (fun n => [I n]) a), (1, eI 1 (fun n => [I n]) b), (5, .os n 1 0 a.length), (6, I (oE (b.getD 0 0))), (7, I k), (8, I (dvS (j6 a b k) b k (a.getD k 0) i)), (9, I i), (18, I a.length), (19, I k)]) (fun i => i ≤ k) (fun i => k - i) 0 ⟨by simp [dF, b6, dvS], Nat.zero_le _⟩ ?_
  intro i hi
  have el := aE5 (nJ a b) (k := k) (by omega)
  have eu := aE6 (c := nJ a b) (k := k) (by omega)
  rcases Nat.lt_or_ge i k with nD | aKZ
  ·have ei := aEO (a := a) (b := b) (i := i) hk nD
   have eb := cX (l := b) (i := k - i) (by omega)
   have ew : IntKind.i64.wrap ((k : Int) - (i : Int)) = ((k - i : Nat) : Int) := by rw [IntWalk.i64_in _ (by omega)]; omega
   simp -dsimp -implicitDefEqProofs only [go_sem, ↓reduceIte, Tryz.f110, aM, nD, ei, eb, el, hc, ew]
   have h1 := num_mul ((tB a b k).get i) (hb.get (k - i))
   refine ⟨by omega, by omega, ?_⟩
   rw [IntWalk.i64_in _ (by omega)]
   first | refine aH.mk (minus (dvS (j6 a b k) b k (a.getD k 0) i) ((j6 a b k).getD i 0 * b.getD (k - i) 0)) ?_ | refine aF.mk (minus (dvS (j6 a b k) b k (a.getD k 0) i) ((j6 a b k).getD i 0 * b.getD (k - i) 0)) ?_ | refine aH.bY (minus (dvS (j6 a b k) b k (a.getD k 0) i) ((j6 a b k).getD i 0 * b.getD (k - i) 0)) ?_ | refine aF.mk (bQ.fJ (minus (dvS (j6 a b k) b k (a.getD k 0) i) ((j6 a b k).getD i 0 * b.getD (k - i) 0))) ?_
   simp -dsimp -implicitDefEqProofs only [go_sem, ↓reduceIte, Tryz.f110, aM, nD, ei, eb, el, hc, ew]
   exact ⟨i + 1, ⟨rfl, by rw [IntWalk.i64_in _ (by omega)]; rfl⟩, by omega, by omega⟩
  ·have hi' : i = k := by omega
   subst hi'
   simp -dsimp -implicitDefEqProofs only [go_sem, ↓reduceIte, Tryz.f110, aM, Nat.lt_irrefl, hlt, eu, el, hc]
   have h1 := num_mul (wL (j6 a b i) b i (ha.get i) i) (num_inv (b.getD 0 0))
   refine ⟨i + 1, by rw [IntWalk.i64_in _ (by omega)]; rfl, ?_, by omega, by omega⟩
   rw [aQK h1.1 (by omega), ← aON hlt, ← aE7 (by omega), ← aAM I]
   exact aA.le_refl _
 ·have hk' : k = a.length := by omega
  subst hk'
  simp -dsimp -implicitDefEqProofs only [go_sem, ↓reduceIte, Tryz.f110, aM, Nat.lt_irrefl]
  have hu : upL (nJ a b) a.length = nJ a b := by rw [← hc]; exact aE4 _
  rw [hu, show a.length = (nJ a b).length from hc.symm]
  exact zB hn
theorem quotient (a b : List Int) (hab : b.length = a.length) (hl : a.length ≤ 1048576) (h0 : 0 < a.length) (ha : fG a) (hb : fG b) : gV Tryz.prog 110 [eI 1 (fun n => [I n]) a, eI 1 (fun n => [I n]) b] (eI 1 (fun n => [I n]) (nJ a b)) := aBU (aUK a b hab hl h0 ha hb)
theorem fQ {h h' : aA} {n : Nat} (l : List Int) (h0 : h n = none) (hl : (aT h n (.row 1 ((l.map fun n => [I n]).map (List.map .v)))).le h') {len : Nat} (e : len = l.length) : Shift (.os n 1 0 len) h' (eI 1 (fun n => [I n]) l) h :=
 sK (l.map fun n => [I n]) h0 hl len (by rw [List.length_map]; exact e)
theorem aG8 (n : Int) (sz : Nat) : (lP n sz).length = sz := by simp [lP]
theorem aSL {sz : Nat} {x : List aD} (h : 0 < sz) : (List.replicate sz x)[Int.toNat 0]? = some x := by
 show (List.replicate sz x)[0]? = some x
 rw [List.getElem?_replicate, if_pos h]
theorem aOS (n : Int) (sz : Nat) : ((List.replicate sz [aD.int .i64 0]).map (List.map Cell.v)).set 0 [Cell.v (I n)] = ((lP n sz).map fun n => [I n]).map (List.map .v) := by
 rw [wI, lP, aAM I]
@[go_sem] def a1B : List Nat := [0, 1, 4, 5]
@[go_sem] def bEU : List Nat := []
@[go_sem] def bEV : Marks := fun _ => ([], .nil, [])
theorem lQ (h : aA) (nb : Nat) (c0 c2 c3 : Cell) (n : Int) (sz : Nat) (hb : h nb = some (.row 4 [[c0, .v (I ((sz : Int) - 1)), c2, c3]])) (ho : 1 ≤ sz ∧ sz ≤ 1048576) : fF Tryz.prog 147 [.op nb 4 0 0, I n] h fun r h' => r = eI 1 (fun n => [I n]) (lP n sz) ∧ h' = h := by
 have e1 : IntKind.i64.wrap ((sz : Int) - 1 + 1) = (sz : Int) := by rw [IntWalk.i64_in _ (by omega)]; omega
 have e2 := aSL (x := [aD.int .i64 0]) ho.1
 refine gK 16 a1B bEU bEV mix Tryz.func147 rfl (by kernel_rfl) (by simp) ?_
 simp -dsimp -implicitDefEqProofs only [go_sem, ↓reduceIte, Tryz.f147, hb, e1, Int.toNat_natCast, e2]
 refine ⟨Nat.zero_lt_one, by omega, by omega, by omega, fun m hm => ⟨by omega, ?_⟩⟩
 rw [aM, show Int.toNat 0 = 0 from rfl, aOS]
 exact ⟨_, h, fQ _ hm (aA.le_refl _) (aG8 n sz).symm, rfl, rfl⟩
set_option maxRecDepth 100000
open Go.Proofs
set_option linter.unusedVariables false
set_option linter.unusedSimpArgs false
def dO (p : aE) (sz st : Nat) (c : Int) : cB := .row 4 [[.v (eI 3 aS.c p.aI), .v (I ((sz : Int) - 1)), .v (I st), .v (I c)]]
abbrev fE (l : List (List Int)) : aD := eI 1 (fun s => [ints s]) l
def EvQ (h : aA) (nb : Nat) (p : aE) (sz st : Nat) (c : Int) (X : Out (List Int)) : aD → aA → Prop := fun r h' => ∃ s t c', r = ints s ∧ h' = aT h nb (dO p sz t c') ∧ cV sz s ∧ st ≤ t ∧ t ≤ 3000 ∧ jB (oG c X) s t c'
def bLI (h : aA) (nb : Nat) (p : aE) (sz st : Nat) (c : Int) (n : Nat) (X : Out (List (List Int))) : aD → aA → Prop := fun r h' => ∃ l t c', r = fE l ∧ h' = aT h nb (dO p sz t c') ∧ l.length = n ∧ (∀ s ∈ l, cV sz s) ∧ st ≤ t ∧ t ≤ 3000 ∧ jB (oG c X) l t c'
@[go_sem] def nO : List Nat := [0, 1, 2, 4, 6, 7, 8, 13, 20, 34, 35, 41, 48, 59, 74, 102, 106, 107, 126, 138, 159, 168, 177, 186, 197]
@[go_sem] def vM : List Nat := [4, 90]
@[go_sem] def vN : Marks := fun id => match id with | 17 => ([6, 13, 15, 16], (.op 0 (.op 1 (.op 2 (.op 3 (.op 4 (.op 5 (.op 7 (.op 8 (.op 9 (.op 10 (.op 11 (.op 12 (.op 6 (.op 13 (.op 14 (.op 15 (.op 16 (.op 17 .nil)))))))))))))))))), []) | 23 => ([5, 16], (.op 0 (.op 1 (.op 2 (.op 3 (.op 4 (.op 6 (.op 7 (.op 11 (.op 12 (.op 15 (.op 5 (.op 8 (.op 9 (.op 10 (.op 13 (.op 14 (.op 16 (.op 17 .nil)))))))))))))))))), []) | 28 => ([5, 12], (.op 0 (.op 1 (.op 2 (.op 3 (.op 4 (.op 6 (.op 7 (.op 11 (.op 5 (.op 8 (.op 9 (.op 10 (.op 12 (.op 13 .nil)))))))))))))), []) | 31 => ([6], (.op 0 (.op 1 (.op 2 (.op 3 (.op 4 (.op 5 (.op 6 (.op 7 .nil)))))))), []) | 33 => ([6], (.op 0 (.op 1 (.op 2 (.op 3 (.op 4 (.op 5 (.op 6 (.op 7 .nil)))))))), []) | 35 => ([6], (.op 0 (.op 1 (.op 2 (.op 3 (.op 4 (.op 5 (.op 6 (.op 7 .nil)))))))), []) | 41 => ([6], (.op 0 (.op 1 (.op 2 (.op 3 (.op 4 (.op 5 (.op 6 (.op 7 .nil)))))))), []) | _ => ([], .nil, [])
def nP (p : aE) (sz n : Nat) : Prop := ∀ (h : aA) (nb st : Nat) (c : Int) (e : aB) (env : List (List Int)) (funcs : Int), h nb = some (dO p sz st c) → st ≤ 3000 → 3001 ≤ n + st → e.ok p funcs env.length → 0 ≤ funcs → funcs ≤ p.aI.length → (∀ s ∈ env, cV sz s) → env.length ≤ 412 + st →
 fF Tryz.prog 118 [.op nb 4 0 0, .agg e.c, fE env] h (EvQ h nb p sz st c (iU p sz n st e env))
@[go_sem] def aXN : List Nat := [0, 1, 2, 6, 7, 9, 11, 12, 13, 14]
@[go_sem] def bEW : List Nat := [10, 22]
@[go_sem] def bEX : Marks := fun _ => ([], .nil, [])
theorem wM {p : aE} {sz n : Nat} (hv : nP p sz n) (h : aA) (nb st : Nat) (c : Int) (l : List aB) (env : List (List Int)) (funcs : Int) (hb : h nb = some (dO p sz st c)) (hst : st ≤ 3000) (hn : 3001 ≤ n + st)
  (hl : l.length ≤ 1048576) (hok : ∀ e ∈ l, e.ok p funcs env.length) (eH : 0 ≤ funcs) (hf : funcs ≤ p.aI.length) (henv : ∀ s ∈ env, cV sz s) (hel : env.length ≤ 412 + st) :
  fF Tryz.prog 92 [.op nb 4 0 0, eI 5 aB.c l, fE env] h (bLI h nb p sz st c l.length (lJ (fun t e => iU p sz n t e env) l st)) := by
 refine gK 26 aXN bEW bEX mix Tryz.func92 rfl (by kernel_rfl) (by simp) ?_
 simp -dsimp -implicitDefEqProofs only [go_sem, ↓reduceIte, Tryz.f92]
 refine ⟨Nat.zero_lt_one, fun _ => ?_⟩
 refine dA (keep := aXN) (ib := bEW) (mk := bEX) mix (by kernel_rfl) (fun x : Nat × List (List Int) × Nat × Int × Option Nat => [(0, .op nb 4 0 0), (2, fE env), (7, jM 1 x.2.1.length x.2.2.2.2), (11, eI 5 aB.c l), (12, I l.length), (13, I x.1)]) (fun x => cQ (aT h nb (dO p sz x.2.2.1 x.2.2.2.1)) (.row 1 ((x.2.1.map fun s => [ints s]).map (List.map .v))) x.2.2.2.2) (fun x => x.1 ≤ l.length ∧ x.2.1.length = x.1 ∧ (∀ s ∈ x.2.1, cV sz s) ∧ st ≤ x.2.2.1 ∧ x.2.2.1 ≤ 3000 ∧ jB (oG c (lJ (fun t e => iU p sz n t e env) (l.take x.1) st)) x.2.1 x.2.2.1 x.2.2.2.1 ∧ gX h x.2.1 x.2.2.2.2) (fun x => l.length - x.1) (0, [], st, c, none) ⟨by simp [dF, b6, jM], by simp only [aQ]; rw [qX hb]; exact aA.le_refl _, Nat.zero_le _, rfl, by simp, Nat.le_refl _, hst, gR _ _ _, rfl⟩ ?_
 rintro ⟨k, vs, t, c', o⟩ ⟨hk, hvl, hvs, ht0, ht, ho, hos⟩
 simp only at hk hvl hvs ht0 ht ho hos ⊢
 rcases Nat.lt_or_ge k l.length with hlt | hge
 ·have ek : l[k]? = some l[k] := List.getElem?_eq_getElem hlt
  have hnext : ∀ (s : List Int) (t2 : Nat) (c2 : Int), jB (oG c' (iU p sz n t l[k] env)) s t2 c2 → jB (oG c (lJ (fun t e => iU p sz n t e env) (l.take (k + 1)) st)) (vs ++ [s]) t2 c2 := fun s t2 c2 h3 => by
   rw [List.take_succ_eq_append_getElem hlt, vI]
   exact ho.dY (h3.dY (gR _ _ _))
  have hall : ∀ s, cV sz s → ∀ x ∈ vs ++ [s], cV sz x := fun s hs x hx => by
   rcases List.mem_append.1 hx with hx | hx
   ·exact hvs x hx
   ·rw [List.mem_singleton.1 hx]; exact hs
  cases o with
  |none =>
   rw [bH] at hos
   subst hos
   simp -dsimp -implicitDefEqProofs only [go_sem, ↓reduceIte, Tryz.f92, bU, aQ, hlt, ek, aB.aR]
   intro m9 cM
   have wN : ¬ m9 = nb := by first | exact cM.1 | exact cM | exact cM.2.1 | exact cM.2 | exact cM.2.2.1 | exact cM.2.2 | exact cM.2.2.2.1 | exact cM.2.2.2 | exact cM.2.2.2.2.1 | exact cM.2.2.2.2 | exact cM.2.2.2.2.2.1 | exact cM.2.2.2.2.2 | exact cM.2.2.2.2.2.2.1 | exact cM.2.2.2.2.2.2 | exact cM.2.2.2.2.2.2.2.1 | exact cM.2.2.2.2.2.2.2 | exact cM.2.2.2.2.2.2.2.2.1 | exact cM.2.2.2.2.2.2.2.2 | exact cM.2.2.2.2.2.2.2.2.2.1 | exact cM.2.2.2.2.2.2.2.2.2 | exact cM.2.2.2.2.2.2.2.2.2.2.1 | exact cM.2.2.2.2.2.2.2.2.2.2 | exact cM.2.2.2.2.2.2.2.2.2.2.2.1 | exact cM.2.2.2.2.2.2.2.2.2.2.2 | exact cM.2.2.2.2.2.2.2.2.2.2.2.2.1 | exact cM.2.2.2.2.2.2.2.2.2.2.2.2 | exact cM.2.2.2.2.2.2.2.2.2.2.2.2.2.1 | exact cM.2.2.2.2.2.2.2.2.2.2.2.2.2
   have aFC : (m9 = nb) = False := eq_false wN
   have aFD : (nb = m9) = False := eq_false (Ne.symm wN)
   have aK5 : ¬ nb = m9 := Ne.symm wN
   have bLJ : h m9 = none := by first | exact cM.1 | exact cM | exact cM.2.1 | exact cM.2 | exact cM.2.2.1 | exact cM.2.2 | exact cM.2.2.2.1 | exact cM.2.2.2 | exact cM.2.2.2.2.1 | exact cM.2.2.2.2 | exact cM.2.2.2.2.2.1 | exact cM.2.2.2.2.2 | exact cM.2.2.2.2.2.2.1 | exact cM.2.2.2.2.2.2 | exact cM.2.2.2.2.2.2.2.1 | exact cM.2.2.2.2.2.2.2 | exact cM.2.2.2.2.2.2.2.2.1 | exact cM.2.2.2.2.2.2.2.2 | exact cM.2.2.2.2.2.2.2.2.2.1 | exact cM.2.2.2.2.2.2.2.2.2 | exact cM.2.2.2.2.2.2.2.2.2.2.1 | exact cM.2.2.2.2.2.2.2.2.2.2 | exact cM.2.2.2.2.2.2.2.2.2.2.2.1 | exact cM.2.2.2.2.2.2.2.2.2.2.2 | exact cM.2.2.2.2.2.2.2.2.2.2.2.2.1 | exact cM.2.2.2.2.2.2.2.2.2.2.2.2 | exact cM.2.2.2.2.2.2.2.2.2.2.2.2.2.1 | exact cM.2.2.2.2.2.2.2.2.2.2.2.2.2
   rw [aM]
   have hvk := hv (aT (aT h nb (dO p sz t c')) m9 (.row 5 [l[k].c.map .v])) nb t c' l[k] env funcs (by rw [aC _ _ _ _ aK5, aG]) ht (by omega) (hok _ (List.getElem_mem _)) eH hf henv (by omega)
   rw [aB.aR] at hvk
   refine aH.eM hvk ?_
   rintro r h' ⟨s, t2, c2, rfl, rfl, hs, h1, h2, h3⟩
   simp -dsimp -implicitDefEqProofs only [go_sem, ↓reduceIte, Tryz.f92]
   refine ⟨Nat.zero_lt_one, Nat.zero_lt_one, Nat.zero_lt_one, ?_⟩
   intro b aN
   have cY : ¬ b = nb := by first | exact aN.1 | exact aN | exact aN.2.1 | exact aN.2 | exact aN.2.2.1 | exact aN.2.2 | exact aN.2.2.2.1 | exact aN.2.2.2 | exact aN.2.2.2.2.1 | exact aN.2.2.2.2 | exact aN.2.2.2.2.2.1 | exact aN.2.2.2.2.2 | exact aN.2.2.2.2.2.2.1 | exact aN.2.2.2.2.2.2 | exact aN.2.2.2.2.2.2.2.1 | exact aN.2.2.2.2.2.2.2 | exact aN.2.2.2.2.2.2.2.2.1 | exact aN.2.2.2.2.2.2.2.2 | exact aN.2.2.2.2.2.2.2.2.2.1 | exact aN.2.2.2.2.2.2.2.2.2 | exact aN.2.2.2.2.2.2.2.2.2.2.1 | exact aN.2.2.2.2.2.2.2.2.2.2 | exact aN.2.2.2.2.2.2.2.2.2.2.2.1 | exact aN.2.2.2.2.2.2.2.2.2.2.2 | exact aN.2.2.2.2.2.2.2.2.2.2.2.2.1 | exact aN.2.2.2.2.2.2.2.2.2.2.2.2 | exact aN.2.2.2.2.2.2.2.2.2.2.2.2.2.1 | exact aN.2.2.2.2.2.2.2.2.2.2.2.2.2
   have gF : (b = nb) = False := eq_false cY
   have gG : (nb = b) = False := eq_false (Ne.symm cY)
   have gU : ¬ nb = b := Ne.symm cY
   have uV : ¬ b = m9 := by first | exact aN.1 | exact aN | exact aN.2.1 | exact aN.2 | exact aN.2.2.1 | exact aN.2.2 | exact aN.2.2.2.1 | exact aN.2.2.2 | exact aN.2.2.2.2.1 | exact aN.2.2.2.2 | exact aN.2.2.2.2.2.1 | exact aN.2.2.2.2.2 | exact aN.2.2.2.2.2.2.1 | exact aN.2.2.2.2.2.2 | exact aN.2.2.2.2.2.2.2.1 | exact aN.2.2.2.2.2.2.2 | exact aN.2.2.2.2.2.2.2.2.1 | exact aN.2.2.2.2.2.2.2.2 | exact aN.2.2.2.2.2.2.2.2.2.1 | exact aN.2.2.2.2.2.2.2.2.2 | exact aN.2.2.2.2.2.2.2.2.2.2.1 | exact aN.2.2.2.2.2.2.2.2.2.2 | exact aN.2.2.2.2.2.2.2.2.2.2.2.1 | exact aN.2.2.2.2.2.2.2.2.2.2.2 | exact aN.2.2.2.2.2.2.2.2.2.2.2.2.1 | exact aN.2.2.2.2.2.2.2.2.2.2.2.2 | exact aN.2.2.2.2.2.2.2.2.2.2.2.2.2.1 | exact aN.2.2.2.2.2.2.2.2.2.2.2.2.2
   have aG9 : (b = m9) = False := eq_false uV
   have aHA : (m9 = b) = False := eq_false (Ne.symm uV)
   have aQM : ¬ m9 = b := Ne.symm uV
   have z_b : h b = none := by first | exact aN.1 | exact aN | exact aN.2.1 | exact aN.2 | exact aN.2.2.1 | exact aN.2.2 | exact aN.2.2.2.1 | exact aN.2.2.2 | exact aN.2.2.2.2.1 | exact aN.2.2.2.2 | exact aN.2.2.2.2.2.1 | exact aN.2.2.2.2.2 | exact aN.2.2.2.2.2.2.1 | exact aN.2.2.2.2.2.2 | exact aN.2.2.2.2.2.2.2.1 | exact aN.2.2.2.2.2.2.2 | exact aN.2.2.2.2.2.2.2.2.1 | exact aN.2.2.2.2.2.2.2.2 | exact aN.2.2.2.2.2.2.2.2.2.1 | exact aN.2.2.2.2.2.2.2.2.2 | exact aN.2.2.2.2.2.2.2.2.2.2.1 | exact aN.2.2.2.2.2.2.2.2.2.2 | exact aN.2.2.2.2.2.2.2.2.2.2.2.1 | exact aN.2.2.2.2.2.2.2.2.2.2.2 | exact aN.2.2.2.2.2.2.2.2.2.2.2.2.1 | exact aN.2.2.2.2.2.2.2.2.2.2.2.2 | exact aN.2.2.2.2.2.2.2.2.2.2.2.2.2.1 | exact aN.2.2.2.2.2.2.2.2.2.2.2.2.2
   refine ⟨(k + 1, [s], t2, c2, some b), ⟨rfl, by rw [IntWalk.i64_in _ (by omega)]; rfl⟩, (iD (by repeat' (first | exact fS _ _ | refine iE (by simp only [dP, ↓reduceIte, eq_self, if_true, aFD, gG, aFC, aHA, gF, aG9, List.map_cons, List.map_nil]) ?_ | refine eY (by first | exact .inr (by assumption) | exact .inl (by simp)) ?_))), ⟨by omega, by simp only [List.length_nil] at hvl; subst hvl; rfl, fun x hx => hall s hs x hx, Nat.le_trans ht0 h1, h2, hnext s t2 c2 h3, z_b⟩, by simp only; omega⟩
  |some m =>
   rw [aV] at hos
   have dD : ¬ m = nb := fun e => by rw [e, hb] at hos; cases hos
   have cS : ¬ nb = m := Ne.symm dD
   have dH : (m = nb) = False := eq_false dD
   have dI : (nb = m) = False := eq_false cS
   simp -dsimp -implicitDefEqProofs only [go_sem, ↓reduceIte, Tryz.f92, aY, aJ, hlt, ek, aB.aR]
   intro m9 cM
   have pP : ¬ m9 = m := by first | exact cM.1 | exact cM | exact cM.2.1 | exact cM.2 | exact cM.2.2.1 | exact cM.2.2 | exact cM.2.2.2.1 | exact cM.2.2.2 | exact cM.2.2.2.2.1 | exact cM.2.2.2.2 | exact cM.2.2.2.2.2.1 | exact cM.2.2.2.2.2 | exact cM.2.2.2.2.2.2.1 | exact cM.2.2.2.2.2.2 | exact cM.2.2.2.2.2.2.2.1 | exact cM.2.2.2.2.2.2.2 | exact cM.2.2.2.2.2.2.2.2.1 | exact cM.2.2.2.2.2.2.2.2 | exact cM.2.2.2.2.2.2.2.2.2.1 | exact cM.2.2.2.2.2.2.2.2.2 | exact cM.2.2.2.2.2.2.2.2.2.2.1 | exact cM.2.2.2.2.2.2.2.2.2.2 | exact cM.2.2.2.2.2.2.2.2.2.2.2.1 | exact cM.2.2.2.2.2.2.2.2.2.2.2 | exact cM.2.2.2.2.2.2.2.2.2.2.2.2.1 | exact cM.2.2.2.2.2.2.2.2.2.2.2.2 | exact cM.2.2.2.2.2.2.2.2.2.2.2.2.2.1 | exact cM.2.2.2.2.2.2.2.2.2.2.2.2.2
   have rP : (m9 = m) = False := eq_false pP
   have rQ : (m = m9) = False := eq_false (Ne.symm pP)
   have aDL : ¬ m = m9 := Ne.symm pP
   have wN : ¬ m9 = nb := by first | exact cM.1 | exact cM | exact cM.2.1 | exact cM.2 | exact cM.2.2.1 | exact cM.2.2 | exact cM.2.2.2.1 | exact cM.2.2.2 | exact cM.2.2.2.2.1 | exact cM.2.2.2.2 | exact cM.2.2.2.2.2.1 | exact cM.2.2.2.2.2 | exact cM.2.2.2.2.2.2.1 | exact cM.2.2.2.2.2.2 | exact cM.2.2.2.2.2.2.2.1 | exact cM.2.2.2.2.2.2.2 | exact cM.2.2.2.2.2.2.2.2.1 | exact cM.2.2.2.2.2.2.2.2 | exact cM.2.2.2.2.2.2.2.2.2.1 | exact cM.2.2.2.2.2.2.2.2.2 | exact cM.2.2.2.2.2.2.2.2.2.2.1 | exact cM.2.2.2.2.2.2.2.2.2.2 | exact cM.2.2.2.2.2.2.2.2.2.2.2.1 | exact cM.2.2.2.2.2.2.2.2.2.2.2 | exact cM.2.2.2.2.2.2.2.2.2.2.2.2.1 | exact cM.2.2.2.2.2.2.2.2.2.2.2.2 | exact cM.2.2.2.2.2.2.2.2.2.2.2.2.2.1 | exact cM.2.2.2.2.2.2.2.2.2.2.2.2.2
   have aFC : (m9 = nb) = False := eq_false wN
   have aFD : (nb = m9) = False := eq_false (Ne.symm wN)
   have aK5 : ¬ nb = m9 := Ne.symm wN
   have bLJ : h m9 = none := by first | exact cM.1 | exact cM | exact cM.2.1 | exact cM.2 | exact cM.2.2.1 | exact cM.2.2 | exact cM.2.2.2.1 | exact cM.2.2.2 | exact cM.2.2.2.2.1 | exact cM.2.2.2.2 | exact cM.2.2.2.2.2.1 | exact cM.2.2.2.2.2 | exact cM.2.2.2.2.2.2.1 | exact cM.2.2.2.2.2.2 | exact cM.2.2.2.2.2.2.2.1 | exact cM.2.2.2.2.2.2.2 | exact cM.2.2.2.2.2.2.2.2.1 | exact cM.2.2.2.2.2.2.2.2 | exact cM.2.2.2.2.2.2.2.2.2.1 | exact cM.2.2.2.2.2.2.2.2.2 | exact cM.2.2.2.2.2.2.2.2.2.2.1 | exact cM.2.2.2.2.2.2.2.2.2.2 | exact cM.2.2.2.2.2.2.2.2.2.2.2.1 | exact cM.2.2.2.2.2.2.2.2.2.2.2 | exact cM.2.2.2.2.2.2.2.2.2.2.2.2.1 | exact cM.2.2.2.2.2.2.2.2.2.2.2.2 | exact cM.2.2.2.2.2.2.2.2.2.2.2.2.2.1 | exact cM.2.2.2.2.2.2.2.2.2.2.2.2.2
   rw [aM]
   have hvk := hv (aT (aT (aT h nb (dO p sz t c')) m (.row 1 ((vs.map fun s => [ints s]).map (List.map .v)))) m9 (.row 5 [l[k].c.map .v])) nb t c' l[k] env funcs (by rw [aC _ _ _ _ aK5, aC _ _ _ _ cS, aG]) ht (by omega) (hok _ (List.getElem_mem _)) eH hf henv (by omega)
   rw [aB.aR] at hvk
   refine aH.eM hvk ?_
   rintro r h' ⟨s, t2, c2, rfl, rfl, hs, h1, h2, h3⟩
   simp -dsimp -implicitDefEqProofs only [go_sem, ↓reduceIte, Tryz.f92, aC, dH, rQ, dI, aFD, rP, aFC]
   refine ⟨Nat.zero_lt_one, Nat.zero_lt_one, Nat.zero_lt_one, Nat.le_refl _, by omega, by omega, ?_⟩
   intro b aN
   have cY : ¬ b = nb := by first | exact aN.1 | exact aN | exact aN.2.1 | exact aN.2 | exact aN.2.2.1 | exact aN.2.2 | exact aN.2.2.2.1 | exact aN.2.2.2 | exact aN.2.2.2.2.1 | exact aN.2.2.2.2 | exact aN.2.2.2.2.2.1 | exact aN.2.2.2.2.2 | exact aN.2.2.2.2.2.2.1 | exact aN.2.2.2.2.2.2 | exact aN.2.2.2.2.2.2.2.1 | exact aN.2.2.2.2.2.2.2 | exact aN.2.2.2.2.2.2.2.2.1 | exact aN.2.2.2.2.2.2.2.2 | exact aN.2.2.2.2.2.2.2.2.2.1 | exact aN.2.2.2.2.2.2.2.2.2 | exact aN.2.2.2.2.2.2.2.2.2.2.1 | exact aN.2.2.2.2.2.2.2.2.2.2 | exact aN.2.2.2.2.2.2.2.2.2.2.2.1 | exact aN.2.2.2.2.2.2.2.2.2.2.2 | exact aN.2.2.2.2.2.2.2.2.2.2.2.2.1 | exact aN.2.2.2.2.2.2.2.2.2.2.2.2 | exact aN.2.2.2.2.2.2.2.2.2.2.2.2.2.1 | exact aN.2.2.2.2.2.2.2.2.2.2.2.2.2
   have gF : (b = nb) = False := eq_false cY
   have gG : (nb = b) = False := eq_false (Ne.symm cY)
   have gU : ¬ nb = b := Ne.symm cY
   have uV : ¬ b = m9 := by first | exact aN.1 | exact aN | exact aN.2.1 | exact aN.2 | exact aN.2.2.1 | exact aN.2.2 | exact aN.2.2.2.1 | exact aN.2.2.2 | exact aN.2.2.2.2.1 | exact aN.2.2.2.2 | exact aN.2.2.2.2.2.1 | exact aN.2.2.2.2.2 | exact aN.2.2.2.2.2.2.1 | exact aN.2.2.2.2.2.2 | exact aN.2.2.2.2.2.2.2.1 | exact aN.2.2.2.2.2.2.2 | exact aN.2.2.2.2.2.2.2.2.1 | exact aN.2.2.2.2.2.2.2.2 | exact aN.2.2.2.2.2.2.2.2.2.1 | exact aN.2.2.2.2.2.2.2.2.2 | exact aN.2.2.2.2.2.2.2.2.2.2.1 | exact aN.2.2.2.2.2.2.2.2.2.2 | exact aN.2.2.2.2.2.2.2.2.2.2.2.1 | exact aN.2.2.2.2.2.2.2.2.2.2.2 | exact aN.2.2.2.2.2.2.2.2.2.2.2.2.1 | exact aN.2.2.2.2.2.2.2.2.2.2.2.2 | exact aN.2.2.2.2.2.2.2.2.2.2.2.2.2.1 | exact aN.2.2.2.2.2.2.2.2.2.2.2.2.2
   have aG9 : (b = m9) = False := eq_false uV
   have aHA : (m9 = b) = False := eq_false (Ne.symm uV)
   have aQM : ¬ m9 = b := Ne.symm uV
   have fW : ¬ b = m := by first | exact aN.1 | exact aN | exact aN.2.1 | exact aN.2 | exact aN.2.2.1 | exact aN.2.2 | exact aN.2.2.2.1 | exact aN.2.2.2 | exact aN.2.2.2.2.1 | exact aN.2.2.2.2 | exact aN.2.2.2.2.2.1 | exact aN.2.2.2.2.2 | exact aN.2.2.2.2.2.2.1 | exact aN.2.2.2.2.2.2 | exact aN.2.2.2.2.2.2.2.1 | exact aN.2.2.2.2.2.2.2 | exact aN.2.2.2.2.2.2.2.2.1 | exact aN.2.2.2.2.2.2.2.2 | exact aN.2.2.2.2.2.2.2.2.2.1 | exact aN.2.2.2.2.2.2.2.2.2 | exact aN.2.2.2.2.2.2.2.2.2.2.1 | exact aN.2.2.2.2.2.2.2.2.2.2 | exact aN.2.2.2.2.2.2.2.2.2.2.2.1 | exact aN.2.2.2.2.2.2.2.2.2.2.2 | exact aN.2.2.2.2.2.2.2.2.2.2.2.2.1 | exact aN.2.2.2.2.2.2.2.2.2.2.2.2 | exact aN.2.2.2.2.2.2.2.2.2.2.2.2.2.1 | exact aN.2.2.2.2.2.2.2.2.2.2.2.2.2
   have kT : (b = m) = False := eq_false fW
   have kU : (m = b) = False := eq_false (Ne.symm fW)
   have mV : ¬ m = b := Ne.symm fW
   have z_b : h b = none := by first | exact aN.1 | exact aN | exact aN.2.1 | exact aN.2 | exact aN.2.2.1 | exact aN.2.2 | exact aN.2.2.2.1 | exact aN.2.2.2 | exact aN.2.2.2.2.1 | exact aN.2.2.2.2 | exact aN.2.2.2.2.2.1 | exact aN.2.2.2.2.2 | exact aN.2.2.2.2.2.2.1 | exact aN.2.2.2.2.2.2 | exact aN.2.2.2.2.2.2.2.1 | exact aN.2.2.2.2.2.2.2 | exact aN.2.2.2.2.2.2.2.2.1 | exact aN.2.2.2.2.2.2.2.2 | exact aN.2.2.2.2.2.2.2.2.2.1 | exact aN.2.2.2.2.2.2.2.2.2 | exact aN.2.2.2.2.2.2.2.2.2.2.1 | exact aN.2.2.2.2.2.2.2.2.2.2 | exact aN.2.2.2.2.2.2.2.2.2.2.2.1 | exact aN.2.2.2.2.2.2.2.2.2.2.2 | exact aN.2.2.2.2.2.2.2.2.2.2.2.2.1 | exact aN.2.2.2.2.2.2.2.2.2.2.2.2 | exact aN.2.2.2.2.2.2.2.2.2.2.2.2.2.1 | exact aN.2.2.2.2.2.2.2.2.2.2.2.2.2
   refine ⟨(k + 1, vs ++ [s], t2, c2, some b), ⟨by rw [aY, List.length_append]; rfl, by rw [IntWalk.i64_in _ (by omega)]; rfl⟩, ?_, ⟨by omega, by rw [List.length_append, hvl]; rfl, hall s hs, Nat.le_trans ht0 h1, h2, hnext s t2 c2 h3, z_b⟩, by simp only; omega⟩
   simp only [aJ]
   rw [← fO ints]
   exact (iD (by repeat' (first | exact fS _ _ | refine iE (by simp only [dP, ↓reduceIte, eq_self, if_true, aFD, gG, dI, aFC, aHA, rP, gF, aG9, kT, dH, rQ, kU]) ?_ | refine eY (by first | exact .inr (by assumption) | exact .inl (by simp)) ?_)))
 ·have hk' : k = l.length := by omega
  subst hk'
  rw [List.take_length] at ho
  cases o with
  |none =>
   rw [bH] at hos
   subst hos
   simp -dsimp -implicitDefEqProofs only [go_sem, ↓reduceIte, Tryz.f92, bU, aQ, Nat.lt_irrefl]
   exact ⟨fE [], _, Shift.of (Sub.loose _ _ _) (aA.le_refl _), [], t, c', rfl, rfl, hvl, hvs, ht0, ht, ho⟩
  |some m =>
   rw [aV] at hos
   simp -dsimp -implicitDefEqProofs only [go_sem, ↓reduceIte, Tryz.f92, aY, aJ, Nat.lt_irrefl]
   have hmn : ¬ m = nb := fun e => by rw [e, hb] at hos; cases hos
   exact ⟨fE vs, _, sK (vs.map fun s => [ints s]) (h := aT h nb (dO p sz t c')) (by rw [aC _ _ _ _ hmn, hos]) (aA.le_refl _) _ (by rw [List.length_map]), vs, t, c', rfl, rfl, hvl, hvs, ht0, ht, ho⟩
end Go.Hl

/-
  Proved: the law FnExactNewtonStep returns true at all arguments, and each argument reads behind the call as before. No condition beyond the given row.
-/
import Derived.Test.YtoomflalicffnaaGreatVvI
import Derived.Test.YtoomflalicffnaaGreatRows
namespace Go.Hl
set_option maxRecDepth 100000
open Go.Proofs
set_option linter.unusedVariables false
set_option linter.unusedSimpArgs false
theorem aB4 {xs : List aC} (h : aK6 Tryz.prog Tryz.f4.params.toList xs) : fE Tryz.prog 4 xs nZ fun r _ => r = .bool true := by
 have h : aK6 Tryz.prog [24, 2, 27] xs := h
 match xs, h with
 | [v0, v1, v2], h =>
  obtain ⟨⟨m0, h0⟩, ⟨m1, h1⟩, ⟨m2, h2⟩, _⟩ := h
  simp only [aF9, Tryz.underlying24] at h0
  obtain ⟨ys0, rfl, h0⟩ := h0
  obtain ⟨a0, rfl, w0⟩ := a6V h0
  simp only [aF9, Tryz.underlying2] at h1
  obtain ⟨a1, e1, w1⟩ := uC Tryz.underlying2 h1
  obtain rfl := (List.cons.inj e1).1
  simp only [aF9, Tryz.underlying27] at h2
  obtain ⟨a2, e2, w2⟩ := sP (c := (fun x => [cY 1 (fun n => [I n]) x])) (w := (fun x => (∀ y ∈ x, InI y))) Tryz.underlying27 a1L h2 (fun m y hm hy => sP (c := (fun n => [I n])) (w := (fun x => InI x)) Tryz.underlying25 aA5 hy (fun m z hm hz => uC Tryz.underlying2 hz))
  obtain rfl := (List.cons.inj e2).1
  exact uR a0 a1 a2 nZ
end Go.Hl
namespace Go.Proofs.YtoomflalicffnaaGreat
open Go.Hl
theorem xZ (os : Os) (started : os.Started) (H : Type) (enc : TypeId × Value → H) :
  ReturnsInHanded {} Tryz.checked os 4 .any (Rows.fnExactNewtonStepSpec.pre6 enc Tryz.prog Tryz.f4 [] false) (Rows.fnExactNewtonStepSpec.post enc Tryz.prog Tryz.f4 false true false false) :=
 aH7 (C := Tryz.checked) (by kernel_rfl) started (by kernel_rfl) Tryz.func4
  (ChangeSpec.witness6 (enc := enc) (C := Tryz.checked) false ⟨#[], #[.agg #[.slice none 0 0], (.int .i64 0), (.slice none 0 0)], []⟩ 8 (by kernel_rfl) (by kernel_rfl) (by kernel_rfl) (by kernel_rfl))
  (by kernel_rfl) (by kernel_rfl) (by kernel_rfl) bCC a1N (by kernel_rfl) rfl (fun ds h => match ds, h with | [_, _, _], _ => rfl) (tb := 4) rfl Tryz.underlying4 fun xs h => aB4 h
/-- Each closed fact of the row by itself: the memory of the kernel is freed between them. -/
theorem a6W {a b : Bool} (ha : a = true) (hb : b = true) : (a && b) = true := by rw [ha, hb]; rfl
theorem aA6 : Tryz.pinned.checked.prog.funcNamed Rows.fnExactNewtonStepRow.func = some 4 := by kernel_rfl
set_option maxHeartbeats 100000000 in
theorem zV : joinedFacts Tryz.pinned.checked.prog 4 Tryz.f4 Rows.fnExactNewtonStepSpec Rows.fnExactNewtonStepRow = true := by
 unfold joinedFacts
 repeat' (with_reducible refine a6W ?_ ?_)
 all_goals as_aux_lemma => kernel_rfl
theorem newtonStep_holds : Rows.FnExactNewtonStepSaid :=
 OpenClaim.holds_of_wide 4 Tryz.f4 rfl rfl rfl rfl rfl rfl rfl ⟨rfl, rfl, rfl, rfl, rfl⟩ rfl rfl rfl rfl rfl aA6 Tryz.func4 zV
  (of_decide_eq_true (by kernel_rfl)) (by unfold Func.isWrapper; first | (rw [if_pos (by decide +kernel)]; kernel_rfl) | (rw [if_neg (by decide +kernel)]; exact ⟨rfl, rfl⟩))
  (fun os started H enc _ => xZ os started H enc)
#print axioms newtonStep_holds
end Go.Proofs.YtoomflalicffnaaGreat
namespace Go.Hl
end Go.Hl

/-
  Proved: the law FnExactUntouched returns true at all arguments, and each argument reads behind the call as before. No condition beyond the given row.
-/
import Derived.Test.YthcfmnldhokmiaaGreatVvH
import Derived.Test.YthcfmnldhokmiaaGreatRows
namespace Go.Hl
open Go.Proofs
set_option linter.unusedVariables false
set_option linter.unusedSimpArgs false
set_option maxRecDepth 100000 in
theorem untouched_args {xs : List HVal} (h : ArgsD Tryz.prog Tryz.f6.params.toList xs) : Fn0 Tryz.prog 6 xs (.bool true) := by
  have h : ArgsD Tryz.prog [28, 2, 25] xs := h
  match xs, h with
  | [v0, v1, v2], h =>
    obtain ⟨⟨m0, h0⟩, ⟨m1, h1⟩, ⟨m2, h2⟩, _⟩ := h
    simp only [ArgD, Tryz.underlying28] at h0
    obtain ⟨ys0, rfl, h0⟩ := h0
    obtain ⟨a0, rfl, w0⟩ := dat_28 h0
    simp only [ArgD, Tryz.underlying2] at h1
    obtain ⟨a1, e1, w1⟩ := dat_i64 Tryz.underlying2 h1
    obtain rfl := (List.cons.inj e1).1
    simp only [ArgD, Tryz.underlying25] at h2
    obtain ⟨a2, e2, w2⟩ := dat_slice (c := (fun n => [I n])) (w := (fun x => InI x)) Tryz.underlying25 cells2 h2 (fun m y hm hy => dat_i64 Tryz.underlying2 hy)
    obtain rfl := (List.cons.inj e2).1
    exact law_Untouched a0 a1 a2
end Go.Hl
namespace Go.Proofs.YthcfmnldhokmiaaGreat
open Go.Hl
set_option maxRecDepth 100000 in
theorem untouched_returns (os : Os) (started : os.Started) (H : Type) (enc : TypeId × Value → H) :
    ReturnsInHanded {} Tryz.checked os 6 .any (Rows.fnExactUntouchedSpec.pre6 enc Tryz.prog Tryz.f6 [] false) (Rows.fnExactUntouchedSpec.post enc Tryz.prog Tryz.f6 false true false false) :=
  law_returns (C := Tryz.checked) (by kernel_rfl) started (by kernel_rfl) Tryz.func6
    (ChangeSpec.witness6 (enc := enc) (C := Tryz.checked) false ⟨#[], #[.agg #[.slice none 0 0, .int .i64 0, .int .i64 0, .slice none 0 0, .slice none 0 0], (.int .i64 0), (.slice none 0 0)], []⟩ 8 (by kernel_rfl) (by kernel_rfl) (by kernel_rfl) (by kernel_rfl))
    (by kernel_rfl) (by kernel_rfl) (by kernel_rfl) datT datT_ok (by kernel_rfl) rfl (fun ds h => match ds, h with | [_, _, _], _ => rfl) (tb := 4) rfl Tryz.underlying4 fun xs h => untouched_args h
/-- Each closed fact of the row by itself: the memory of the kernel is freed between them. -/
theorem and_tt {a b : Bool} (ha : a = true) (hb : b = true) : (a && b) = true := by rw [ha, hb]; rfl
set_option maxRecDepth 100000 in
theorem untouched_named : Tryz.pinned.checked.prog.funcNamed Rows.fnExactUntouchedRow.func = some 6 := by kernel_rfl
set_option maxRecDepth 100000 in
set_option maxHeartbeats 100000000 in
theorem untouched_closed : joinedFacts Tryz.pinned.checked.prog 6 Tryz.f6 Rows.fnExactUntouchedSpec Rows.fnExactUntouchedRow = true := by
  unfold joinedFacts
  repeat' (with_reducible refine and_tt ?_ ?_)
  all_goals as_aux_lemma => kernel_rfl
theorem untouched_holds : Rows.FnExactUntouchedSaid :=
  OpenClaim.holds_of_wide 6 Tryz.f6 rfl rfl rfl rfl rfl rfl rfl ⟨rfl, rfl, rfl, rfl, rfl⟩ rfl rfl rfl rfl rfl untouched_named Tryz.func6 untouched_closed
    (of_decide_eq_true (by kernel_rfl)) (by unfold Func.isWrapper; first | (rw [if_pos (by decide +kernel)]; kernel_rfl) | (rw [if_neg (by decide +kernel)]; exact ⟨rfl, rfl⟩))
    (fun os started H enc _ => untouched_returns os started H enc)
#print axioms untouched_holds
end Go.Proofs.YthcfmnldhokmiaaGreat
namespace Go.Hl


end Go.Hl

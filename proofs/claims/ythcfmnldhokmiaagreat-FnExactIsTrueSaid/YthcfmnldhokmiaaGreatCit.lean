/-
  Proved: the law FnExactIsTrue returns true at all arguments, and each argument reads behind the call as before. No condition beyond the given row.
-/
import Derived.Test.YthcfmnldhokmiaaGreatVvG
import Derived.Test.YthcfmnldhokmiaaGreatRows
namespace Go.Hl
open Go.Proofs
set_option linter.unusedVariables false
set_option linter.unusedSimpArgs false
set_option maxRecDepth 100000 in
theorem isTrue_args {xs : List HVal} (h : ArgsD Tryz.prog Tryz.f5.params.toList xs) : Fn0 Tryz.prog 5 xs (.bool true) := by
  have h : ArgsD Tryz.prog [53] xs := h
  match xs, h with
  | [v0], h =>
    obtain ⟨⟨m0, h0⟩, _⟩ := h
    simp only [ArgD, Tryz.underlying53] at h0
    obtain ⟨ys0, rfl, h0⟩ := h0
    obtain ⟨a0, rfl, w0⟩ := dat_53 h0
    exact law_IsTrue a0
end Go.Hl
namespace Go.Proofs.YthcfmnldhokmiaaGreat
open Go.Hl
set_option maxRecDepth 100000 in
theorem isTrue_returns (os : Os) (started : os.Started) (H : Type) (enc : TypeId × Value → H) :
    ReturnsInHanded {} Tryz.checked os 5 .any (Rows.fnExactIsTrueSpec.pre6 enc Tryz.prog Tryz.f5 [] false) (Rows.fnExactIsTrueSpec.post enc Tryz.prog Tryz.f5 false true false false) :=
  law_returns (C := Tryz.checked) (by kernel_rfl) started (by kernel_rfl) Tryz.func5
    (ChangeSpec.witness6 (enc := enc) (C := Tryz.checked) false ⟨#[], #[.agg #[.slice none 0 0, .int .i64 0, .int .i64 0, .slice none 0 0, .slice none 0 0, .slice none 0 0, .slice none 0 0, .slice none 0 0, .slice none 0 0]], []⟩ 8 (by kernel_rfl) (by kernel_rfl) (by kernel_rfl) (by kernel_rfl))
    (by kernel_rfl) (by kernel_rfl) (by kernel_rfl) datT datT_ok (by kernel_rfl) rfl (fun ds h => match ds, h with | [_], _ => rfl) (tb := 4) rfl Tryz.underlying4 fun xs h => isTrue_args h
/-- Each closed fact of the row by itself: the memory of the kernel is freed between them. -/
theorem and_tt {a b : Bool} (ha : a = true) (hb : b = true) : (a && b) = true := by rw [ha, hb]; rfl
set_option maxRecDepth 100000 in
theorem isTrue_named : Tryz.pinned.checked.prog.funcNamed Rows.fnExactIsTrueRow.func = some 5 := by kernel_rfl
set_option maxRecDepth 100000 in
set_option maxHeartbeats 100000000 in
theorem isTrue_closed : joinedFacts Tryz.pinned.checked.prog 5 Tryz.f5 Rows.fnExactIsTrueSpec Rows.fnExactIsTrueRow = true := by
  unfold joinedFacts
  repeat' (with_reducible refine and_tt ?_ ?_)
  all_goals as_aux_lemma => kernel_rfl
theorem isTrue_holds : Rows.FnExactIsTrueSaid :=
  OpenClaim.holds_of_wide 5 Tryz.f5 rfl rfl rfl rfl rfl rfl rfl ⟨rfl, rfl, rfl, rfl, rfl⟩ rfl rfl rfl rfl rfl isTrue_named Tryz.func5 isTrue_closed
    (of_decide_eq_true (by kernel_rfl)) (by unfold Func.isWrapper; first | (rw [if_pos (by decide +kernel)]; kernel_rfl) | (rw [if_neg (by decide +kernel)]; exact ⟨rfl, rfl⟩))
    (fun os started H enc _ => isTrue_returns os started H enc)
#print axioms isTrue_holds
end Go.Proofs.YthcfmnldhokmiaaGreat
namespace Go.Hl


end Go.Hl

/-
  Proved: the law FnExactTotalOf returns true at all arguments, and each argument reads behind the call as before. No condition beyond the given row.
-/
import Derived.Test.YthcfmnldhokmiaaGreatVvG
import Derived.Test.YthcfmnldhokmiaaGreatRows
namespace Go.Hl
open Go.Proofs
set_option linter.unusedVariables false
set_option linter.unusedSimpArgs false
set_option maxRecDepth 100000 in
theorem totalOf_args {xs : List HVal} (h : ArgsD Tryz.prog Tryz.f4.params.toList xs) : HFn Tryz.prog 4 xs noRows fun r _ => r = .bool true := by
  have h : ArgsD Tryz.prog [28] xs := h
  match xs, h with
  | [v0], h =>
    obtain ⟨⟨m0, h0⟩, _⟩ := h
    simp only [ArgD, Tryz.underlying28] at h0
    obtain ⟨ys0, rfl, h0⟩ := h0
    obtain ⟨a0, rfl, w0⟩ := dat_28 h0
    exact law_FnExactTotalOf a0 noRows
end Go.Hl
namespace Go.Proofs.YthcfmnldhokmiaaGreat
open Go.Hl
set_option maxRecDepth 100000 in
theorem totalOf_returns (os : Os) (started : os.Started) (H : Type) (enc : TypeId × Value → H) :
    ReturnsInHanded {} Tryz.checked os 4 .any (Rows.fnExactTotalOfSpec.pre6 enc Tryz.prog Tryz.f4 [] false) (Rows.fnExactTotalOfSpec.post enc Tryz.prog Tryz.f4 false true false false) :=
  law_returnsH (C := Tryz.checked) (by kernel_rfl) started (by kernel_rfl) Tryz.func4
    (ChangeSpec.witness6 (enc := enc) (C := Tryz.checked) false ⟨#[], #[.agg #[.slice none 0 0, .int .i64 0, .int .i64 0, .slice none 0 0, .slice none 0 0]], []⟩ 8 (by kernel_rfl) (by kernel_rfl) (by kernel_rfl) (by kernel_rfl))
    (by kernel_rfl) (by kernel_rfl) (by kernel_rfl) datT datT_ok (by kernel_rfl) rfl (fun ds h => match ds, h with | [_], _ => rfl) (tb := 4) rfl Tryz.underlying4 fun xs h => totalOf_args h
/-- Each closed fact of the row by itself: the memory of the kernel is freed between them. -/
theorem and_tt {a b : Bool} (ha : a = true) (hb : b = true) : (a && b) = true := by rw [ha, hb]; rfl
set_option maxRecDepth 100000 in
theorem totalOf_named : Tryz.pinned.checked.prog.funcNamed Rows.fnExactTotalOfRow.func = some 4 := by kernel_rfl
set_option maxRecDepth 100000 in
set_option maxHeartbeats 100000000 in
theorem totalOf_closed : joinedFacts Tryz.pinned.checked.prog 4 Tryz.f4 Rows.fnExactTotalOfSpec Rows.fnExactTotalOfRow = true := by
  unfold joinedFacts
  repeat' (with_reducible refine and_tt ?_ ?_)
  all_goals as_aux_lemma => kernel_rfl
theorem totalOf_holds : Rows.FnExactTotalOfSaid :=
  OpenClaim.holds_of_wide 4 Tryz.f4 rfl rfl rfl rfl rfl rfl rfl ⟨rfl, rfl, rfl, rfl, rfl⟩ rfl rfl rfl rfl rfl totalOf_named Tryz.func4 totalOf_closed
    (of_decide_eq_true (by kernel_rfl)) (by unfold Func.isWrapper; first | (rw [if_pos (by decide +kernel)]; kernel_rfl) | (rw [if_neg (by decide +kernel)]; exact ⟨rfl, rfl⟩))
    (fun os started H enc _ => totalOf_returns os started H enc)
#print axioms totalOf_holds
end Go.Proofs.YthcfmnldhokmiaaGreat
namespace Go.Hl

end Go.Hl

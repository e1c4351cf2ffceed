/-
  Proved: the law FnExactNewService returns true at all arguments, and each argument reads behind the call as before. No condition beyond the given row.
-/
import Derived.Test.YthgfmobhhdmkpaaVvH
import Derived.Test.YthgfmobhhdmkpaaRows
namespace Go.Hl
open Go.Proofs
set_option linter.unusedVariables false
set_option linter.unusedSimpArgs false
set_option maxRecDepth 100000 in
theorem newService_args {xs : List HVal} (h : ArgsD Try.prog Try.f5.params.toList xs) : HFn Try.prog 5 xs noRows fun r _ => r = .bool true := by
  have h : ArgsD Try.prog [28] xs := h
  match xs, h with
  | [v0], h =>
    obtain ⟨⟨m0, h0⟩, _⟩ := h
    simp only [ArgD, Try.underlying28] at h0
    obtain ⟨ys0, rfl, h0⟩ := h0
    obtain ⟨a0, rfl, w0⟩ := dat_28 h0
    exact law_FnExactNewService a0 noRows
end Go.Hl
namespace Go.Proofs.Ythgfmobhhdmkpaa
open Go.Hl
set_option maxRecDepth 100000 in
theorem newService_returns (os : Os) (started : os.Started) (H : Type) (enc : TypeId × Value → H) :
    ReturnsInHanded {} Try.checked os 5 .any (Rows.fnExactNewServiceSpec.pre6 enc Try.prog Try.f5 [] false) (Rows.fnExactNewServiceSpec.post enc Try.prog Try.f5 false true false false) :=
  law_returnsH (C := Try.checked) (by kernel_rfl) started (by kernel_rfl) Try.func5
    (ChangeSpec.witness6 (enc := enc) (C := Try.checked) false ⟨#[], #[.agg #[.slice none 0 0, .int .i64 0, .int .i64 0, .slice none 0 0, .slice none 0 0]], []⟩ 8 (by kernel_rfl) (by kernel_rfl) (by kernel_rfl) (by kernel_rfl))
    (by kernel_rfl) (by kernel_rfl) (by kernel_rfl) datT datT_ok (by kernel_rfl) rfl (fun ds h => match ds, h with | [_], _ => rfl) (tb := 4) rfl Try.underlying4 fun xs h => newService_args h
theorem newService_holds : Rows.FnExactNewServiceSaid :=
  OpenClaim.holds_of_wide 5 Try.f5 rfl rfl rfl rfl rfl rfl rfl ⟨rfl, rfl, rfl, rfl, rfl⟩ rfl rfl rfl rfl rfl (by kernel_rfl) Try.func5 (by kernel_rfl)
    (of_decide_eq_true (by kernel_rfl)) (by unfold Func.isWrapper; first | (rw [if_pos (by decide +kernel)]; kernel_rfl) | (rw [if_neg (by decide +kernel)]; exact ⟨rfl, rfl⟩))
    (fun os started H enc _ => newService_returns os started H enc)
#print axioms newService_holds
end Go.Proofs.Ythgfmobhhdmkpaa
namespace Go.Hl


end Go.Hl

/-
  Proved: the law FnExactSumOf returns true at all arguments, and each argument reads behind the call as before. No condition beyond the given row.
-/
import Derived.Test.YthgfmobhhdmkpaaGreatVvD
import Derived.Test.YthgfmobhhdmkpaaGreatRows
namespace Go.Hl
open Go.Proofs
set_option linter.unusedVariables false
set_option linter.unusedSimpArgs false
set_option maxRecDepth 100000 in
theorem sumOf_args {xs : List HVal} (h : ArgsD Tryz.prog Tryz.f3.params.toList xs) : HFn Tryz.prog 3 xs noRows fun r _ => r = .bool true := by
  have h : ArgsD Tryz.prog [32] xs := h
  match xs, h with
  | [v0], h =>
    obtain ⟨⟨m0, h0⟩, _⟩ := h
    simp only [ArgD, Tryz.underlying32] at h0
    obtain ⟨ys0, rfl, h0⟩ := h0
    obtain ⟨a0, rfl, w0⟩ := dat_32 h0
    exact law_FnExactSumOf a0 noRows
end Go.Hl
namespace Go.Proofs.YthgfmobhhdmkpaaGreat
open Go.Hl
set_option maxRecDepth 100000 in
theorem sumOf_returns (os : Os) (started : os.Started) (H : Type) (enc : TypeId × Value → H) :
    ReturnsInHanded {} Tryz.checked os 3 .any (Rows.fnExactSumOfSpec.pre6 enc Tryz.prog Tryz.f3 [] false) (Rows.fnExactSumOfSpec.post enc Tryz.prog Tryz.f3 false true false false) :=
  law_returnsH (C := Tryz.checked) (by kernel_rfl) started (by kernel_rfl) Tryz.func3
    (ChangeSpec.witness6 (enc := enc) (C := Tryz.checked) false ⟨#[], #[.agg #[.slice none 0 0, .int .i64 0, .int .i64 0, .slice none 0 0, .slice none 0 0, .slice none 0 0, .slice none 0 0, .slice none 0 0, .slice none 0 0]], []⟩ 8 (by kernel_rfl) (by kernel_rfl) (by kernel_rfl) (by kernel_rfl))
    (by kernel_rfl) (by kernel_rfl) (by kernel_rfl) datT datT_ok (by kernel_rfl) rfl (fun ds h => match ds, h with | [_], _ => rfl) (tb := 4) rfl Tryz.underlying4 fun xs h => sumOf_args h
theorem sumOf_holds : Rows.FnExactSumOfSaid :=
  OpenClaim.holds_of_wide 3 Tryz.f3 rfl rfl rfl rfl rfl rfl rfl ⟨rfl, rfl, rfl, rfl, rfl⟩ rfl rfl rfl rfl rfl (by kernel_rfl) Tryz.func3 (by kernel_rfl)
    (of_decide_eq_true (by kernel_rfl)) (by unfold Func.isWrapper; first | (rw [if_pos (by decide +kernel)]; kernel_rfl) | (rw [if_neg (by decide +kernel)]; exact ⟨rfl, rfl⟩))
    (fun os started H enc _ => sumOf_returns os started H enc)
#print axioms sumOf_holds
end Go.Proofs.YthgfmobhhdmkpaaGreat
namespace Go.Hl


end Go.Hl

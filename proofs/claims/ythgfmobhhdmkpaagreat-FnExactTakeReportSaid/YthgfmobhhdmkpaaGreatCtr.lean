/-
  Proved: the law FnExactTakeReport returns true at all arguments, and each argument reads behind the call as before. No condition beyond the given row.
-/
import Derived.Test.YthgfmobhhdmkpaaGreatVvI
import Derived.Test.YthgfmobhhdmkpaaGreatRows
namespace Go.Hl
open Go.Proofs
set_option linter.unusedVariables false
set_option linter.unusedSimpArgs false
set_option maxRecDepth 100000 in
theorem takeReport_args {xs : List HVal} (h : ArgsD Tryz.prog Tryz.f8.params.toList xs) : HFn Tryz.prog 8 xs noRows fun r _ => r = .bool true := by
  have h : ArgsD Tryz.prog [32, 74] xs := h
  match xs, h with
  | [v0, v1], h =>
    obtain ⟨⟨m0, h0⟩, ⟨m1, h1⟩, _⟩ := h
    simp only [ArgD, Tryz.underlying32] at h0
    obtain ⟨ys0, rfl, h0⟩ := h0
    obtain ⟨a0, rfl, w0⟩ := dat_32 h0
    simp only [ArgD, Tryz.underlying74] at h1
    obtain ⟨ys1, rfl, h1⟩ := h1
    obtain ⟨a1, rfl, w1⟩ := dat_74 h1
    exact law_FnExactTakeReport a0 a1 noRows
end Go.Hl
namespace Go.Proofs.YthgfmobhhdmkpaaGreat
open Go.Hl
set_option maxRecDepth 100000 in
theorem takeReport_returns (os : Os) (started : os.Started) (H : Type) (enc : TypeId × Value → H) :
    ReturnsInHanded {} Tryz.checked os 8 .any (Rows.fnExactTakeReportSpec.pre6 enc Tryz.prog Tryz.f8 [] false) (Rows.fnExactTakeReportSpec.post enc Tryz.prog Tryz.f8 false true false false) :=
  law_returnsH (C := Tryz.checked) (by kernel_rfl) started (by kernel_rfl) Tryz.func8
    (ChangeSpec.witness6 (enc := enc) (C := Tryz.checked) false ⟨#[], #[.agg #[.slice none 0 0, .int .i64 0, .int .i64 0, .slice none 0 0, .slice none 0 0, .slice none 0 0, .slice none 0 0, .slice none 0 0, .slice none 0 0], .agg #[.int .i64 0, .int .i64 0, .int .i64 0, .int .i64 0, .slice none 0 0]], []⟩ 8 (by kernel_rfl) (by kernel_rfl) (by kernel_rfl) (by kernel_rfl))
    (by kernel_rfl) (by kernel_rfl) (by kernel_rfl) datT datT_ok (by kernel_rfl) rfl (fun ds h => match ds, h with | [_, _], _ => rfl) (tb := 4) rfl Tryz.underlying4 fun xs h => takeReport_args h
theorem takeReport_holds : Rows.FnExactTakeReportSaid :=
  OpenClaim.holds_of_wide 8 Tryz.f8 rfl rfl rfl rfl rfl rfl rfl ⟨rfl, rfl, rfl, rfl, rfl⟩ rfl rfl rfl rfl rfl (by kernel_rfl) Tryz.func8 (by kernel_rfl)
    (of_decide_eq_true (by kernel_rfl)) (by unfold Func.isWrapper; first | (rw [if_pos (by decide +kernel)]; kernel_rfl) | (rw [if_neg (by decide +kernel)]; exact ⟨rfl, rfl⟩))
    (fun os started H enc _ => takeReport_returns os started H enc)
#print axioms takeReport_holds
end Go.Proofs.YthgfmobhhdmkpaaGreat
namespace Go.Hl

end Go.Hl

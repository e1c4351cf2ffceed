/-
  Proved: the law FnExactNewNet returns true at all arguments, and each argument reads behind the call as before. No condition beyond the given row.
-/
import Derived.Test.YthgfmobhhdmkpaaGreatVvH
import Derived.Test.YthgfmobhhdmkpaaGreatVvI
import Derived.Test.YthgfmobhhdmkpaaGreatRows
namespace Go.Hl
open Go.Proofs
set_option linter.unusedVariables false
set_option linter.unusedSimpArgs false
set_option maxRecDepth 100000 in
theorem newNet_args {xs : List HVal} (h : ArgsD Tryz.prog Tryz.f4.params.toList xs) : HFn Tryz.prog 4 xs noRows fun r _ => r = .bool true := by
  have h : ArgsD Tryz.prog [28, 2] xs := h
  match xs, h with
  | [v0, v1], h =>
    obtain ⟨⟨m0, h0⟩, ⟨m1, h1⟩, _⟩ := h
    simp only [ArgD, Tryz.underlying28] at h0
    obtain ⟨ys0, rfl, h0⟩ := h0
    obtain ⟨a0, rfl, w0⟩ := dat_28 h0
    simp only [ArgD, Tryz.underlying2] at h1
    obtain ⟨a1, e1, w1⟩ := dat_i64 Tryz.underlying2 h1
    obtain rfl := (List.cons.inj e1).1
    exact law_FnExactNewNet a0 a1 noRows
end Go.Hl
namespace Go.Proofs.YthgfmobhhdmkpaaGreat
open Go.Hl
set_option maxRecDepth 100000 in
theorem newNet_returns (os : Os) (started : os.Started) (H : Type) (enc : TypeId × Value → H) :
    ReturnsInHanded {} Tryz.checked os 4 .any (Rows.fnExactNewNetSpec.pre6 enc Tryz.prog Tryz.f4 [] false) (Rows.fnExactNewNetSpec.post enc Tryz.prog Tryz.f4 false true false false) :=
  law_returnsH (C := Tryz.checked) (by kernel_rfl) started (by kernel_rfl) Tryz.func4
    (ChangeSpec.witness6 (enc := enc) (C := Tryz.checked) false ⟨#[], #[.agg #[.slice none 0 0, .int .i64 0, .int .i64 0, .slice none 0 0, .slice none 0 0], (.int .i64 0)], []⟩ 8 (by kernel_rfl) (by kernel_rfl) (by kernel_rfl) (by kernel_rfl))
    (by kernel_rfl) (by kernel_rfl) (by kernel_rfl) datT datT_ok (by kernel_rfl) rfl (fun ds h => match ds, h with | [_, _], _ => rfl) (tb := 4) rfl Tryz.underlying4 fun xs h => newNet_args h
theorem newNet_holds : Rows.FnExactNewNetSaid :=
  OpenClaim.holds_of_wide 4 Tryz.f4 rfl rfl rfl rfl rfl rfl rfl ⟨rfl, rfl, rfl, rfl, rfl⟩ rfl rfl rfl rfl rfl (by kernel_rfl) Tryz.func4 (by kernel_rfl)
    (of_decide_eq_true (by kernel_rfl)) (by unfold Func.isWrapper; first | (rw [if_pos (by decide +kernel)]; kernel_rfl) | (rw [if_neg (by decide +kernel)]; exact ⟨rfl, rfl⟩))
    (fun os started H enc _ => newNet_returns os started H enc)
#print axioms newNet_holds
end Go.Proofs.YthgfmobhhdmkpaaGreat
namespace Go.Hl


end Go.Hl

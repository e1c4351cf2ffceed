/-
  Proved: the law FnExactChangeTerm returns true at all arguments, and each argument reads behind the call as before. No condition beyond the given row.
-/
import Derived.Test.YthgfmobhhdmkpaaGreatVvI
import Derived.Test.YthgfmobhhdmkpaaGreatRows
namespace Go.Hl
open Go.Proofs
set_option linter.unusedVariables false
set_option linter.unusedSimpArgs false
set_option maxRecDepth 100000 in
theorem changeTerm_args {xs : List HVal} (h : ArgsD Tryz.prog Tryz.f7.params.toList xs) : HFn Tryz.prog 7 xs noRows fun r _ => r = .bool true := by
  have h : ArgsD Tryz.prog [32, 2, 25] xs := h
  match xs, h with
  | [v0, v1, v2], h =>
    obtain ⟨⟨m0, h0⟩, ⟨m1, h1⟩, ⟨m2, h2⟩, _⟩ := h
    simp only [ArgD, Tryz.underlying32] at h0
    obtain ⟨ys0, rfl, h0⟩ := h0
    obtain ⟨a0, rfl, w0⟩ := dat_32 h0
    simp only [ArgD, Tryz.underlying2] at h1
    obtain ⟨a1, e1, w1⟩ := dat_i64 Tryz.underlying2 h1
    obtain rfl := (List.cons.inj e1).1
    simp only [ArgD, Tryz.underlying25] at h2
    obtain ⟨a2, e2, w2⟩ := dat_slice (c := (fun n => [I n])) (w := (fun x => InI x)) Tryz.underlying25 cells2 h2 (fun m y hm hy => dat_i64 Tryz.underlying2 hy)
    obtain rfl := (List.cons.inj e2).1
    exact law_FnExactChangeTerm a0 a1 a2 noRows
end Go.Hl
namespace Go.Proofs.YthgfmobhhdmkpaaGreat
open Go.Hl
set_option maxRecDepth 100000 in
theorem changeTerm_returns (os : Os) (started : os.Started) (H : Type) (enc : TypeId × Value → H) :
    ReturnsInHanded {} Tryz.checked os 7 .any (Rows.fnExactChangeTermSpec.pre6 enc Tryz.prog Tryz.f7 [] false) (Rows.fnExactChangeTermSpec.post enc Tryz.prog Tryz.f7 false true false false) :=
  law_returnsH (C := Tryz.checked) (by kernel_rfl) started (by kernel_rfl) Tryz.func7
    (ChangeSpec.witness6 (enc := enc) (C := Tryz.checked) false ⟨#[], #[.agg #[.slice none 0 0, .int .i64 0, .int .i64 0, .slice none 0 0, .slice none 0 0, .slice none 0 0, .slice none 0 0, .slice none 0 0, .slice none 0 0], (.int .i64 0), (.slice none 0 0)], []⟩ 8 (by kernel_rfl) (by kernel_rfl) (by kernel_rfl) (by kernel_rfl))
    (by kernel_rfl) (by kernel_rfl) (by kernel_rfl) datT datT_ok (by kernel_rfl) rfl (fun ds h => match ds, h with | [_, _, _], _ => rfl) (tb := 4) rfl Tryz.underlying4 fun xs h => changeTerm_args h
theorem changeTerm_holds : Rows.FnExactChangeTermSaid :=
  OpenClaim.holds_of_wide 7 Tryz.f7 rfl rfl rfl rfl rfl rfl rfl ⟨rfl, rfl, rfl, rfl, rfl⟩ rfl rfl rfl rfl rfl (by kernel_rfl) Tryz.func7 (by kernel_rfl)
    (of_decide_eq_true (by kernel_rfl)) (by unfold Func.isWrapper; first | (rw [if_pos (by decide +kernel)]; kernel_rfl) | (rw [if_neg (by decide +kernel)]; exact ⟨rfl, rfl⟩))
    (fun os started H enc _ => changeTerm_returns os started H enc)
#print axioms changeTerm_holds
end Go.Proofs.YthgfmobhhdmkpaaGreat
namespace Go.Hl


end Go.Hl

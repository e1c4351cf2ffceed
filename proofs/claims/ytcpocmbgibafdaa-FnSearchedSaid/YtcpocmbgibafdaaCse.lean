/-
  Proved: the law FnSearched returns true at all arguments, and each argument reads behind the call as before. No condition beyond the given row.
-/
import Derived.Test.YtcpocmbgibafdaaVvC
import Derived.Test.YtcpocmbgibafdaaRows
namespace Go.Hl
open Go.Proofs
set_option linter.unusedVariables false
set_option linter.unusedSimpArgs false
set_option maxRecDepth 100000 in
theorem fnSearched_args {xs : List HVal} (h : ArgsD Try.prog Try.f4.params.toList xs) : Fn0 Try.prog 4 xs (.bool true) := by
  have h : ArgsD Try.prog [28] xs := h
  match xs, h with
  | [v0], h =>
    obtain ⟨⟨m0, h0⟩, _⟩ := h
    simp only [ArgD, Try.underlying28] at h0
    obtain ⟨a0, e0, w0⟩ := dat_slice (c := (fun n => [.int .u8 n])) (w := (fun x => InB x)) Try.underlying28 cells5 h0 (fun m y hm hy => dat_u8 Try.underlying5 hy)
    obtain rfl := (List.cons.inj e0).1
    exact lawSe w0
end Go.Hl
namespace Go.Proofs.Ytcpocmbgibafdaa
open Go.Hl
set_option maxRecDepth 100000 in
theorem fnSearched_returns (os : Os) (started : os.Started) (H : Type) (enc : TypeId × Value → H) :
    ReturnsInHanded {} Try.checked os 4 .any (Rows.fnSearchedSpec.pre6 enc Try.prog Try.f4 [] false) (Rows.fnSearchedSpec.post enc Try.prog Try.f4 false true false false) :=
  law_returns (C := Try.checked) (by kernel_rfl) started (by kernel_rfl) Try.func4
    (ChangeSpec.witness6 (enc := enc) (C := Try.checked) false ⟨#[], #[(.slice none 0 0)], []⟩ 8 (by kernel_rfl) (by kernel_rfl) (by kernel_rfl) (by kernel_rfl))
    (by kernel_rfl) (by kernel_rfl) (by kernel_rfl) datT datT_ok (by kernel_rfl) rfl (fun ds h => match ds, h with | [_], _ => rfl) (tb := 4) rfl Try.underlying4 fun xs h => fnSearched_args h
/-- Each closed fact of the row by itself: the memory of the kernel is freed between them. -/
theorem and_tt {a b : Bool} (ha : a = true) (hb : b = true) : (a && b) = true := by rw [ha, hb]; rfl
set_option maxRecDepth 100000 in
theorem fnSearched_named : Try.pinned.checked.prog.funcNamed Rows.fnSearchedRow.func = some 4 := by kernel_rfl
set_option maxRecDepth 100000 in
set_option maxHeartbeats 100000000 in
theorem fnSearched_closed : joinedFacts Try.pinned.checked.prog 4 Try.f4 Rows.fnSearchedSpec Rows.fnSearchedRow = true := by
  unfold joinedFacts
  repeat' (with_reducible refine and_tt ?_ ?_)
  all_goals as_aux_lemma => kernel_rfl
theorem fnSearched_holds : Rows.FnSearchedSaid :=
  OpenClaim.holds_of_wide 4 Try.f4 rfl rfl rfl rfl rfl rfl rfl ⟨rfl, rfl, rfl, rfl, rfl⟩ rfl rfl rfl rfl rfl fnSearched_named Try.func4 fnSearched_closed
    (of_decide_eq_true (by kernel_rfl)) (by unfold Func.isWrapper; first | (rw [if_pos (by decide +kernel)]; kernel_rfl) | (rw [if_neg (by decide +kernel)]; exact ⟨rfl, rfl⟩))
    (fun os started H enc _ => fnSearched_returns os started H enc)
#print axioms fnSearched_holds
end Go.Proofs.Ytcpocmbgibafdaa
namespace Go.Hl


end Go.Hl

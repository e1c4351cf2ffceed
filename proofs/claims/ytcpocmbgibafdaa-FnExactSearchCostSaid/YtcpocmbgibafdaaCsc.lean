/-
  Proved: the law FnExactSearchCost returns true at all arguments, and each argument reads behind the call as before. No condition beyond the given row.
-/
import Derived.Test.YtcpocmbgibafdaaVvB
import Derived.Test.YtcpocmbgibafdaaRows
namespace Go.Hl
open Go.Proofs
set_option linter.unusedVariables false
set_option linter.unusedSimpArgs false
set_option maxRecDepth 100000 in
theorem searchCost_args {xs : List HVal} (h : ArgsD Try.prog Try.f3.params.toList xs) : Fn0 Try.prog 3 xs (.bool true) := by
  have h : ArgsD Try.prog [22, 2] xs := h
  match xs, h with
  | [v0, v1], h =>
    obtain ⟨⟨m0, h0⟩, ⟨m1, h1⟩, _⟩ := h
    simp only [ArgD, Try.underlying22] at h0
    obtain ⟨a0, e0, w0⟩ := dat_slice (c := (fun n => [I n])) (w := (fun x => InI x)) Try.underlying22 cells2 h0 (fun m y hm hy => dat_i64 Try.underlying2 hy)
    obtain rfl := (List.cons.inj e0).1
    simp only [ArgD, Try.underlying2] at h1
    obtain ⟨a1, e1, w1⟩ := dat_i64 Try.underlying2 h1
    obtain rfl := (List.cons.inj e1).1
    exact law_SearchCost a0 a1
end Go.Hl
namespace Go.Proofs.Ytcpocmbgibafdaa
open Go.Hl
set_option maxRecDepth 100000 in
theorem searchCost_returns (os : Os) (started : os.Started) (H : Type) (enc : TypeId × Value → H) :
    ReturnsInHanded {} Try.checked os 3 .any (Rows.fnExactSearchCostSpec.pre6 enc Try.prog Try.f3 [] false) (Rows.fnExactSearchCostSpec.post enc Try.prog Try.f3 false true false false) :=
  law_returns (C := Try.checked) (by kernel_rfl) started (by kernel_rfl) Try.func3
    (ChangeSpec.witness6 (enc := enc) (C := Try.checked) false ⟨#[], #[(.slice none 0 0), (.int .i64 0)], []⟩ 8 (by kernel_rfl) (by kernel_rfl) (by kernel_rfl) (by kernel_rfl))
    (by kernel_rfl) (by kernel_rfl) (by kernel_rfl) datT datT_ok (by kernel_rfl) rfl (fun ds h => match ds, h with | [_, _], _ => rfl) (tb := 4) rfl Try.underlying4 fun xs h => searchCost_args h
/-- Each closed fact of the row by itself: the memory of the kernel is freed between them. -/
theorem and_tt {a b : Bool} (ha : a = true) (hb : b = true) : (a && b) = true := by rw [ha, hb]; rfl
set_option maxRecDepth 100000 in
theorem searchCost_named : Try.pinned.checked.prog.funcNamed Rows.fnExactSearchCostRow.func = some 3 := by kernel_rfl
set_option maxRecDepth 100000 in
set_option maxHeartbeats 100000000 in
theorem searchCost_closed : joinedFacts Try.pinned.checked.prog 3 Try.f3 Rows.fnExactSearchCostSpec Rows.fnExactSearchCostRow = true := by
  unfold joinedFacts
  repeat' (with_reducible refine and_tt ?_ ?_)
  all_goals as_aux_lemma => kernel_rfl
theorem searchCost_holds : Rows.FnExactSearchCostSaid :=
  OpenClaim.holds_of_wide 3 Try.f3 rfl rfl rfl rfl rfl rfl rfl ⟨rfl, rfl, rfl, rfl, rfl⟩ rfl rfl rfl rfl rfl searchCost_named Try.func3 searchCost_closed
    (of_decide_eq_true (by kernel_rfl)) (by unfold Func.isWrapper; first | (rw [if_pos (by decide +kernel)]; kernel_rfl) | (rw [if_neg (by decide +kernel)]; exact ⟨rfl, rfl⟩))
    (fun os started H enc _ => searchCost_returns os started H enc)
#print axioms searchCost_holds
end Go.Proofs.Ytcpocmbgibafdaa
namespace Go.Hl


end Go.Hl

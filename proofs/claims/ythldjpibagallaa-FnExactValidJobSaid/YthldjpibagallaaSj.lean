/-
  Proved: the law FnExactValidJob returns true at all arguments, and each argument reads behind the call as before. No condition beyond the given row.
-/
import Derived.Test.YthldjpibagallaaSz
import Derived.Test.YthldjpibagallaaTo
import Derived.Test.YthldjpibagallaaEq
import Derived.Test.YthldjpibagallaaVp
import Derived.Test.YthldjpibagallaaDa
import Derived.Test.YthldjpibagallaaRows
namespace Go.Hl
open Go.Proofs
set_option linter.unusedVariables false
set_option linter.unusedSimpArgs false
def keep6 : List Nat := [0, 1, 2, 3, 4, 5, 6, 11, 21, 26]
def ib6 : List Nat := [1]
def mk6 : Marks := fun id => match id with | 10 => ([0], [1, 2, 0, 3, 4]) | _ => ([], [])
set_option maxRecDepth 100000 in
theorem law_ValidJob (a : DJob) : Fn0 Try.prog 6 [.agg a.c] (.bool true) := by
  simp only [DJob.c_eq]
  refine fn0F 27 keep6 ib6 mk6 mix Try.func6 rfl (by kernel_rfl) (by simp) fun h => ?_
  simp (maxSteps := 1000000) -dsimp -implicitDefEqProofs only [go_sem, ↓reduceIte, keep6, ib6, mk6, Try.f6]
  first | refine HFnF.mk (sz_Job a 1048576 (by omega) (by omega)) ?_ | refine CallSF.mk (sz_Job a 1048576 (by omega) (by omega)) ?_ | refine HFnF.mkAt (sz_Job a 1048576 (by omega) (by omega)) ?_ | refine CallSF.mk (FnAt.fn0 (sz_Job a 1048576 (by omega) (by omega))) ?_
  simp (maxSteps := 1000000) -dsimp -implicitDefEqProofs only [go_sem, ↓reduceIte, keep6, ib6, mk6, Try.f6, DJob.c_eq]
  generalize hL : lft 1048576 a.s = L
  have hs := lft_step hL
  repeat' (with_reducible first | intro _ | refine And.intro ?_ ?_)
  all_goals try (first | (simp [hs, *]; done) | omega | (grind [hs]) | (simp [hs]; omega))
  rename_i h1
  have h2 := hs.2 h1
  have ha : a.s ≤ 1048576 := by omega
  clear hs hL h1 h2
  have hsub := DJob.s_eq a
  have hsub2 := a.fProgram.s_eq
  have hps : a.fProgram.s ≤ 1048576 := by omega
  first | refine HFnF.mk (to_Job a ha) ?_ | refine CallSF.mk (to_Job a ha) ?_ | refine HFnF.mkAt (to_Job a ha) ?_ | refine CallSF.mk (FnAt.fn0 (to_Job a ha)) ?_
  simp (maxSteps := 1000000) -dsimp -implicitDefEqProofs only [go_sem, ↓reduceIte, keep6, ib6, mk6, Try.f6]
  first | refine HFnF.mk (specValidJob a (by omega)) ?_ | refine CallSF.mk (specValidJob a (by omega)) ?_ | refine HFnF.mkAt (specValidJob a (by omega)) ?_ | refine CallSF.mk (FnAt.fn0 (specValidJob a (by omega))) ?_
  simp (maxSteps := 1000000) -dsimp -implicitDefEqProofs only [go_sem, ↓reduceIte, keep6, ib6, mk6, Try.f6]
  first | refine HFnF.mk (to_Job a ha) ?_ | refine CallSF.mk (to_Job a ha) ?_ | refine HFnF.mkAt (to_Job a ha) ?_ | refine CallSF.mk (FnAt.fn0 (to_Job a ha)) ?_
  simp (maxSteps := 1000000) -dsimp -implicitDefEqProofs only [go_sem, ↓reduceIte, keep6, ib6, mk6, Try.f6, DJob.c_eq, upd_upd]
  repeat' (with_reducible first | intro _ | refine And.intro ?_ ?_)
  rename_i n1 h1
  first | refine HFnF.mk (ValidJob a (by omega)) ?_ | refine CallSF.mk (ValidJob a (by omega)) ?_ | refine HFnF.mkAt (ValidJob a (by omega)) ?_ | refine CallSF.mk (FnAt.fn0 (ValidJob a (by omega))) ?_
  simp (maxSteps := 1000000) -dsimp -implicitDefEqProofs only [go_sem, ↓reduceIte, keep6, ib6, mk6, Try.f6, bne_self_eq_false, upd_get]
  first | refine HFnF.mk (to_Job a ha) ?_ | refine CallSF.mk (to_Job a ha) ?_ | refine HFnF.mkAt (to_Job a ha) ?_ | refine CallSF.mk (FnAt.fn0 (to_Job a ha)) ?_
  simp (maxSteps := 1000000) -dsimp -implicitDefEqProofs only [go_sem, ↓reduceIte, keep6, ib6, mk6, Try.f6, upd_get]
  first | refine HFnF.mk (eq_Job a a) ?_ | refine CallSF.mk (eq_Job a a) ?_ | refine HFnF.mkAt (eq_Job a a) ?_ | refine CallSF.mk (FnAt.fn0 (eq_Job a a)) ?_
  simp (maxSteps := 1000000) -dsimp -implicitDefEqProofs only [go_sem, ↓reduceIte, keep6, ib6, mk6, Try.f6, upd_get, h1, decide_true, Bool.not_true]

open Go.Proofs
set_option linter.unusedVariables false
set_option linter.unusedSimpArgs false
set_option maxRecDepth 100000 in
theorem validJob_args {xs : List HVal} (h : ArgsD Try.prog Try.f6.params.toList xs) : Fn0 Try.prog 6 xs (.bool true) := by
  have h : ArgsD Try.prog [38] xs := h
  match xs, h with
  | [v0], h =>
    obtain ⟨⟨m0, h0⟩, _⟩ := h
    simp only [ArgD, Try.underlying38] at h0
    obtain ⟨ys0, rfl, h0⟩ := h0
    obtain ⟨a0, rfl, w0⟩ := dat_38 h0
    exact law_ValidJob a0
end Go.Hl
namespace Go.Proofs.Ythldjpibagallaa
open Go.Hl
set_option maxRecDepth 100000 in
theorem validJob_returns (os : Os) (started : os.Started) (H : Type) (enc : TypeId × Value → H) :
    ReturnsInHanded {} Try.checked os 6 .any (Rows.fnExactValidJobSpec.pre6 enc Try.prog Try.f6 [] false) (Rows.fnExactValidJobSpec.post enc Try.prog Try.f6 false true false false) :=
  law_returns (C := Try.checked) (by kernel_rfl) started (by kernel_rfl) Try.func6
    (ChangeSpec.witness6 (enc := enc) (C := Try.checked) false ⟨#[], #[.agg #[.slice none 0 0, .int .i64 0, .int .i64 0, .slice none 0 0, .slice none 0 0]], []⟩ 8 (by kernel_rfl) (by kernel_rfl) (by kernel_rfl) (by kernel_rfl))
    (by kernel_rfl) (by kernel_rfl) (by kernel_rfl) datT datT_ok (by kernel_rfl) rfl (fun ds h => match ds, h with | [_], _ => rfl) (tb := 4) rfl Try.underlying4 fun xs h => validJob_args h
theorem validJob_holds : Rows.FnExactValidJobSaid :=
  OpenClaim.holds_of_wide 6 Try.f6 rfl rfl rfl rfl rfl rfl rfl ⟨rfl, rfl, rfl, rfl, rfl⟩ rfl rfl rfl rfl rfl (by kernel_rfl) Try.func6 (by kernel_rfl)
    (of_decide_eq_true (by kernel_rfl)) (by unfold Func.isWrapper; first | (rw [if_pos (by decide +kernel)]; kernel_rfl) | (rw [if_neg (by decide +kernel)]; exact ⟨rfl, rfl⟩))
    (fun os started H enc _ => validJob_returns os started H enc)
#print axioms validJob_holds
end Go.Proofs.Ythldjpibagallaa
namespace Go.Hl


end Go.Hl

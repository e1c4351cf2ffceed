/-
  Proved: the law FnExactSameNet returns true at all arguments, and each argument reads behind the call as before. No condition beyond the given row.
-/
import Derived.Test.YthldjpibagallaaSz
import Derived.Test.YthldjpibagallaaTo
import Derived.Test.YthldjpibagallaaEq
import Derived.Test.YthldjpibagallaaSm
import Derived.Test.YthldjpibagallaaDa
import Derived.Test.YthldjpibagallaaRows
namespace Go.Hl
open Go.Proofs
set_option linter.unusedVariables false
set_option linter.unusedSimpArgs false
def keep7 : List Nat := [0, 1, 2, 3, 4, 5, 6, 7, 8, 9, 14, 19, 34, 39, 44]
def ib7 : List Nat := [2, 3]
def mk7 : Marks := fun id => match id with | 8 => ([], [0, 1, 2, 3, 4, 5]) | 14 => ([0], [1, 2, 0, 3, 4]) | 16 => ([0], [1, 2, 0, 3, 4]) | _ => ([], [])
set_option maxRecDepth 100000 in
theorem law_SameNet (a b : DNet) : Fn0 Try.prog 7 [.agg a.c, .agg b.c] (.bool true) := by
  simp only [DNet.c_eq]
  refine fn0F 45 keep7 ib7 mk7 mix Try.func7 rfl (by kernel_rfl) (by simp) fun h => ?_
  simp (maxSteps := 1000000) -dsimp -implicitDefEqProofs only [go_sem, ↓reduceIte, keep7, ib7, mk7, Try.f7]
  first | refine HFnF.mk (sz_Net a 1048576 (by omega) (by omega)) ?_ | refine CallSF.mk (sz_Net a 1048576 (by omega) (by omega)) ?_
  simp (maxSteps := 1000000) -dsimp -implicitDefEqProofs only [go_sem, ↓reduceIte, keep7, ib7, mk7, Try.f7, DNet.c_eq]
  generalize hL : lft 1048576 a.s = L
  have hs := lft_step hL
  repeat' (with_reducible first | intro _ | refine And.intro ?_ ?_)
  all_goals try (first | (simp [hs, *]; done) | omega | (grind [hs]) | (simp [hs]; omega))
  rename_i h1
  have h2 := hs.2 h1
  first | refine HFnF.mk (sz_Net b L (by omega) (by omega)) ?_ | refine CallSF.mk (sz_Net b L (by omega) (by omega)) ?_
  simp (maxSteps := 1000000) -dsimp -implicitDefEqProofs only [go_sem, ↓reduceIte, keep7, ib7, mk7, Try.f7, DNet.c_eq]
  generalize hM : lft L b.s = M
  have ht := lft_step hM
  repeat' (with_reducible first | intro _ | refine And.intro ?_ ?_)
  all_goals try (first | (simp [ht, *]; done) | omega | (grind [ht]) | (simp [ht]; omega))
  rename_i h3
  have h4 := ht.2 h3
  have ha : a.s ≤ 1048576 := by omega
  have hb : b.s ≤ 1048576 := by omega
  clear hs ht hL hM h1 h2 h3 h4
  first | refine HFnF.mk (to_Net a ha) ?_ | refine CallSF.mk (to_Net a ha) ?_
  simp (maxSteps := 1000000) -dsimp -implicitDefEqProofs only [go_sem, ↓reduceIte, keep7, ib7, mk7, Try.f7]
  first | refine HFnF.mk (to_Net b hb) ?_ | refine CallSF.mk (to_Net b hb) ?_
  simp (maxSteps := 1000000) -dsimp -implicitDefEqProofs only [go_sem, ↓reduceIte, keep7, ib7, mk7, Try.f7]
  first | refine HFnF.mk (specSameNet a b) ?_ | refine CallSF.mk (specSameNet a b) ?_
  simp (maxSteps := 1000000) -dsimp -implicitDefEqProofs only [go_sem, ↓reduceIte, keep7, ib7, mk7, Try.f7]
  first | refine HFnF.mk (to_Net a ha) ?_ | refine CallSF.mk (to_Net a ha) ?_
  simp (maxSteps := 1000000) -dsimp -implicitDefEqProofs only [go_sem, ↓reduceIte, keep7, ib7, mk7, Try.f7, DNet.c_eq, upd_upd]
  repeat' (with_reducible first | intro _ | refine And.intro ?_ ?_)
  first | refine HFnF.mk (to_Net b hb) ?_ | refine CallSF.mk (to_Net b hb) ?_
  simp (maxSteps := 1000000) -dsimp -implicitDefEqProofs only [go_sem, ↓reduceIte, keep7, ib7, mk7, Try.f7, DNet.c_eq, upd_upd]
  repeat' (with_reducible first | intro _ | refine And.intro ?_ ?_)
  rename_i n1 h1 n2 h2
  have e12 : (n1 = n2) = False := eq_false fun e => h2.1 e.symm
  have e21 : (n2 = n1) = False := eq_false h2.1
  simp (maxSteps := 1000000) -dsimp -implicitDefEqProofs only [go_sem, ↓reduceIte, keep7, ib7, mk7, Try.f7, upd_get, e12, e21]
  first | refine HFnF.mk (SameNet a b) ?_ | refine CallSF.mk (SameNet a b) ?_
  simp (maxSteps := 1000000) -dsimp -implicitDefEqProofs only [go_sem, ↓reduceIte, keep7, ib7, mk7, Try.f7, e12, e21, bne_self_eq_false]
  first | refine HFnF.mk (to_Net a ha) ?_ | refine CallSF.mk (to_Net a ha) ?_
  simp (maxSteps := 1000000) -dsimp -implicitDefEqProofs only [go_sem, ↓reduceIte, keep7, ib7, mk7, Try.f7, upd_get, e12, e21]
  first | refine HFnF.mk (eq_Net a a) ?_ | refine CallSF.mk (eq_Net a a) ?_
  simp (maxSteps := 1000000) -dsimp -implicitDefEqProofs only [go_sem, ↓reduceIte, keep7, ib7, mk7, Try.f7, upd_get, e12, e21, decide_true, Bool.not_true]
  first | refine HFnF.mk (to_Net b hb) ?_ | refine CallSF.mk (to_Net b hb) ?_
  simp (maxSteps := 1000000) -dsimp -implicitDefEqProofs only [go_sem, ↓reduceIte, keep7, ib7, mk7, Try.f7, upd_get, e12, e21]
  first | refine HFnF.mk (eq_Net b b) ?_ | refine CallSF.mk (eq_Net b b) ?_
  simp (maxSteps := 1000000) -dsimp -implicitDefEqProofs only [go_sem, ↓reduceIte, keep7, ib7, mk7, Try.f7, upd_get, e12, e21, h1, h2.2, decide_true, Bool.not_true]

open Go.Proofs
set_option linter.unusedVariables false
set_option linter.unusedSimpArgs false
set_option maxRecDepth 100000 in
theorem sameNet_args {xs : List HVal} (h : ArgsD Try.prog Try.f7.params.toList xs) : Fn0 Try.prog 7 xs (.bool true) := by
  have h : ArgsD Try.prog [63, 63] xs := h
  match xs, h with
  | [v0, v1], h =>
    obtain ⟨⟨m0, h0⟩, ⟨m1, h1⟩, _⟩ := h
    simp only [ArgD, Try.underlying63] at h0
    obtain ⟨ys0, rfl, h0⟩ := h0
    obtain ⟨a0, rfl, w0⟩ := dat_63 h0
    simp only [ArgD, Try.underlying63] at h1
    obtain ⟨ys1, rfl, h1⟩ := h1
    obtain ⟨a1, rfl, w1⟩ := dat_63 h1
    exact law_SameNet a0 a1
end Go.Hl
namespace Go.Proofs.Ythldjpibagallaa
open Go.Hl
set_option maxRecDepth 100000 in
theorem sameNet_returns (os : Os) (started : os.Started) (H : Type) (enc : TypeId × Value → H) :
    ReturnsInHanded {} Try.checked os 7 .any (Rows.fnExactSameNetSpec.pre6 enc Try.prog Try.f7 [] false) (Rows.fnExactSameNetSpec.post enc Try.prog Try.f7 false true false false) :=
  law_returns (C := Try.checked) (by kernel_rfl) started (by kernel_rfl) Try.func7
    (ChangeSpec.witness6 (enc := enc) (C := Try.checked) false ⟨#[], #[.agg #[.slice none 0 0, .int .i64 0, .int .i64 0, .slice none 0 0, .slice none 0 0, .slice none 0 0, .int .i64 0, .int .i64 0, .slice none 0 0, .slice none 0 0, .slice none 0 0, .slice none 0 0, .slice none 0 0, .slice none 0 0, .string ⟨#[]⟩, .int .i64 0, .slice none 0 0, .slice none 0 0], .agg #[.slice none 0 0, .int .i64 0, .int .i64 0, .slice none 0 0, .slice none 0 0, .slice none 0 0, .int .i64 0, .int .i64 0, .slice none 0 0, .slice none 0 0, .slice none 0 0, .slice none 0 0, .slice none 0 0, .slice none 0 0, .string ⟨#[]⟩, .int .i64 0, .slice none 0 0, .slice none 0 0]], []⟩ 8 (by kernel_rfl) (by kernel_rfl) (by kernel_rfl) (by kernel_rfl))
    (by kernel_rfl) (by kernel_rfl) (by kernel_rfl) datT datT_ok (by kernel_rfl) rfl (fun ds h => match ds, h with | [_, _], _ => rfl) (tb := 4) rfl Try.underlying4 fun xs h => sameNet_args h
theorem sameNet_holds : Rows.FnExactSameNetSaid :=
  OpenClaim.holds_of_wide 7 Try.f7 rfl rfl rfl rfl rfl rfl rfl ⟨rfl, rfl, rfl, rfl, rfl⟩ rfl rfl rfl rfl rfl (by kernel_rfl) Try.func7 (by kernel_rfl)
    (of_decide_eq_true (by kernel_rfl)) (by unfold Func.isWrapper; first | (rw [if_pos (by decide +kernel)]; kernel_rfl) | (rw [if_neg (by decide +kernel)]; exact ⟨rfl, rfl⟩))
    (fun os started H enc _ => sameNet_returns os started H enc)
#print axioms sameNet_holds
end Go.Proofs.Ythldjpibagallaa
namespace Go.Hl


end Go.Hl

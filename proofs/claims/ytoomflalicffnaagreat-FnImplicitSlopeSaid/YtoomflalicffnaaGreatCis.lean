/-
  Proved: the law FnImplicitSlope returns true at all arguments, and each argument reads behind the call as before. No condition beyond the given row.
-/
import Derived.Test.YtoomflalicffnaaGreatVvH
import Derived.Test.YtoomflalicffnaaGreatVvA
import Derived.Test.YtoomflalicffnaaGreatRows
namespace Go.Hl
set_option maxRecDepth 100000
open Go.Proofs
set_option linter.unusedVariables false
set_option linter.unusedSimpArgs false
theorem aCO {xs : List aE} (h : aRE Tryz.prog Tryz.f5.params.toList xs) : fE Tryz.prog 5 xs (.bool true) := by
 have h : aRE Tryz.prog [45, 45] xs := h
 match xs, h with
 | [v0, v1], h =>
  obtain ⟨⟨m0, h0⟩, ⟨m1, h1⟩, _⟩ := h
  simp only [aNO, Tryz.underlying45] at h0
  obtain ⟨a0, e0, w0⟩ := aL9 (c := (fun n => [.int .u8 n])) (w := (fun x => InB x)) Tryz.underlying45 a31 h0 (fun m y hm hy => a30 Tryz.underlying5 hy)
  obtain rfl := (List.cons.inj e0).1
  simp only [aNO, Tryz.underlying45] at h1
  obtain ⟨a1, e1, w1⟩ := aL9 (c := (fun n => [.int .u8 n])) (w := (fun x => InB x)) Tryz.underlying45 a31 h1 (fun m y hm hy => a30 Tryz.underlying5 hy)
  obtain rfl := (List.cons.inj e1).1
  exact bIO w0 w1
end Go.Hl
namespace Go.Proofs.YtoomflalicffnaaGreat
open Go.Hl
theorem y7 (os : Os) (started : os.Started) (H : Type) (enc : TypeId × Value → H) :
  ReturnsInHanded {} Tryz.checked os 5 .any (Rows.fnImplicitSlopeSpec.pre6 enc Tryz.prog Tryz.f5 [] false) (Rows.fnImplicitSlopeSpec.post enc Tryz.prog Tryz.f5 false true false false) :=
 aRH (C := Tryz.checked) (by kernel_rfl) started (by kernel_rfl) Tryz.func5
  (ChangeSpec.witness6 (enc := enc) (C := Tryz.checked) false ⟨#[], #[(.slice none 0 0), (.slice none 0 0)], []⟩ 8 (by kernel_rfl) (by kernel_rfl) (by kernel_rfl) (by kernel_rfl))
  (by kernel_rfl) (by kernel_rfl) (by kernel_rfl) bMC a8Q (by kernel_rfl) rfl (fun ds h => match ds, h with | [_, _], _ => rfl) (tb := 4) rfl Tryz.underlying4 fun xs h => aCO h
/-- Each closed fact of the row by itself: the memory of the kernel is freed between them. -/
theorem bIP {a b : Bool} (ha : a = true) (hb : b = true) : (a && b) = true := by rw [ha, hb]; rfl
theorem aBF : Tryz.pinned.checked.prog.funcNamed Rows.fnImplicitSlopeRow.func = some 5 := by kernel_rfl
set_option maxHeartbeats 100000000 in
theorem aAT : joinedFacts Tryz.pinned.checked.prog 5 Tryz.f5 Rows.fnImplicitSlopeSpec Rows.fnImplicitSlopeRow = true := by
 unfold joinedFacts
 repeat' (with_reducible refine bIP ?_ ?_)
 all_goals as_aux_lemma => kernel_rfl
theorem implicitSlope_holds : Rows.FnImplicitSlopeSaid :=
 OpenClaim.holds_of_wide 5 Tryz.f5 rfl rfl rfl rfl rfl rfl rfl ⟨rfl, rfl, rfl, rfl, rfl⟩ rfl rfl rfl rfl rfl aBF Tryz.func5 aAT
  (of_decide_eq_true (by kernel_rfl)) (by unfold Func.isWrapper; first | (rw [if_pos (by decide +kernel)]; kernel_rfl) | (rw [if_neg (by decide +kernel)]; exact ⟨rfl, rfl⟩))
  (fun os started H enc _ => y7 os started H enc)
#print axioms implicitSlope_holds
end Go.Proofs.YtoomflalicffnaaGreat
namespace Go.Hl
end Go.Hl

/-
  Proved: the law FnInversePath returns true at all arguments, and each argument reads behind the call as before. No condition beyond the given row.
-/
import Derived.Test.YtoomflalicffnaaGreatVvI
import Derived.Test.YtoomflalicffnaaGreatRows
namespace Go.Hl
set_option maxRecDepth 100000
open Go.Proofs
set_option linter.unusedVariables false
set_option linter.unusedSimpArgs false
theorem aGV {xs : List aE} (h : aSQ Tryz.prog Tryz.f6.params.toList xs) : fR Tryz.prog 6 xs (.bool true) := by
 have h : aSQ Tryz.prog [45, 45] xs := h
 match xs, h with
 | [v0, v1], h =>
  obtain ⟨⟨m0, h0⟩, ⟨m1, h1⟩, _⟩ := h
  simp only [aOV, Tryz.underlying45] at h0
  obtain ⟨a0, e0, w0⟩ := aOG (c := (fun n => [.int .u8 n])) (w := (fun x => InB x)) Tryz.underlying45 a9I h0 (fun m y hm hy => a9H Tryz.underlying5 hy)
  obtain rfl := (List.cons.inj e0).1
  simp only [aOV, Tryz.underlying45] at h1
  obtain ⟨a1, e1, w1⟩ := aOG (c := (fun n => [.int .u8 n])) (w := (fun x => InB x)) Tryz.underlying45 a9I h1 (fun m y hm hy => a9H Tryz.underlying5 hy)
  obtain rfl := (List.cons.inj e1).1
  exact bKU w0 w1
end Go.Hl
namespace Go.Proofs.YtoomflalicffnaaGreat
open Go.Hl
theorem aCD (os : Os) (started : os.Started) (H : Type) (enc : TypeId × Value → H) :
  ReturnsInHanded {} Tryz.checked os 6 .any (Rows.fnInversePathSpec.pre6 enc Tryz.prog Tryz.f6 [] false) (Rows.fnInversePathSpec.post enc Tryz.prog Tryz.f6 false true false false) :=
 aST (C := Tryz.checked) (by kernel_rfl) started (by kernel_rfl) Tryz.func6
  (ChangeSpec.witness6 (enc := enc) (C := Tryz.checked) false ⟨#[], #[(.slice none 0 0), (.slice none 0 0)], []⟩ 8 (by kernel_rfl) (by kernel_rfl) (by kernel_rfl) (by kernel_rfl))
  (by kernel_rfl) (by kernel_rfl) (by kernel_rfl) bRA bEB (by kernel_rfl) rfl (fun ds h => match ds, h with | [_, _], _ => rfl) (tb := 4) rfl Tryz.underlying4 fun xs h => aGV h
/-- Each closed fact of the row by itself: the memory of the kernel is freed between them. -/
theorem bKW {a b : Bool} (ha : a = true) (hb : b = true) : (a && b) = true := by rw [ha, hb]; rfl
theorem aFO : Tryz.pinned.checked.prog.funcNamed Rows.fnInversePathRow.func = some 6 := by kernel_rfl
set_option maxHeartbeats 100000000 in
theorem aDS : joinedFacts Tryz.pinned.checked.prog 6 Tryz.f6 Rows.fnInversePathSpec Rows.fnInversePathRow = true := by
 unfold joinedFacts
 repeat' (with_reducible refine bKW ?_ ?_)
 all_goals as_aux_lemma => kernel_rfl
theorem inversePath_holds : Rows.FnInversePathSaid :=
 OpenClaim.holds_of_wide 6 Tryz.f6 rfl rfl rfl rfl rfl rfl rfl ⟨rfl, rfl, rfl, rfl, rfl⟩ rfl rfl rfl rfl rfl aFO Tryz.func6 aDS
  (of_decide_eq_true (by kernel_rfl)) (by unfold Func.isWrapper; first | (rw [if_pos (by decide +kernel)]; kernel_rfl) | (rw [if_neg (by decide +kernel)]; exact ⟨rfl, rfl⟩))
  (fun os started H enc _ => aCD os started H enc)
#print axioms inversePath_holds
end Go.Proofs.YtoomflalicffnaaGreat
namespace Go.Hl
end Go.Hl

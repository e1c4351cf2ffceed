/-
  Proved: the law FnUntouched returns true at all arguments, and each argument reads behind the call as before. No condition beyond the given row.
-/
import Derived.Test.YtgkipnacdihfnaaGreatVvI
import Derived.Test.YtgkipnacdihfnaaGreatRows
namespace Go.Hl
set_option maxRecDepth 100000
open Go.Proofs
set_option linter.unusedVariables false
set_option linter.unusedSimpArgs false
theorem aD9 {xs : List aD} (h : aNZ Tryz.prog Tryz.f3.params.toList xs) : gV Tryz.prog 3 xs (.bool true) := by
 have h : aNZ Tryz.prog [22, 22] xs := h
 match xs, h with
 | [v0, v1], h =>
  obtain ⟨⟨m0, h0⟩, ⟨m1, h1⟩, _⟩ := h
  simp only [aKF, Tryz.underlying22] at h0
  obtain ⟨a0, e0, w0⟩ := aJ2 (c := (fun n => [.int .u8 n])) (w := (fun x => InB x)) Tryz.underlying22 aZR h0 (fun m y hm hy => aZQ Tryz.underlying5 hy)
  obtain rfl := (List.cons.inj e0).1
  simp only [aKF, Tryz.underlying22] at h1
  obtain ⟨a1, e1, w1⟩ := aJ2 (c := (fun n => [.int .u8 n])) (w := (fun x => InB x)) Tryz.underlying22 aZR h1 (fun m y hm hy => aZQ Tryz.underlying5 hy)
  obtain rfl := (List.cons.inj e1).1
  exact bAA w0 w1
end Go.Hl
namespace Go.Proofs.YtgkipnacdihfnaaGreat
open Go.Hl
theorem z5 (os : Os) (started : os.Started) (H : Type) (enc : TypeId × Value → H) :
  ReturnsInHanded {} Tryz.checked os 3 .any (Rows.fnUntouchedSpec.pre6 enc Tryz.prog Tryz.f3 [] false) (Rows.fnUntouchedSpec.post enc Tryz.prog Tryz.f3 false true false false) :=
 aN2 (C := Tryz.checked) (by kernel_rfl) started (by kernel_rfl) Tryz.func3
  (ChangeSpec.witness6 (enc := enc) (C := Tryz.checked) false ⟨#[], #[(.slice none 0 0), (.slice none 0 0)], []⟩ 8 (by kernel_rfl) (by kernel_rfl) (by kernel_rfl) (by kernel_rfl))
  (by kernel_rfl) (by kernel_rfl) (by kernel_rfl) bHN a39 (by kernel_rfl) rfl (fun ds h => match ds, h with | [_, _], _ => rfl) (tb := 4) rfl Tryz.underlying4 fun xs h => aD9 h
/-- Each closed fact of the row by itself: the memory of the kernel is freed between them. -/
theorem bAB {a b : Bool} (ha : a = true) (hb : b = true) : (a && b) = true := by rw [ha, hb]; rfl
theorem aCX : Tryz.pinned.checked.prog.funcNamed Rows.fnUntouchedRow.func = some 3 := by kernel_rfl
set_option maxHeartbeats 100000000 in
theorem aA1 : joinedFacts Tryz.pinned.checked.prog 3 Tryz.f3 Rows.fnUntouchedSpec Rows.fnUntouchedRow = true := by
 unfold joinedFacts
 repeat' (with_reducible refine bAB ?_ ?_)
 all_goals as_aux_lemma => kernel_rfl
theorem fnUntouched_holds : Rows.FnUntouchedSaid :=
 OpenClaim.holds_of_wide 3 Tryz.f3 rfl rfl rfl rfl rfl rfl rfl ⟨rfl, rfl, rfl, rfl, rfl⟩ rfl rfl rfl rfl rfl aCX Tryz.func3 aA1
  (of_decide_eq_true (by kernel_rfl)) (by unfold Func.isWrapper; first | (rw [if_pos (by decide +kernel)]; kernel_rfl) | (rw [if_neg (by decide +kernel)]; exact ⟨rfl, rfl⟩))
  (fun os started H enc _ => z5 os started H enc)
#print axioms fnUntouched_holds
end Go.Proofs.YtgkipnacdihfnaaGreat
namespace Go.Hl
end Go.Hl

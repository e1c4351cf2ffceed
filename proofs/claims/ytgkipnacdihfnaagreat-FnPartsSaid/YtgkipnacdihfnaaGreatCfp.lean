/-
  Proved: the law FnParts returns true at all arguments, and each argument reads behind the call as before. No condition beyond the given row.
-/
import Derived.Test.YtgkipnacdihfnaaGreatVvI
import Derived.Test.YtgkipnacdihfnaaGreatRows
namespace Go.Hl
set_option maxRecDepth 100000
open Go.Proofs
set_option linter.unusedVariables false
set_option linter.unusedSimpArgs false
theorem aM8 {xs : List aD} (h : aOD Tryz.prog Tryz.f4.params.toList xs) : fL Tryz.prog 4 xs (.bool true) := by
 have h : aOD Tryz.prog [22] xs := h
 match xs, h with
 | [v0], h =>
  obtain ⟨⟨m0, h0⟩, _⟩ := h
  simp only [aOC, Tryz.underlying22] at h0
  obtain ⟨a0, e0, w0⟩ := aWB (c := (fun n => [.int .u8 n])) (w := (fun x => InB x)) Tryz.underlying22 bB7 h0 (fun m y hm hy => bB6 Tryz.underlying5 hy)
  obtain rfl := (List.cons.inj e0).1
  exact a0J w0
end Go.Hl
namespace Go.Proofs.YtgkipnacdihfnaaGreat
open Go.Hl
theorem aFC (os : Os) (started : os.Started) (H : Type) (enc : TypeId × Value → H) :
  ReturnsInHanded {} Tryz.checked os 4 .any (Rows.fnPartsSpec.pre6 enc Tryz.prog Tryz.f4 [] false) (Rows.fnPartsSpec.post enc Tryz.prog Tryz.f4 false true false false) :=
 aOG (C := Tryz.checked) (by kernel_rfl) started (by kernel_rfl) Tryz.func4
  (ChangeSpec.witness6 (enc := enc) (C := Tryz.checked) false ⟨#[], #[(.slice none 0 0)], []⟩ 8 (by kernel_rfl) (by kernel_rfl) (by kernel_rfl) (by kernel_rfl))
  (by kernel_rfl) (by kernel_rfl) (by kernel_rfl) bJ9 a5G (by kernel_rfl) rfl (fun ds h => match ds, h with | [_], _ => rfl) (tb := 4) rfl Tryz.underlying4 fun xs h => aM8 h
/-- Each closed fact of the row by itself: the memory of the kernel is freed between them. -/
theorem bB8 {a b : Bool} (ha : a = true) (hb : b = true) : (a && b) = true := by rw [ha, hb]; rfl
theorem aI4 : Tryz.pinned.checked.prog.funcNamed Rows.fnPartsRow.func = some 4 := by kernel_rfl
set_option maxHeartbeats 100000000 in
theorem aIG : joinedFacts Tryz.pinned.checked.prog 4 Tryz.f4 Rows.fnPartsSpec Rows.fnPartsRow = true := by
 unfold joinedFacts
 repeat' (with_reducible refine bB8 ?_ ?_)
 all_goals as_aux_lemma => kernel_rfl
theorem fnParts_holds : Rows.FnPartsSaid :=
 OpenClaim.holds_of_wide 4 Tryz.f4 rfl rfl rfl rfl rfl rfl rfl ⟨rfl, rfl, rfl, rfl, rfl⟩ rfl rfl rfl rfl rfl aI4 Tryz.func4 aIG
  (of_decide_eq_true (by kernel_rfl)) (by unfold Func.isWrapper; first | (rw [if_pos (by decide +kernel)]; kernel_rfl) | (rw [if_neg (by decide +kernel)]; exact ⟨rfl, rfl⟩))
  (fun os started H enc _ => aFC os started H enc)
#print axioms fnParts_holds
end Go.Proofs.YtgkipnacdihfnaaGreat
namespace Go.Hl
end Go.Hl

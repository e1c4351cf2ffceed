/-
  Proved: the law FnExactChangePoint returns true at all arguments, and each argument reads behind the call as before. No condition beyond the given row.
-/
import Derived.Test.YtpnelljgohjjdaaGreatVvJ
import Derived.Test.YtpnelljgohjjdaaGreatRows
namespace Go.Hl
set_option maxRecDepth 100000
open Go.Proofs
set_option linter.unusedVariables false
set_option linter.unusedSimpArgs false
theorem aGT {xs : List aD} (h : aQ1 Tryz.prog Tryz.f3.params.toList xs) : fO Tryz.prog 3 xs sR fun r _ => r = .bool true := by
 have h : aQ1 Tryz.prog [32, 25] xs := h
 match xs, h with
 | [v0, v1], h =>
  obtain ⟨⟨m0, h0⟩, ⟨m1, h1⟩, _⟩ := h
  simp only [aNH, Tryz.underlying32] at h0
  obtain ⟨ys0, rfl, h0⟩ := h0
  obtain ⟨a0, rfl, w0⟩ := bF8 h0
  simp only [aNH, Tryz.underlying25] at h1
  obtain ⟨a1, e1, w1⟩ := k9 (c := (fun n => [I n])) (w := (fun x => InI x)) Tryz.underlying25 qX h1 (fun m y hm hy => m5 Tryz.underlying2 hy)
  obtain rfl := (List.cons.inj e1).1
  exact zE a0 a1 sR
end Go.Hl
namespace Go.Proofs.YtpnelljgohjjdaaGreat
open Go.Hl
theorem aBS (os : Os) (started : os.Started) (H : Type) (enc : TypeId × Value → H) :
  ReturnsInHanded {} Tryz.checked os 3 .any (Rows.fnExactChangePointSpec.pre6 enc Tryz.prog Tryz.f3 [] false) (Rows.fnExactChangePointSpec.post enc Tryz.prog Tryz.f3 false true false false) :=
 aNK (C := Tryz.checked) (by kernel_rfl) started (by kernel_rfl) Tryz.func3
  (ChangeSpec.witness6 (enc := enc) (C := Tryz.checked) false ⟨#[], #[.agg #[.slice none 0 0, .int .i64 0, .int .i64 0, .slice none 0 0, .slice none 0 0, .slice none 0 0, .slice none 0 0, .slice none 0 0, .slice none 0 0], (.slice none 0 0)], []⟩ 8 (by kernel_rfl) (by kernel_rfl) (by kernel_rfl) (by kernel_rfl))
  (by kernel_rfl) (by kernel_rfl) (by kernel_rfl) bNP a8M (by kernel_rfl) rfl (fun ds h => match ds, h with | [_, _], _ => rfl) (tb := 4) rfl Tryz.underlying4 fun xs h => aGT h
/-- Each closed fact of the row by itself: the memory of the kernel is freed between them. -/
theorem bF9 {a b : Bool} (ha : a = true) (hb : b = true) : (a && b) = true := by rw [ha, hb]; rfl
theorem aFJ : Tryz.pinned.checked.prog.funcNamed Rows.fnExactChangePointRow.func = some 3 := by kernel_rfl
set_option maxHeartbeats 100000000 in
theorem aDL : joinedFacts Tryz.pinned.checked.prog 3 Tryz.f3 Rows.fnExactChangePointSpec Rows.fnExactChangePointRow = true := by
 unfold joinedFacts
 repeat' (with_reducible refine bF9 ?_ ?_)
 all_goals as_aux_lemma => kernel_rfl
theorem changePoint_holds : Rows.FnExactChangePointSaid :=
 OpenClaim.holds_of_wide 3 Tryz.f3 rfl rfl rfl rfl rfl rfl rfl ⟨rfl, rfl, rfl, rfl, rfl⟩ rfl rfl rfl rfl rfl aFJ Tryz.func3 aDL
  (of_decide_eq_true (by kernel_rfl)) (by unfold Func.isWrapper; first | (rw [if_pos (by decide +kernel)]; kernel_rfl) | (rw [if_neg (by decide +kernel)]; exact ⟨rfl, rfl⟩))
  (fun os started H enc _ => aBS os started H enc)
#print axioms changePoint_holds
end Go.Proofs.YtpnelljgohjjdaaGreat
namespace Go.Hl
end Go.Hl

/-
  Proved: the law FnExactVariationOf returns true at all arguments, and each argument reads behind the call as before. No condition beyond the given row.
-/
import Derived.Test.YtoomflalicffnaaGreatVvI
import Derived.Test.YtoomflalicffnaaGreatRows
namespace Go.Hl
set_option maxRecDepth 100000
open Go.Proofs
set_option linter.unusedVariables false
set_option linter.unusedSimpArgs false
theorem aAW {xs : List aD} (h : aJV Tryz.prog Tryz.f3.params.toList xs) : eH Tryz.prog 3 xs nX fun r _ => r = .bool true := by
 have h : aJV Tryz.prog [24, 2, 25, 25, 2] xs := h
 match xs, h with
 | [v0, v1, v2, v3, v4], h =>
  obtain ⟨⟨m0, h0⟩, ⟨m1, h1⟩, ⟨m2, h2⟩, ⟨m3, h3⟩, ⟨m4, h4⟩, _⟩ := h
  simp only [aBP, Tryz.underlying24] at h0
  obtain ⟨ys0, rfl, h0⟩ := h0
  obtain ⟨a0, rfl, w0⟩ := a33 h0
  simp only [aBP, Tryz.underlying2] at h1
  obtain ⟨a1, e1, w1⟩ := pO Tryz.underlying2 h1
  obtain rfl := (List.cons.inj e1).1
  simp only [aBP, Tryz.underlying25] at h2
  obtain ⟨a2, e2, w2⟩ := s3 (c := (fun n => [I n])) (w := (fun x => InI x)) Tryz.underlying25 xS h2 (fun m y hm hy => pO Tryz.underlying2 hy)
  obtain rfl := (List.cons.inj e2).1
  simp only [aBP, Tryz.underlying25] at h3
  obtain ⟨a3, e3, w3⟩ := s3 (c := (fun n => [I n])) (w := (fun x => InI x)) Tryz.underlying25 xS h3 (fun m y hm hy => pO Tryz.underlying2 hy)
  obtain rfl := (List.cons.inj e3).1
  simp only [aBP, Tryz.underlying2] at h4
  obtain ⟨a4, e4, w4⟩ := pO Tryz.underlying2 h4
  obtain rfl := (List.cons.inj e4).1
  exact uH a0 a1 a2 a3 a4 nX
end Go.Hl
namespace Go.Proofs.YtoomflalicffnaaGreat
open Go.Hl
theorem wO (os : Os) (started : os.Started) (H : Type) (enc : TypeId × Value → H) :
  ReturnsInHanded {} Tryz.checked os 3 .any (Rows.fnExactVariationOfSpec.pre6 enc Tryz.prog Tryz.f3 [] false) (Rows.fnExactVariationOfSpec.post enc Tryz.prog Tryz.f3 false true false false) :=
 aG6 (C := Tryz.checked) (by kernel_rfl) started (by kernel_rfl) Tryz.func3
  (ChangeSpec.witness6 (enc := enc) (C := Tryz.checked) false ⟨#[], #[.agg #[.slice none 0 0], (.int .i64 0), (.slice none 0 0), (.slice none 0 0), (.int .i64 0)], []⟩ 8 (by kernel_rfl) (by kernel_rfl) (by kernel_rfl) (by kernel_rfl))
  (by kernel_rfl) (by kernel_rfl) (by kernel_rfl) a9J aYV (by kernel_rfl) rfl (fun ds h => match ds, h with | [_, _, _, _, _], _ => rfl) (tb := 4) rfl Tryz.underlying4 fun xs h => aAW h
/-- Each closed fact of the row by itself: the memory of the kernel is freed between them. -/
theorem a34 {a b : Bool} (ha : a = true) (hb : b = true) : (a && b) = true := by rw [ha, hb]; rfl
theorem zT : Tryz.pinned.checked.prog.funcNamed Rows.fnExactVariationOfRow.func = some 3 := by kernel_rfl
set_option maxHeartbeats 100000000 in
theorem xT : joinedFacts Tryz.pinned.checked.prog 3 Tryz.f3 Rows.fnExactVariationOfSpec Rows.fnExactVariationOfRow = true := by
 unfold joinedFacts
 repeat' (with_reducible refine a34 ?_ ?_)
 all_goals as_aux_lemma => kernel_rfl
theorem variationOf_holds : Rows.FnExactVariationOfSaid :=
 OpenClaim.holds_of_wide 3 Tryz.f3 rfl rfl rfl rfl rfl rfl rfl ⟨rfl, rfl, rfl, rfl, rfl⟩ rfl rfl rfl rfl rfl zT Tryz.func3 xT
  (of_decide_eq_true (by kernel_rfl)) (by unfold Func.isWrapper; first | (rw [if_pos (by decide +kernel)]; kernel_rfl) | (rw [if_neg (by decide +kernel)]; exact ⟨rfl, rfl⟩))
  (fun os started H enc _ => wO os started H enc)
#print axioms variationOf_holds
end Go.Proofs.YtoomflalicffnaaGreat
namespace Go.Hl
end Go.Hl

/-
  Proved: the law FnVariation returns true at all arguments, and each argument reads behind the call as before. No condition beyond the given row.
-/
import Derived.Test.YtajjlpophonkoaaGreatDoorVvI
import Derived.Test.YtajjlpophonkoaaGreatDoorVvJ
import Derived.Test.YtajjlpophonkoaaGreatDoorHlD
import Derived.Test.YtajjlpophonkoaaGreatDoorRows
import Derived.Test.YtajjlpophonkoaaGreatDoorTie
import Derived.Test.YtajjlpophonkoaaGreatDoorCards
import Derived.Lay
import Derived.MakeChecks
import Derived.SevenTiedAt
import Derived.Lib.LaidTab
namespace Go.Hl
set_option maxRecDepth 100000
open Go.Proofs
set_option linter.unusedVariables false
set_option linter.unusedSimpArgs false
theorem aMK {xs : List aH} (h : aZ6 Tryz.prog Tryz.f3.params.toList xs) : fM Tryz.prog 3 xs (.bool true) := by
 have h : aZ6 Tryz.prog [22, 22] xs := h
 match xs, h with
 | [v0, v1], h =>
  obtain ⟨⟨m0, h0⟩, ⟨m1, h1⟩, _⟩ := h
  simp only [aVU, Tryz.underlying22] at h0
  obtain ⟨a0, e0, w0⟩ := aU0 (c := (fun n => [.int .u8 n])) (w := (fun x => InB x)) Tryz.underlying22 bJS h0 (fun m y hm hy => bJR Tryz.underlying5 hy)
  obtain rfl := (List.cons.inj e0).1
  simp only [aVU, Tryz.underlying22] at h1
  obtain ⟨a1, e1, w1⟩ := aU0 (c := (fun n => [.int .u8 n])) (w := (fun x => InB x)) Tryz.underlying22 bJS h1 (fun m y hm hy => bJR Tryz.underlying5 hy)
  obtain rfl := (List.cons.inj e1).1
  exact bWO w0 w1
end Go.Hl
namespace Go.Proofs.YtajjlpophonkoaaGreatDoor
open Go.Hl
theorem aML (W : World) (h : laidMetH Tryz.prog Rows.fnVariationRow.laid W) (hsh : W.ShapedOpen Tryz.prog) : ∀ p ∈ x9, ∃ cs t f, W.heap[p.1]? = some (.cells cs t f) ∧ p.2 cs := by
 rw [MakeChecks.laidMetH_plain _ _ _ (by kernel_rfl)] at h
 have h2 := aK9 (aK9 (h))
 have h3 : Lib.TabIs Tryz.prog W "internal/strconv.uint64pow10" .u64 Lib.pow10Tab := Lib.tabIs_of_head (rest := _) (g := 0) (t := 236) (e := 141) (n := 20) (by kernel_rfl) (by kernel_rfl) (by kernel_rfl) (by kernel_rfl) (by kernel_rfl) (by kernel_rfl) h2
 intro p hp
 simp only [x9, List.mem_cons, List.mem_nil_iff, or_false] at hp
 rcases hp with rfl
 ·unfold Lib.TabIs World.var? at h3
  rw [show Tryz.prog.globalNamed "internal/strconv.uint64pow10" = some 0 by kernel_rfl, Option.bind_some] at h3
  cases hW : W.heap[0]? with
  |none => rw [hW] at h3; cases h3
  |some o =>
   rw [hW] at h3
   cases o with
   |cells c t f => exact ⟨c, t, f, rfl, (Option.some.inj h3).trans (by kernel_rfl)⟩
   | _ => cases h3
theorem aGQ (os : Os) (started : os.Started) (H : Type) (enc : TypeId × Value → H) :
  ReturnsInHanded {} Tryz.checked os 3 .any (fun w args => (Rows.fnVariationSpec.pre enc Tryz.prog Tryz.f3 [] false w args ∧ laidMetH Tryz.prog Rows.fnVariationRow.laid w) ∧ sizedMet enc Tryz.prog Tryz.f3 (OpenSpec.ofChange Rows.fnVariationSpec) false w args) (Rows.fnVariationSpec.post enc Tryz.prog Tryz.f3 false true false false) :=
 aYJ (C := Tryz.checked) (by kernel_rfl) started (by kernel_rfl) Tryz.func3
  (ChangeSpec.witness_shaped (enc := enc) (C := Tryz.checked) (os := os) (X := fun w _ => laidMetH Tryz.prog Rows.fnVariationRow.laid w) false (World.laidAll Tryz.prog os Rows.fnVariationRow.laid) #[(.slice none 0 0), (.slice none 0 0)] 8 (World.laidAll_os _ _ _) (World.shaped_of_ZipB (by kernel_rfl) (by kernel_rfl)) (by kernel_rfl) (by kernel_rfl) (by kernel_rfl)
   (by rw [MakeChecks.laidMetH_plain _ _ _ (by kernel_rfl)]; exact laidMet_laidAll _ (by kernel_rfl) (by kernel_rfl)))
  (by kernel_rfl) (by kernel_rfl) (by kernel_rfl) b3R bO6 (by kernel_rfl) rfl (fun ds h => match ds, h with | [_, _], _ => rfl) (tb := 4) rfl Tryz.underlying4 (fun xs h => aMK h) (aML)
/-- Each closed fact of the row by itself: the memory of the kernel is freed between them. -/
theorem bWR {a b : Bool} (ha : a = true) (hb : b = true) : (a && b) = true := by rw [ha, hb]; rfl
theorem aLA : Tryz.pinned.checked.prog.funcNamed Rows.fnVariationRow.func = some 3 := by kernel_rfl
set_option maxHeartbeats 100000000 in
theorem aIV : joinedFacts Tryz.pinned.checked.prog 3 Tryz.f3 Rows.fnVariationSpec Rows.fnVariationRow = true := by
 unfold joinedFacts
 repeat' (with_reducible refine bWR ?_ ?_)
 all_goals as_aux_lemma => kernel_rfl
theorem aLB : Rows.FnVariationSaid :=
 OpenClaim.holds_of_wide 3 Tryz.f3 rfl rfl rfl rfl rfl rfl rfl ⟨rfl, rfl, rfl, rfl, rfl⟩ rfl rfl rfl rfl rfl aLA Tryz.func3 aIV
  (of_decide_eq_true (by kernel_rfl)) (by unfold Func.isWrapper; first | (rw [if_pos (by decide +kernel)]; kernel_rfl) | (rw [if_neg (by decide +kernel)]; exact ⟨rfl, rfl⟩))
  (fun os started H enc _ => aGQ os started H enc)
theorem fnVariation_card : Rows.FnVariationCardSaid :=
 Claim7.holds_tied_plain_at .later [] [.data, .data, .data] true (true, "35e82d8ec88e7d4e934382ecf529f0e3d4d8849723eafc08b23ed9b88078e99c") true
  aLB (fun _ h => by cases h) (by kernel_rfl) (fun _ h => by cases h) fnVariation_row_tie rfl ⟨rfl, rfl⟩ (by kernel_rfl) rfl
  (fun f fn hf hfn => by
   obtain rfl : f = 3 := Option.some.inj ((show Tryz.prog.funcNamed "loop.example/g01091/laws.FnVariation" = some 3 by kernel_rfl).symm.trans hf) |>.symm
   obtain rfl : fn = Tryz.f3 := (Option.some.inj (Tryz.func3.symm.trans hfn)).symm
   exact ⟨by kernel_rfl, fun j t ht => by
    have hall : ∀ t ∈ ([22, 22] : List Nat), Tryz.prog.wantsStandIn t = false := by decide +kernel
    exact hall t (by have := Array.mem_of_getElem? ht; simpa [Tryz.f3] using this)⟩)
  (by kernel_rfl)
#print axioms fnVariation_card
end Go.Proofs.YtajjlpophonkoaaGreatDoor
namespace Go.Hl
end Go.Hl

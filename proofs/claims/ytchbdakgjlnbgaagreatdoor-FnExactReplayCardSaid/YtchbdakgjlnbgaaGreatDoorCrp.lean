/-
  Proved: the law FnExactReplay returns true at all arguments, and each argument reads behind the call as before. No condition beyond the given row.
-/
import Derived.Test.YtchbdakgjlnbgaaGreatDoorVvI
import Derived.Test.YtchbdakgjlnbgaaGreatDoorHlD
import Derived.Test.YtchbdakgjlnbgaaGreatDoorRows
import Derived.Test.YtchbdakgjlnbgaaGreatDoorTie
import Derived.Test.YtchbdakgjlnbgaaGreatDoorCards
import Derived.Lay
import Derived.MakeChecks
import Derived.SevenTiedAt
import Derived.Lib.LaidTab
namespace Go.Hl
set_option maxRecDepth 100000
open Go.Proofs
set_option linter.unusedVariables false
set_option linter.unusedSimpArgs false
theorem a6B {xs : List aC} (h : a32 Tryz.prog Tryz.f3.params.toList xs) : gV Tryz.prog 3 xs yH fun r _ => r = .bool true := by
 have h : a32 Tryz.prog [28, 9] xs := h
 match xs, h with
 | [v0, v1], h =>
  obtain ⟨⟨m0, h0⟩, ⟨m1, h1⟩, _⟩ := h
  simp only [aY8, Tryz.underlying28] at h0
  obtain ⟨ys0, rfl, h0⟩ := h0
  obtain ⟨a0, rfl, w0⟩ := bX6 h0
  simp only [aY8, Tryz.underlying9] at h1
  obtain ⟨a1, e1, w1⟩ := bEP Tryz.underlying9 h1
  obtain rfl := (List.cons.inj e1).1
  exact aNC a0 a1 yH
end Go.Hl
namespace Go.Proofs.YtchbdakgjlnbgaaGreatDoor
open Go.Hl
theorem a6C (W : World) (h : laidMetH Tryz.prog Rows.fnExactReplayRow.laid W) (hsh : W.ShapedOpen Tryz.prog) : ∀ p ∈ pV, ∃ cs t f, W.heap[p.1]? = some (.cells cs t f) ∧ p.2 cs := by
 rw [MakeChecks.laidMetH_plain _ _ _ (by kernel_rfl)] at h
 have h2 := kL (kL (h))
 have h3 : Lib.TabIs Tryz.prog W "internal/strconv.uint64pow10" .u64 Lib.pow10Tab := Lib.tabIs_of_head (rest := _) (g := 1) (t := 275) (e := 238) (n := 20) (by kernel_rfl) (by kernel_rfl) (by kernel_rfl) (by kernel_rfl) (by kernel_rfl) (by kernel_rfl) h2
 have q1 := aED (g := 6) (t := 244) (kL (kL (kL (kL (kL (h)))))) (by kernel_rfl) (by kernel_rfl) (by kernel_rfl : aDR Tryz.prog 244 = true)
 have q2 := aED (g := 7) (t := 244) (kL (kL (kL (kL (h))))) (by kernel_rfl) (by kernel_rfl) (by kernel_rfl : aDR Tryz.prog 244 = true)
 have q3 := Go.Proofs.cell_of_shapedOpen_int (g := 0) (zero := #[.int .i64 0]) (t := 3) hsh (of_decide_eq_true (by kernel_rfl)) (by kernel_rfl) rfl (by kernel_rfl) (by kernel_rfl) Tryz.underlying3
 intro p hp
 simp only [pV, List.mem_cons, List.mem_nil_iff, or_false] at hp
 rcases hp with rfl | rfl | rfl | rfl
 ·unfold Lib.TabIs World.var? at h3
  rw [show Tryz.prog.globalNamed "internal/strconv.uint64pow10" = some 1 by kernel_rfl, Option.bind_some] at h3
  cases hW : W.heap[1]? with
  |none => rw [hW] at h3; cases h3
  |some o =>
   rw [hW] at h3
   cases o with
   |cells c t f => exact ⟨c, t, f, rfl, (Option.some.inj h3).trans (by kernel_rfl)⟩
   | _ => cases h3
 ·exact aFW q1
 ·exact aFW q2
 ·exact a57 q3
theorem aV0 (os : Os) (started : os.Started) (H : Type) (enc : TypeId × Value → H) :
  ReturnsInHanded {} Tryz.checked os 3 .any (fun w args => (Rows.fnExactReplaySpec.pre enc Tryz.prog Tryz.f3 [] false w args ∧ laidMetH Tryz.prog Rows.fnExactReplayRow.laid w) ∧ sizedMet enc Tryz.prog Tryz.f3 (OpenSpec.ofChange Rows.fnExactReplaySpec) false w args) (Rows.fnExactReplaySpec.post enc Tryz.prog Tryz.f3 false true false false) :=
 aWP (C := Tryz.checked) (by kernel_rfl) started (by kernel_rfl) Tryz.func3
  (ChangeSpec.witness_shaped (enc := enc) (C := Tryz.checked) (os := os) (X := fun w _ => laidMetH Tryz.prog Rows.fnExactReplayRow.laid w) false (World.laidAll Tryz.prog os Rows.fnExactReplayRow.laid) #[.agg #[.slice none 0 0, .int .i64 0, .int .i64 0, .slice none 0 0, .slice none 0 0], (.string ⟨#[]⟩)] 8 (World.laidAll_os _ _ _) (World.shaped_of_ZipB (by kernel_rfl) (by kernel_rfl)) (by kernel_rfl) (by kernel_rfl) (by kernel_rfl)
   (by rw [MakeChecks.laidMetH_plain _ _ _ (by kernel_rfl)]; exact laidMet_laidAll _ (by kernel_rfl) (by kernel_rfl)))
  (by kernel_rfl) (by kernel_rfl) (by kernel_rfl) b5M bQ1 (by kernel_rfl) rfl (fun ds h => match ds, h with | [_, _], _ => rfl) (tb := 4) rfl Tryz.underlying4 (fun xs h => a6B h) (a6C)
/-- Each closed fact of the row by itself: the memory of the kernel is freed between them. -/
theorem bX7 {a b : Bool} (ha : a = true) (hb : b = true) : (a && b) = true := by rw [ha, hb]; rfl
theorem a1Y : Tryz.pinned.checked.prog.funcNamed Rows.fnExactReplayRow.func = some 3 := by kernel_rfl
set_option maxHeartbeats 100000000 in
theorem aWQ : joinedFacts Tryz.pinned.checked.prog 3 Tryz.f3 Rows.fnExactReplaySpec Rows.fnExactReplayRow = true := by
 unfold joinedFacts
 repeat' (with_reducible refine bX7 ?_ ?_)
 all_goals as_aux_lemma => kernel_rfl
theorem a1Z : Rows.FnExactReplaySaid :=
 OpenClaim.holds_of_wide 3 Tryz.f3 rfl rfl rfl rfl rfl rfl rfl ⟨rfl, rfl, rfl, rfl, rfl⟩ rfl rfl rfl rfl rfl a1Y Tryz.func3 aWQ
  (of_decide_eq_true (by kernel_rfl)) (by unfold Func.isWrapper; first | (rw [if_pos (by decide +kernel)]; kernel_rfl) | (rw [if_neg (by decide +kernel)]; exact ⟨rfl, rfl⟩))
  (fun os started H enc _ => aV0 os started H enc)
theorem replay_card : Rows.FnExactReplayCardSaid :=
 Claim7.holds_tied_plain_at .later [] [.data, .data, .data, .data, .sentinel, .sentinel, .pinned] true (true, "981c6bff05c060c86a682d65e696cf8943f6d67094a7c8dadfb1c1b4514361da") true
  a1Z (fun _ h => by cases h) (by kernel_rfl) (fun _ h => by cases h) fnExactReplay_row_tie rfl ⟨rfl, rfl⟩ (by kernel_rfl) rfl
  (fun f fn hf hfn => by
   obtain rfl : f = 3 := Option.some.inj ((show Tryz.prog.funcNamed "loop.example/g01091/laws.FnExactReplay" = some 3 by kernel_rfl).symm.trans hf) |>.symm
   obtain rfl : fn = Tryz.f3 := (Option.some.inj (Tryz.func3.symm.trans hfn)).symm
   exact ⟨by kernel_rfl, fun j t ht => by
    have hall : ∀ t ∈ ([28, 9] : List Nat), Tryz.prog.wantsStandIn t = false := by decide +kernel
    exact hall t (by have := Array.mem_of_getElem? ht; simpa [Tryz.f3] using this)⟩)
  (by kernel_rfl)
#print axioms replay_card
end Go.Proofs.YtchbdakgjlnbgaaGreatDoor
namespace Go.Hl
end Go.Hl

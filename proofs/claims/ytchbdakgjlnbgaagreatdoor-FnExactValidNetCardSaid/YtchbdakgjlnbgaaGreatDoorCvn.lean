/-
  Proved: the law FnExactValidNet returns true at all arguments, and each argument reads behind the call as before. No condition beyond the given row.
-/
import Derived.Test.YtchbdakgjlnbgaaGreatDoorVvI
import Derived.Test.YtchbdakgjlnbgaaGreatDoorVvJ
import Derived.Test.YtchbdakgjlnbgaaGreatDoorHlD
import Derived.Test.YtchbdakgjlnbgaaGreatDoorRows
import Derived.Test.YtchbdakgjlnbgaaGreatDoorTie
import Derived.Test.YtchbdakgjlnbgaaGreatDoorCards
import Derived.Lay
import Derived.MakeChecks
import Derived.SevenTiedAt
import Derived.Lib.LaidTab
namespace Go.Hl
set_option maxRecDepth 100000
open Go.Proofs
set_option linter.unusedVariables false
set_option linter.unusedSimpArgs false
theorem aT9 {xs : List aC} (h : a1G Tryz.prog Tryz.f4.params.toList xs) : dQ Tryz.prog 4 xs (.bool true) := by
 have h : a1G Tryz.prog [53] xs := h
 match xs, h with
 | [v0], h =>
  obtain ⟨⟨m0, h0⟩, _⟩ := h
  simp only [a1F, Tryz.underlying53] at h0
  obtain ⟨ys0, rfl, h0⟩ := h0
  obtain ⟨a0, rfl, w0⟩ := bVN h0
  exact aZC a0
end Go.Hl
namespace Go.Proofs.YtchbdakgjlnbgaaGreatDoor
open Go.Hl
theorem aUA (W : World) (h : laidMetH Tryz.prog Rows.fnExactValidNetRow.laid W) (hsh : W.ShapedOpen Tryz.prog) : ∀ p ∈ oO, ∃ cs t f, W.heap[p.1]? = some (.cells cs t f) ∧ p.2 cs := by
 rw [MakeChecks.laidMetH_plain _ _ _ (by kernel_rfl)] at h
 have h2 := kD (kD (h))
 have h3 : Lib.TabIs Tryz.prog W "internal/strconv.uint64pow10" .u64 Lib.pow10Tab := Lib.tabIs_of_head (rest := _) (g := 1) (t := 275) (e := 238) (n := 20) (by kernel_rfl) (by kernel_rfl) (by kernel_rfl) (by kernel_rfl) (by kernel_rfl) (by kernel_rfl) h2
 have q1 := aCC (g := 6) (t := 244) (kD (kD (kD (kD (kD (h)))))) (by kernel_rfl) (by kernel_rfl) (by kernel_rfl : aBQ Tryz.prog 244 = true)
 have q2 := aCC (g := 7) (t := 244) (kD (kD (kD (kD (h))))) (by kernel_rfl) (by kernel_rfl) (by kernel_rfl : aBQ Tryz.prog 244 = true)
 have q3 := Go.Proofs.cell_of_shapedOpen_int (g := 0) (zero := #[.int .i64 0]) (t := 3) hsh (of_decide_eq_true (by kernel_rfl)) (by kernel_rfl) rfl (by kernel_rfl) (by kernel_rfl) Tryz.underlying3
 intro p hp
 simp only [oO, List.mem_cons, List.mem_nil_iff, or_false] at hp
 rcases hp with rfl | rfl | rfl | rfl
 ·unfold Lib.TabIs World.var? at h3
  rw [show Tryz.prog.globalNamed "internal/strconv.uint64pow10" = some 1 by kernel_rfl, Option.bind_some] at h3
  cases hW : W.heap[1]? with
  |none => rw [hW] at h3; cases h3
  |some o =>
   rw [hW] at h3
   cases o with
   |cells c t f => exact ⟨c, t, f, rfl, (Option.some.inj h3).trans (by kernel_rfl)⟩
   | _ => cases h3
 ·exact aDW q1
 ·exact aDW q2
 ·exact a3L q3
theorem aMX (os : Os) (started : os.Started) (H : Type) (enc : TypeId × Value → H) :
  ReturnsInHanded {} Tryz.checked os 4 .any (fun w args => (Rows.fnExactValidNetSpec.pre enc Tryz.prog Tryz.f4 [] false w args ∧ laidMetH Tryz.prog Rows.fnExactValidNetRow.laid w) ∧ sizedMet enc Tryz.prog Tryz.f4 (OpenSpec.ofChange Rows.fnExactValidNetSpec) false w args) (Rows.fnExactValidNetSpec.post enc Tryz.prog Tryz.f4 false true false false) :=
 aZD (C := Tryz.checked) (by kernel_rfl) started (by kernel_rfl) Tryz.func4
  (ChangeSpec.witness_shaped (enc := enc) (C := Tryz.checked) (os := os) (X := fun w _ => laidMetH Tryz.prog Rows.fnExactValidNetRow.laid w) false (World.laidAll Tryz.prog os Rows.fnExactValidNetRow.laid) #[.agg #[.slice none 0 0, .int .i64 0, .int .i64 0, .slice none 0 0, .slice none 0 0, .slice none 0 0, .int .i64 0, .int .i64 0, .slice none 0 0, .slice none 0 0, .slice none 0 0, .slice none 0 0, .slice none 0 0, .slice none 0 0, .string ⟨#[]⟩, .int .i64 0, .slice none 0 0, .slice none 0 0]] 8 (World.laidAll_os _ _ _) (World.shaped_of_ZipB (by kernel_rfl) (by kernel_rfl)) (by kernel_rfl) (by kernel_rfl) (by kernel_rfl)
   (by rw [MakeChecks.laidMetH_plain _ _ _ (by kernel_rfl)]; exact laidMet_laidAll _ (by kernel_rfl) (by kernel_rfl)))
  (by kernel_rfl) (by kernel_rfl) (by kernel_rfl) b2W bOP (by kernel_rfl) rfl (fun ds h => match ds, h with | [_], _ => rfl) (tb := 4) rfl Tryz.underlying4 (fun xs h => aT9 h) (aUA)
/-- Each closed fact of the row by itself: the memory of the kernel is bRX between them. -/
theorem bVO {a b : Bool} (ha : a = true) (hb : b = true) : (a && b) = true := by rw [ha, hb]; rfl
theorem aTJ : Tryz.pinned.checked.prog.funcNamed Rows.fnExactValidNetRow.func = some 4 := by kernel_rfl
set_option maxHeartbeats 100000000 in
theorem aOM : joinedFacts Tryz.pinned.checked.prog 4 Tryz.f4 Rows.fnExactValidNetSpec Rows.fnExactValidNetRow = true := by
 unfold joinedFacts
 repeat' (with_reducible refine bVO ?_ ?_)
 all_goals as_aux_lemma => kernel_rfl
theorem aTK : Rows.FnExactValidNetSaid :=
 OpenClaim.holds_of_wide 4 Tryz.f4 rfl rfl rfl rfl rfl rfl rfl ⟨rfl, rfl, rfl, rfl, rfl⟩ rfl rfl rfl rfl rfl aTJ Tryz.func4 aOM
  (of_decide_eq_true (by kernel_rfl)) (by unfold Func.isWrapper; first | (rw [if_pos (by decide +kernel)]; kernel_rfl) | (rw [if_neg (by decide +kernel)]; exact ⟨rfl, rfl⟩))
  (fun os started H enc _ => aMX os started H enc)
theorem validNet_card : Rows.FnExactValidNetCardSaid :=
 Claim7.holds_tied_plain_at .later [] [.data, .data, .data, .data, .sentinel, .sentinel, .pinned] true (true, "981c6bff05c060c86a682d65e696cf8943f6d67094a7c8dadfb1c1b4514361da") true
  aTK (fun _ h => by cases h) (by kernel_rfl) (fun _ h => by cases h) fnExactValidNet_row_tie rfl ⟨rfl, rfl⟩ (by kernel_rfl) rfl
  (fun f fn hf hfn => by
   obtain rfl : f = 4 := Option.some.inj ((show Tryz.prog.funcNamed "loop.example/g01091/laws.FnExactValidNet" = some 4 by kernel_rfl).symm.trans hf) |>.symm
   obtain rfl : fn = Tryz.f4 := (Option.some.inj (Tryz.func4.symm.trans hfn)).symm
   exact ⟨by kernel_rfl, fun j t ht => by
    have hall : ∀ t ∈ ([53] : List Nat), Tryz.prog.wantsStandIn t = false := by decide +kernel
    exact hall t (by have := Array.mem_of_getElem? ht; simpa [Tryz.f4] using this)⟩)
  (by kernel_rfl)
#print axioms validNet_card
end Go.Proofs.YtchbdakgjlnbgaaGreatDoor
namespace Go.Hl
end Go.Hl

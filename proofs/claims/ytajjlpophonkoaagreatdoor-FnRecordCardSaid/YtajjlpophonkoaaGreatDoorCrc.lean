/-
  Proved: the law FnRecord returns true at all arguments, and each argument reads behind the call as before. No condition beyond the given row.
-/
import Derived.Test.YtajjlpophonkoaaGreatDoorVvG
import Derived.Test.YtajjlpophonkoaaGreatDoorHlD
import Derived.Test.YtajjlpophonkoaaGreatDoorRows
import Derived.Test.YtajjlpophonkoaaGreatDoorTie
import Derived.Test.YtajjlpophonkoaaGreatDoorCards
import Derived.Lay
import Derived.MakeChecks
import Derived.SevenTiedAt
import Derived.Lib.LaidTab
namespace Go.Hl
set_option maxRecDepth 100000
open Go.Proofs
set_option linter.unusedVariables false
set_option linter.unusedSimpArgs false
theorem aIR {xs : List aC} (h : aNM Tryz.prog Tryz.f4.params.toList xs) : eX Tryz.prog 4 xs (.bool true) := by
 have h : aNM Tryz.prog [22, 22] xs := h
 match xs, h with
 | [v0, v1], h =>
  obtain ⟨⟨m0, h0⟩, ⟨m1, h1⟩, _⟩ := h
  simp only [aKK, Tryz.underlying22] at h0
  obtain ⟨a0, e0, w0⟩ := aJZ (c := (fun n => [.int .u8 n])) (w := (fun x => InB x)) Tryz.underlying22 a0X h0 (fun m y hm hy => a0W Tryz.underlying5 hy)
  obtain rfl := (List.cons.inj e0).1
  simp only [aKK, Tryz.underlying22] at h1
  obtain ⟨a1, e1, w1⟩ := aJZ (c := (fun n => [.int .u8 n])) (w := (fun x => InB x)) Tryz.underlying22 a0X h1 (fun m y hm hy => a0W Tryz.underlying5 hy)
  obtain rfl := (List.cons.inj e1).1
  exact bBA w0 w1
end Go.Hl
namespace Go.Proofs.YtajjlpophonkoaaGreatDoor
open Go.Hl
theorem aIS (W : World) (h : laidMetH Tryz.prog Rows.fnRecordRow.laid W) (hsh : W.ShapedOpen Tryz.prog) : ∀ p ∈ kR, ∃ cs t f, W.heap[p.1]? = some (.cells cs t f) ∧ p.2 cs := by
 rw [MakeChecks.laidMetH_plain _ _ _ (by kernel_rfl)] at h
 have h2 := gH (gH (h))
 have h3 : Lib.TabIs Tryz.prog W "internal/strconv.uint64pow10" .u64 Lib.pow10Tab := Lib.tabIs_of_head (rest := _) (g := 0) (t := 236) (e := 141) (n := 20) (by kernel_rfl) (by kernel_rfl) (by kernel_rfl) (by kernel_rfl) (by kernel_rfl) (by kernel_rfl) h2
 have q1 := u3 (g := 6) (t := 124) (gH (gH (gH (gH (gH (h)))))) (by kernel_rfl) (by kernel_rfl) (by kernel_rfl : uE Tryz.prog 124 = true)
 have q2 := u3 (g := 7) (t := 124) (gH (gH (gH (gH (h))))) (by kernel_rfl) (by kernel_rfl) (by kernel_rfl : uE Tryz.prog 124 = true)
 have q3 := Go.Proofs.cell_of_shapedOpen_int (g := 1) (zero := #[.int .i64 0]) (t := 3) hsh (of_decide_eq_true (by kernel_rfl)) (by kernel_rfl) rfl (by kernel_rfl) (by kernel_rfl) Tryz.underlying3
 intro p hp
 simp only [kR, List.mem_cons, List.mem_nil_iff, or_false] at hp
 rcases hp with rfl | rfl | rfl | rfl
 ·unfold Lib.TabIs World.var? at h3
  rw [show Tryz.prog.globalNamed "internal/strconv.uint64pow10" = some 0 by kernel_rfl, Option.bind_some] at h3
  cases hW : W.heap[0]? with
  |none => rw [hW] at h3; cases h3
  |some o =>
   rw [hW] at h3
   cases o with
   |cells c t f => exact ⟨c, t, f, rfl, (Option.some.inj h3).trans (by kernel_rfl)⟩
   | _ => cases h3
 ·exact wH q1
 ·exact wH q2
 ·exact aPE q3
theorem aDA (os : Os) (started : os.Started) (H : Type) (enc : TypeId × Value → H) :
  ReturnsInHanded {} Tryz.checked os 4 .any (fun w args => (Rows.fnRecordSpec.pre enc Tryz.prog Tryz.f4 [] false w args ∧ laidMetH Tryz.prog Rows.fnRecordRow.laid w) ∧ sizedMet enc Tryz.prog Tryz.f4 (OpenSpec.ofChange Rows.fnRecordSpec) false w args) (Rows.fnRecordSpec.post enc Tryz.prog Tryz.f4 false true false false) :=
 aL7 (C := Tryz.checked) (by kernel_rfl) started (by kernel_rfl) Tryz.func4
  (ChangeSpec.witness_shaped (enc := enc) (C := Tryz.checked) (os := os) (X := fun w _ => laidMetH Tryz.prog Rows.fnRecordRow.laid w) false (World.laidAll Tryz.prog os Rows.fnRecordRow.laid) #[(.slice none 0 0), (.slice none 0 0)] 8 (World.laidAll_os _ _ _) (World.shaped_of_ZipB (by kernel_rfl) (by kernel_rfl)) (by kernel_rfl) (by kernel_rfl) (by kernel_rfl)
   (by rw [MakeChecks.laidMetH_plain _ _ _ (by kernel_rfl)]; exact laidMet_laidAll _ (by kernel_rfl) (by kernel_rfl)))
  (by kernel_rfl) (by kernel_rfl) (by kernel_rfl) bG9 a5M (by kernel_rfl) rfl (fun ds h => match ds, h with | [_, _], _ => rfl) (tb := 4) rfl Tryz.underlying4 (fun xs h => aIR h) (aIS)
/-- Each closed fact of the row by itself: the memory of the kernel is freed between them. -/
theorem bBB {a b : Bool} (ha : a = true) (hb : b = true) : (a && b) = true := by rw [ha, hb]; rfl
theorem aHV : Tryz.pinned.checked.prog.funcNamed Rows.fnRecordRow.func = some 4 := by kernel_rfl
set_option maxHeartbeats 100000000 in
theorem aED : joinedFacts Tryz.pinned.checked.prog 4 Tryz.f4 Rows.fnRecordSpec Rows.fnRecordRow = true := by
 unfold joinedFacts
 repeat' (with_reducible refine bBB ?_ ?_)
 all_goals as_aux_lemma => kernel_rfl
theorem aHW : Rows.FnRecordSaid :=
 OpenClaim.holds_of_wide 4 Tryz.f4 rfl rfl rfl rfl rfl rfl rfl ⟨rfl, rfl, rfl, rfl, rfl⟩ rfl rfl rfl rfl rfl aHV Tryz.func4 aED
  (of_decide_eq_true (by kernel_rfl)) (by unfold Func.isWrapper; first | (rw [if_pos (by decide +kernel)]; kernel_rfl) | (rw [if_neg (by decide +kernel)]; exact ⟨rfl, rfl⟩))
  (fun os started H enc _ => aDA os started H enc)
theorem fnRecord_card : Rows.FnRecordCardSaid :=
 Claim7.holds_tied_plain_at .later [] [.data, .data, .data, .data, .sentinel, .sentinel, .pinned] true (true, "35e82d8ec88e7d4e934382ecf529f0e3d4d8849723eafc08b23ed9b88078e99c") true
  aHW (fun _ h => by cases h) (by kernel_rfl) (fun _ h => by cases h) fnRecord_row_tie rfl ⟨rfl, rfl⟩ (by kernel_rfl) rfl
  (fun f fn hf hfn => by
   obtain rfl : f = 4 := Option.some.inj ((show Tryz.prog.funcNamed "loop.example/g01091/laws.FnRecord" = some 4 by kernel_rfl).symm.trans hf) |>.symm
   obtain rfl : fn = Tryz.f4 := (Option.some.inj (Tryz.func4.symm.trans hfn)).symm
   exact ⟨by kernel_rfl, fun j t ht => by
    have hall : ∀ t ∈ ([22, 22] : List Nat), Tryz.prog.wantsStandIn t = false := by decide +kernel
    exact hall t (by have := Array.mem_of_getElem? ht; simpa [Tryz.f4] using this)⟩)
  (by kernel_rfl)
#print axioms fnRecord_card
end Go.Proofs.YtajjlpophonkoaaGreatDoor
namespace Go.Hl
end Go.Hl

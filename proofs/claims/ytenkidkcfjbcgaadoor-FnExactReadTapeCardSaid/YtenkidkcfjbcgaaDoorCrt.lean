/-
  Proved: the law FnExactReadTape returns true at all arguments, and each argument reads behind the call as before. No condition beyond the given row.
-/
import Derived.Test.YtenkidkcfjbcgaaDoorVvD
import Derived.Test.YtenkidkcfjbcgaaDoorHlD
import Derived.Test.YtenkidkcfjbcgaaDoorRows
import Derived.Test.YtenkidkcfjbcgaaDoorTie
import Derived.Test.YtenkidkcfjbcgaaDoorCards
import Derived.Lay
import Derived.MakeChecks
import Derived.SevenTiedAt
import Derived.Lib.LaidTab
namespace Go.Hl
open Go.Proofs
set_option linter.unusedVariables false
set_option linter.unusedSimpArgs false
set_option maxRecDepth 100000 in
theorem readTape_args {xs : List HVal} (h : ArgsD Tryd.prog Tryd.f5.params.toList xs) : HFn Tryd.prog 5 xs noRows fun r _ => r = .bool true := by
  have h : ArgsD Tryd.prog [9] xs := h
  match xs, h with
  | [v0], h =>
    obtain ⟨⟨m0, h0⟩, _⟩ := h
    simp only [ArgD, Tryd.underlying9] at h0
    obtain ⟨a0, e0, w0⟩ := dat_str Tryd.underlying9 h0
    obtain rfl := (List.cons.inj e0).1
    exact law_FnExactReadTape a0 noRows
end Go.Hl
namespace Go.Proofs.YtenkidkcfjbcgaaDoor
open Go.Hl
theorem readTape_laid (W : World) (h : laidMetH Tryd.prog Rows.fnExactReadTapeRow.laid W) (hsh : W.ShapedOpen Tryd.prog) : ∀ p ∈ laidBlocks, ∃ cs t f, W.heap[p.1]? = some (.cells cs t f) ∧ p.2 cs := by
  rw [MakeChecks.laidMetH_plain _ _ _ (by kernel_rfl)] at h
  have h2 := laidMet_tail (laidMet_tail (h))
  have h3 : Lib.TabIs Tryd.prog W "internal/strconv.uint64pow10" .u64 Lib.pow10Tab := Lib.tabIs_of_head (rest := _) (g := 0) (t := 165) (e := 152) (n := 20) (by kernel_rfl) (by kernel_rfl) (by kernel_rfl) (by kernel_rfl) (by kernel_rfl) (by kernel_rfl) h2
  have q1 := cell_of_laid_ifc (g := 6) (t := 76) (laidMet_tail (laidMet_tail (laidMet_tail (laidMet_tail (laidMet_tail (h)))))) (by kernel_rfl) (by kernel_rfl) (by kernel_rfl : isIfc Tryd.prog 76 = true)
  have q2 := cell_of_laid_ifc (g := 7) (t := 76) (laidMet_tail (laidMet_tail (laidMet_tail (laidMet_tail (h))))) (by kernel_rfl) (by kernel_rfl) (by kernel_rfl : isIfc Tryd.prog 76 = true)
  have q3 := Go.Proofs.cell_of_shapedOpen_int (g := 1) (zero := #[.int .i64 0]) (t := 3) hsh (of_decide_eq_true (by kernel_rfl)) (by kernel_rfl) rfl (by kernel_rfl) (by kernel_rfl) Tryd.underlying3
  intro p hp
  simp only [laidBlocks, List.mem_cons, List.mem_nil_iff, or_false] at hp
  rcases hp with rfl | rfl | rfl | rfl
  · unfold Lib.TabIs World.var? at h3
    rw [show Tryd.prog.globalNamed "internal/strconv.uint64pow10" = some 0 by kernel_rfl, Option.bind_some] at h3
    cases hW : W.heap[0]? with
    | none => rw [hW] at h3; cases h3
    | some o =>
      rw [hW] at h3
      cases o with
      | cells c t f => exact ⟨c, t, f, rfl, (Option.some.inj h3).trans (by kernel_rfl)⟩
      | _ => cases h3
  · exact laid_of_cell q1
  · exact laid_of_cell q2
  · exact laid_of_int q3
set_option maxRecDepth 100000 in
theorem readTape_returns (os : Os) (started : os.Started) (H : Type) (enc : TypeId × Value → H) :
    ReturnsInHanded {} Tryd.checked os 5 .any (fun w args => (Rows.fnExactReadTapeSpec.pre enc Tryd.prog Tryd.f5 [] false w args ∧ laidMetH Tryd.prog Rows.fnExactReadTapeRow.laid w) ∧ sizedMet enc Tryd.prog Tryd.f5 (OpenSpec.ofChange Rows.fnExactReadTapeSpec) false w args) (Rows.fnExactReadTapeSpec.post enc Tryd.prog Tryd.f5 false true false false) :=
  law_returnsHD (C := Tryd.checked) (by kernel_rfl) started (by kernel_rfl) Tryd.func5
    (ChangeSpec.witness_shaped (enc := enc) (C := Tryd.checked) (os := os) (X := fun w _ => laidMetH Tryd.prog Rows.fnExactReadTapeRow.laid w) false (World.laidAll Tryd.prog os Rows.fnExactReadTapeRow.laid) #[(.string ⟨#[]⟩)] 8 (World.laidAll_os _ _ _) (World.shaped_of_ZipB (by kernel_rfl) (by kernel_rfl)) (by kernel_rfl) (by kernel_rfl) (by kernel_rfl)
      (by rw [MakeChecks.laidMetH_plain _ _ _ (by kernel_rfl)]; exact laidMet_laidAll _ (by kernel_rfl) (by kernel_rfl)))
    (by kernel_rfl) (by kernel_rfl) (by kernel_rfl) datT datT_ok (by kernel_rfl) rfl (fun ds h => match ds, h with | [_], _ => rfl) (tb := 4) rfl Tryd.underlying4 (fun xs h => readTape_args h) (readTape_laid)
theorem readTape_holds : Rows.FnExactReadTapeSaid :=
  OpenClaim.holds_of_wide 5 Tryd.f5 rfl rfl rfl rfl rfl rfl rfl ⟨rfl, rfl, rfl, rfl, rfl⟩ rfl rfl rfl rfl rfl (by kernel_rfl) Tryd.func5 (by kernel_rfl)
    (of_decide_eq_true (by kernel_rfl)) (by unfold Func.isWrapper; first | (rw [if_pos (by decide +kernel)]; kernel_rfl) | (rw [if_neg (by decide +kernel)]; exact ⟨rfl, rfl⟩))
    (fun os started H enc _ => readTape_returns os started H enc)
theorem readTape_card : Rows.FnExactReadTapeCardSaid :=
  Claim7.holds_tied_plain_at .later [] [.data, .data, .data, .data, .sentinel, .sentinel, .pinned] true (true, "7aaa5544c0a034681ff01c6fd22d61e8a9998cbeeb31eb570ec55b66d13c2fe5") true
    readTape_holds (fun _ h => by cases h) (by kernel_rfl) (fun _ h => by cases h) fnExactReadTape_row_tie rfl ⟨rfl, rfl⟩ (by kernel_rfl) rfl
    (fun f fn hf hfn => by
      obtain rfl : f = 5 := Option.some.inj ((show Tryd.prog.funcNamed "loop.example/g01091/laws.FnExactReadTape" = some 5 by kernel_rfl).symm.trans hf) |>.symm
      obtain rfl : fn = Tryd.f5 := (Option.some.inj (Tryd.func5.symm.trans hfn)).symm
      exact ⟨by kernel_rfl, fun j t ht => by
        have hall : ∀ t ∈ ([9] : List Nat), Tryd.prog.wantsStandIn t = false := by decide +kernel
        exact hall t (by have := Array.mem_of_getElem? ht; simpa [Tryd.f5] using this)⟩)
    (by kernel_rfl)
#print axioms readTape_card
end Go.Proofs.YtenkidkcfjbcgaaDoor
namespace Go.Hl


end Go.Hl

/-
  Proved: the law FnExactReadAct returns true at all arguments, and each argument reads behind the call as before. No condition beyond the given row.
-/
import Derived.Test.YtpnelljgohjjdaaDoorVvC
import Derived.Test.YtpnelljgohjjdaaDoorHlD
import Derived.Test.YtpnelljgohjjdaaDoorRows
import Derived.Test.YtpnelljgohjjdaaDoorTie
import Derived.Test.YtpnelljgohjjdaaDoorCards
import Derived.Lay
import Derived.MakeChecks
import Derived.SevenTiedAt
import Derived.Lib.LaidTab
namespace Go.Hl
open Go.Proofs
set_option linter.unusedVariables false
set_option linter.unusedSimpArgs false
set_option maxRecDepth 100000 in
theorem readAct_args {xs : List HVal} (h : ArgsD Tryd.prog Tryd.f3.params.toList xs) : HFn Tryd.prog 3 xs noRows fun r _ => r = .bool true := by
  have h : ArgsD Tryd.prog [9] xs := h
  match xs, h with
  | [v0], h =>
    obtain ⟨⟨m0, h0⟩, _⟩ := h
    simp only [ArgD, Tryd.underlying9] at h0
    obtain ⟨a0, e0, w0⟩ := dat_str Tryd.underlying9 h0
    obtain rfl := (List.cons.inj e0).1
    exact law_FnExactReadAct a0 noRows
end Go.Hl
namespace Go.Proofs.YtpnelljgohjjdaaDoor
open Go.Hl
theorem readAct_laid (W : World) (h : laidMetH Tryd.prog Rows.fnExactReadActRow.laid W) (hsh : W.ShapedOpen Tryd.prog) : ∀ p ∈ laidBlocks, ∃ cs t f, W.heap[p.1]? = some (.cells cs t f) ∧ p.2 cs := by
  rw [MakeChecks.laidMetH_plain _ _ _ (by kernel_rfl)] at h
  have h2 := laidMet_tail (laidMet_tail (h))
  have h3 : Lib.TabIs Tryd.prog W "internal/strconv.uint64pow10" .u64 Lib.pow10Tab := Lib.tabIs_of_head (rest := _) (g := 5) (t := 149) (e := 116) (n := 20) (by kernel_rfl) (by kernel_rfl) (by kernel_rfl) (by kernel_rfl) (by kernel_rfl) (by kernel_rfl) h2
  have q1 := cell_of_laid_ifc (g := 1) (t := 95) (laidMet_tail (laidMet_tail (laidMet_tail (laidMet_tail (laidMet_tail (h)))))) (by kernel_rfl) (by kernel_rfl) (by kernel_rfl : isIfc Tryd.prog 95 = true)
  have q2 := cell_of_laid_ifc (g := 2) (t := 95) (laidMet_tail (laidMet_tail (laidMet_tail (laidMet_tail (h))))) (by kernel_rfl) (by kernel_rfl) (by kernel_rfl : isIfc Tryd.prog 95 = true)
  have q3 := Go.Proofs.cell_of_shapedOpen_int (g := 0) (zero := #[.int .i64 0]) (t := 3) hsh (of_decide_eq_true (by kernel_rfl)) (by kernel_rfl) rfl (by kernel_rfl) (by kernel_rfl) Tryd.underlying3
  intro p hp
  simp only [laidBlocks, List.mem_cons, List.mem_nil_iff, or_false] at hp
  rcases hp with rfl | rfl | rfl | rfl
  · unfold Lib.TabIs World.var? at h3
    rw [show Tryd.prog.globalNamed "internal/strconv.uint64pow10" = some 5 by kernel_rfl, Option.bind_some] at h3
    cases hW : W.heap[5]? with
    | none => rw [hW] at h3; cases h3
    | some o =>
      rw [hW] at h3
      cases o with
      | cells c t f => exact ⟨c, t, f, rfl, (Option.some.inj h3).trans (by kernel_rfl)⟩
      | _ => cases h3
  · exact laid_of_cell q1
  · exact laid_of_cell q2
  · exact laid_of_int q3
set_option maxRecDepth 100000 in
theorem readAct_returns (os : Os) (started : os.Started) (H : Type) (enc : TypeId × Value → H) :
    ReturnsInHanded {} Tryd.checked os 3 .any (fun w args => (Rows.fnExactReadActSpec.pre enc Tryd.prog Tryd.f3 [] false w args ∧ laidMetH Tryd.prog Rows.fnExactReadActRow.laid w) ∧ sizedMet enc Tryd.prog Tryd.f3 (OpenSpec.ofChange Rows.fnExactReadActSpec) false w args) (Rows.fnExactReadActSpec.post enc Tryd.prog Tryd.f3 false true false false) :=
  law_returnsHD (C := Tryd.checked) (by kernel_rfl) started (by kernel_rfl) Tryd.func3
    (ChangeSpec.witness_shaped (enc := enc) (C := Tryd.checked) (os := os) (X := fun w _ => laidMetH Tryd.prog Rows.fnExactReadActRow.laid w) false (World.laidAll Tryd.prog os Rows.fnExactReadActRow.laid) #[(.string ⟨#[]⟩)] 8 (World.laidAll_os _ _ _) (World.shaped_of_ZipB (by kernel_rfl) (by kernel_rfl)) (by kernel_rfl) (by kernel_rfl) (by kernel_rfl)
      (by rw [MakeChecks.laidMetH_plain _ _ _ (by kernel_rfl)]; exact laidMet_laidAll _ (by kernel_rfl) (by kernel_rfl)))
    (by kernel_rfl) (by kernel_rfl) (by kernel_rfl) datT datT_ok (by kernel_rfl) rfl (fun ds h => match ds, h with | [_], _ => rfl) (tb := 4) rfl Tryd.underlying4 (fun xs h => readAct_args h) (readAct_laid)
theorem readAct_holds : Rows.FnExactReadActSaid :=
  OpenClaim.holds_of_wide 3 Tryd.f3 rfl rfl rfl rfl rfl rfl rfl ⟨rfl, rfl, rfl, rfl, rfl⟩ rfl rfl rfl rfl rfl (by kernel_rfl) Tryd.func3 (by kernel_rfl)
    (of_decide_eq_true (by kernel_rfl)) (by unfold Func.isWrapper; first | (rw [if_pos (by decide +kernel)]; kernel_rfl) | (rw [if_neg (by decide +kernel)]; exact ⟨rfl, rfl⟩))
    (fun os started H enc _ => readAct_returns os started H enc)
theorem readAct_card : Rows.FnExactReadActCardSaid :=
  Claim7.holds_tied_plain_at .later [] [.data, .data, .data, .data, .sentinel, .sentinel, .pinned] true (true, "47e991b8ca064ea706298d13e27ca1aad9c00ff12b77609ac1646774ca19088d") true
    readAct_holds (fun _ h => by cases h) (by kernel_rfl) (fun _ h => by cases h) fnExactReadAct_row_tie rfl ⟨rfl, rfl⟩ (by kernel_rfl) rfl
    (fun f fn hf hfn => by
      obtain rfl : f = 3 := Option.some.inj ((show Tryd.prog.funcNamed "loop.example/g01091/laws.FnExactReadAct" = some 3 by kernel_rfl).symm.trans hf) |>.symm
      obtain rfl : fn = Tryd.f3 := (Option.some.inj (Tryd.func3.symm.trans hfn)).symm
      exact ⟨by kernel_rfl, fun j t ht => by
        have hall : ∀ t ∈ ([9] : List Nat), Tryd.prog.wantsStandIn t = false := by decide +kernel
        exact hall t (by have := Array.mem_of_getElem? ht; simpa [Tryd.f3] using this)⟩)
    (by kernel_rfl)
#print axioms readAct_card
end Go.Proofs.YtpnelljgohjjdaaDoor
namespace Go.Hl


end Go.Hl

/-
  Proved: the law FnExactProgramText returns true at all arguments, and each argument reads behind the call as before. No condition beyond the given row.
-/
import Derived.Test.YtenkidkcfjbcgaaDoorVvC
import Derived.Test.YtenkidkcfjbcgaaDoorVvA
import Derived.Test.YtenkidkcfjbcgaaDoorHlD
import Derived.Test.YtenkidkcfjbcgaaDoorRows
import Derived.Test.YtenkidkcfjbcgaaDoorTie
import Derived.Test.YtenkidkcfjbcgaaDoorCards
import Derived.Lay
import Derived.MakeChecks
import Derived.SevenTiedAt
import Derived.Lib.LaidTab
namespace Go.Hl
open Go.Proofs
set_option linter.unusedVariables false
set_option linter.unusedSimpArgs false
set_option maxRecDepth 100000 in
theorem programText_args {xs : List HVal} (h : ArgsD Tryd.prog Tryd.f4.params.toList xs) : Fn0 Tryd.prog 4 xs (.bool true) := by
  have h : ArgsD Tryd.prog [24] xs := h
  match xs, h with
  | [v0], h =>
    obtain ⟨⟨m0, h0⟩, _⟩ := h
    simp only [ArgD, Tryd.underlying24] at h0
    obtain ⟨ys0, rfl, h0⟩ := h0
    obtain ⟨a0, rfl, w0⟩ := dat_24 h0
    exact law_ProgramText a0
end Go.Hl
namespace Go.Proofs.YtenkidkcfjbcgaaDoor
open Go.Hl
theorem programText_laid (W : World) (h : laidMetH Tryd.prog Rows.fnExactProgramTextRow.laid W) (hsh : W.ShapedOpen Tryd.prog) : ∀ p ∈ laidBlocks, ∃ cs t f, W.heap[p.1]? = some (.cells cs t f) ∧ p.2 cs := by
  rw [MakeChecks.laidMetH_plain _ _ _ (by kernel_rfl)] at h
  have h2 := laidMet_tail (laidMet_tail (h))
  have h3 : Lib.TabIs Tryd.prog W "internal/strconv.uint64pow10" .u64 Lib.pow10Tab := Lib.tabIs_of_head (rest := _) (g := 0) (t := 165) (e := 152) (n := 20) (by kernel_rfl) (by kernel_rfl) (by kernel_rfl) (by kernel_rfl) (by kernel_rfl) (by kernel_rfl) h2
  intro p hp
  simp only [laidBlocks, List.mem_cons, List.mem_nil_iff, or_false] at hp
  rcases hp with rfl
  · unfold Lib.TabIs World.var? at h3
    rw [show Tryd.prog.globalNamed "internal/strconv.uint64pow10" = some 0 by kernel_rfl, Option.bind_some] at h3
    cases hW : W.heap[0]? with
    | none => rw [hW] at h3; cases h3
    | some o =>
      rw [hW] at h3
      cases o with
      | cells c t f => exact ⟨c, t, f, rfl, (Option.some.inj h3).trans (by kernel_rfl)⟩
      | _ => cases h3
set_option maxRecDepth 100000 in
theorem programText_returns (os : Os) (started : os.Started) (H : Type) (enc : TypeId × Value → H) :
    ReturnsInHanded {} Tryd.checked os 4 .any (fun w args => (Rows.fnExactProgramTextSpec.pre enc Tryd.prog Tryd.f4 [] false w args ∧ laidMetH Tryd.prog Rows.fnExactProgramTextRow.laid w) ∧ sizedMet enc Tryd.prog Tryd.f4 (OpenSpec.ofChange Rows.fnExactProgramTextSpec) false w args) (Rows.fnExactProgramTextSpec.post enc Tryd.prog Tryd.f4 false true false false) :=
  law_returnsD (C := Tryd.checked) (by kernel_rfl) started (by kernel_rfl) Tryd.func4
    (ChangeSpec.witness_shaped (enc := enc) (C := Tryd.checked) (os := os) (X := fun w _ => laidMetH Tryd.prog Rows.fnExactProgramTextRow.laid w) false (World.laidAll Tryd.prog os Rows.fnExactProgramTextRow.laid) #[.agg #[.slice none 0 0]] 8 (World.laidAll_os _ _ _) (World.shaped_of_ZipB (by kernel_rfl) (by kernel_rfl)) (by kernel_rfl) (by kernel_rfl) (by kernel_rfl)
      (by rw [MakeChecks.laidMetH_plain _ _ _ (by kernel_rfl)]; exact laidMet_laidAll _ (by kernel_rfl) (by kernel_rfl)))
    (by kernel_rfl) (by kernel_rfl) (by kernel_rfl) datT datT_ok (by kernel_rfl) rfl (fun ds h => match ds, h with | [_], _ => rfl) (tb := 4) rfl Tryd.underlying4 (fun xs h => programText_args h) (programText_laid)
theorem programText_holds : Rows.FnExactProgramTextSaid :=
  OpenClaim.holds_of_wide 4 Tryd.f4 rfl rfl rfl rfl rfl rfl rfl ⟨rfl, rfl, rfl, rfl, rfl⟩ rfl rfl rfl rfl rfl (by kernel_rfl) Tryd.func4 (by kernel_rfl)
    (of_decide_eq_true (by kernel_rfl)) (by unfold Func.isWrapper; first | (rw [if_pos (by decide +kernel)]; kernel_rfl) | (rw [if_neg (by decide +kernel)]; exact ⟨rfl, rfl⟩))
    (fun os started H enc _ => programText_returns os started H enc)
theorem programText_card : Rows.FnExactProgramTextCardSaid :=
  Claim7.holds_tied_plain_at .later [] [.data, .data, .data] true (true, "7aaa5544c0a034681ff01c6fd22d61e8a9998cbeeb31eb570ec55b66d13c2fe5") true
    programText_holds (fun _ h => by cases h) (by kernel_rfl) (fun _ h => by cases h) fnExactProgramText_row_tie rfl ⟨rfl, rfl⟩ (by kernel_rfl) rfl
    (fun f fn hf hfn => by
      obtain rfl : f = 4 := Option.some.inj ((show Tryd.prog.funcNamed "loop.example/g01091/laws.FnExactProgramText" = some 4 by kernel_rfl).symm.trans hf) |>.symm
      obtain rfl : fn = Tryd.f4 := (Option.some.inj (Tryd.func4.symm.trans hfn)).symm
      exact ⟨by kernel_rfl, fun j t ht => by
        have hall : ∀ t ∈ ([24] : List Nat), Tryd.prog.wantsStandIn t = false := by decide +kernel
        exact hall t (by have := Array.mem_of_getElem? ht; simpa [Tryd.f4] using this)⟩)
    (by kernel_rfl)
#print axioms programText_card
end Go.Proofs.YtenkidkcfjbcgaaDoor
namespace Go.Hl


end Go.Hl

/-
  Proved: the law FnProgramText returns true at all arguments, and each argument reads behind the call as before. No condition beyond the given row.
-/
import Derived.Test.YtgkipnacdihfnaaGreatDoorVvF
import Derived.Test.YtgkipnacdihfnaaGreatDoorHlD
import Derived.Test.YtgkipnacdihfnaaGreatDoorRows
import Derived.Test.YtgkipnacdihfnaaGreatDoorTie
import Derived.Test.YtgkipnacdihfnaaGreatDoorCards
import Derived.Lay
import Derived.MakeChecks
import Derived.SevenTiedAt
import Derived.Lib.LaidTab
namespace Go.Hl
open Go.Proofs
set_option linter.unusedVariables false
set_option linter.unusedSimpArgs false
set_option maxRecDepth 100000 in
theorem fnProgramText_args {xs : List HVal} (h : ArgsD Tryz.prog Tryz.f3.params.toList xs) : Fn0 Tryz.prog 3 xs (.bool true) := by
  have h : ArgsD Tryz.prog [22, 22] xs := h
  match xs, h with
  | [v0, v1], h =>
    obtain ⟨⟨m0, h0⟩, ⟨m1, h1⟩, _⟩ := h
    simp only [ArgD, Tryz.underlying22] at h0
    obtain ⟨a0, e0, w0⟩ := dat_slice (c := (fun n => [.int .u8 n])) (w := (fun x => InB x)) Tryz.underlying22 cells5 h0 (fun m y hm hy => dat_u8 Tryz.underlying5 hy)
    obtain rfl := (List.cons.inj e0).1
    simp only [ArgD, Tryz.underlying22] at h1
    obtain ⟨a1, e1, w1⟩ := dat_slice (c := (fun n => [.int .u8 n])) (w := (fun x => InB x)) Tryz.underlying22 cells5 h1 (fun m y hm hy => dat_u8 Tryz.underlying5 hy)
    obtain rfl := (List.cons.inj e1).1
    exact lawPT w0
end Go.Hl
namespace Go.Proofs.YtgkipnacdihfnaaGreatDoor
open Go.Hl
theorem fnProgramText_laid (W : World) (h : laidMetH Tryz.prog Rows.fnProgramTextRow.laid W) (hsh : W.ShapedOpen Tryz.prog) : ∀ p ∈ laidBlocks, ∃ cs t f, W.heap[p.1]? = some (.cells cs t f) ∧ p.2 cs := by
  rw [MakeChecks.laidMetH_plain _ _ _ (by kernel_rfl)] at h
  have h2 := laidMet_tail (laidMet_tail (h))
  have h3 : Lib.TabIs Tryz.prog W "internal/strconv.uint64pow10" .u64 Lib.pow10Tab := Lib.tabIs_of_head (rest := _) (g := 0) (t := 127) (e := 65) (n := 20) (by kernel_rfl) (by kernel_rfl) (by kernel_rfl) (by kernel_rfl) (by kernel_rfl) (by kernel_rfl) h2
  have q1 := cell_of_laid_ifc (g := 4) (t := 45) (laidMet_tail (laidMet_tail (laidMet_tail (laidMet_tail (laidMet_tail (h)))))) (by kernel_rfl) (by kernel_rfl) (by kernel_rfl : isIfc Tryz.prog 45 = true)
  have q2 := cell_of_laid_ifc (g := 5) (t := 45) (laidMet_tail (laidMet_tail (laidMet_tail (laidMet_tail (h))))) (by kernel_rfl) (by kernel_rfl) (by kernel_rfl : isIfc Tryz.prog 45 = true)
  have q3 := Go.Proofs.cell_of_shapedOpen_int (g := 1) (zero := #[.int .i64 0]) (t := 3) hsh (of_decide_eq_true (by kernel_rfl)) (by kernel_rfl) rfl (by kernel_rfl) (by kernel_rfl) Tryz.underlying3
  intro p hp
  simp only [laidBlocks, List.mem_cons, List.mem_nil_iff, or_false] at hp
  rcases hp with rfl | rfl | rfl | rfl
  · unfold Lib.TabIs World.var? at h3
    rw [show Tryz.prog.globalNamed "internal/strconv.uint64pow10" = some 0 by kernel_rfl, Option.bind_some] at h3
    cases hW : W.heap[0]? with
    | none => rw [hW] at h3; cases h3
    | some o =>
      rw [hW] at h3
      cases o with
      | cells c t f => exact ⟨c, t, f, rfl, (Option.some.inj h3).trans (by kernel_rfl)⟩
      | _ => cases h3
  · exact laid_of_cell q1
  · exact laid_of_cell q2
  · exact laid_of_int q3
set_option maxRecDepth 100000 in
theorem fnProgramText_returns (os : Os) (started : os.Started) (H : Type) (enc : TypeId × Value → H) :
    ReturnsInHanded {} Tryz.checked os 3 .any (fun w args => (Rows.fnProgramTextSpec.pre enc Tryz.prog Tryz.f3 [] false w args ∧ laidMetH Tryz.prog Rows.fnProgramTextRow.laid w) ∧ sizedMet enc Tryz.prog Tryz.f3 (OpenSpec.ofChange Rows.fnProgramTextSpec) false w args) (Rows.fnProgramTextSpec.post enc Tryz.prog Tryz.f3 false true false false) :=
  law_returnsD (C := Tryz.checked) (by kernel_rfl) started (by kernel_rfl) Tryz.func3
    (ChangeSpec.witness_shaped (enc := enc) (C := Tryz.checked) (os := os) (X := fun w _ => laidMetH Tryz.prog Rows.fnProgramTextRow.laid w) false (World.laidAll Tryz.prog os Rows.fnProgramTextRow.laid) #[(.slice none 0 0), (.slice none 0 0)] 8 (World.laidAll_os _ _ _) (World.shaped_of_ZipB (by kernel_rfl) (by kernel_rfl)) (by kernel_rfl) (by kernel_rfl) (by kernel_rfl)
      (by rw [MakeChecks.laidMetH_plain _ _ _ (by kernel_rfl)]; exact laidMet_laidAll _ (by kernel_rfl) (by kernel_rfl)))
    (by kernel_rfl) (by kernel_rfl) (by kernel_rfl) datT datT_ok (by kernel_rfl) rfl (fun ds h => match ds, h with | [_, _], _ => rfl) (tb := 4) rfl Tryz.underlying4 (fun xs h => fnProgramText_args h) (fnProgramText_laid)
theorem fnProgramText_holds : Rows.FnProgramTextSaid :=
  OpenClaim.holds_of_wide 3 Tryz.f3 rfl rfl rfl rfl rfl rfl rfl ⟨rfl, rfl, rfl, rfl, rfl⟩ rfl rfl rfl rfl rfl (by kernel_rfl) Tryz.func3 (by kernel_rfl)
    (of_decide_eq_true (by kernel_rfl)) (by unfold Func.isWrapper; first | (rw [if_pos (by decide +kernel)]; kernel_rfl) | (rw [if_neg (by decide +kernel)]; exact ⟨rfl, rfl⟩))
    (fun os started H enc _ => fnProgramText_returns os started H enc)
theorem fnProgramText_card : Rows.FnProgramTextCardSaid :=
  Claim7.holds_tied_plain_at .later [] [.data, .data, .data, .data, .sentinel, .sentinel, .pinned] true (true, "1236f4cb8da2336b8ead63401c81891d3562984c287b6cbff0753d1396594dcd") true
    fnProgramText_holds (fun _ h => by cases h) (by kernel_rfl) (fun _ h => by cases h) fnProgramText_row_tie rfl ⟨rfl, rfl⟩ (by kernel_rfl) rfl
    (fun f fn hf hfn => by
      obtain rfl : f = 3 := Option.some.inj ((show Tryz.prog.funcNamed "loop.example/g01091/laws.FnProgramText" = some 3 by kernel_rfl).symm.trans hf) |>.symm
      obtain rfl : fn = Tryz.f3 := (Option.some.inj (Tryz.func3.symm.trans hfn)).symm
      exact ⟨by kernel_rfl, fun j t ht => by
        have hall : ∀ t ∈ ([22, 22] : List Nat), Tryz.prog.wantsStandIn t = false := by decide +kernel
        exact hall t (by have := Array.mem_of_getElem? ht; simpa [Tryz.f3] using this)⟩)
    (by kernel_rfl)
#print axioms fnProgramText_card
end Go.Proofs.YtgkipnacdihfnaaGreatDoor
namespace Go.Hl


end Go.Hl

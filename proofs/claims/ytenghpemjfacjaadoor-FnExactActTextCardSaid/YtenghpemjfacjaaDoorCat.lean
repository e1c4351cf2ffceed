/-
  Proved: the law FnExactActText returns true at all arguments, and each argument reads behind the call as before. No condition beyond the given row.
-/
import Derived.Test.YtenghpemjfacjaaDoorVvA
import Derived.Test.YtenghpemjfacjaaDoorHlD
import Derived.Test.YtenghpemjfacjaaDoorRows
import Derived.Test.YtenghpemjfacjaaDoorTie
import Derived.Test.YtenghpemjfacjaaDoorCards
import Derived.Lay
import Derived.MakeChecks
import Derived.SevenTiedAt
import Derived.Lib.LaidTab
namespace Go.Hl
open Go.Proofs
set_option linter.unusedVariables false
set_option linter.unusedSimpArgs false
set_option maxRecDepth 100000 in
theorem actText_args {xs : List HVal} (h : ArgsD Tryd.prog Tryd.f3.params.toList xs) : Fn0 Tryd.prog 3 xs (.bool true) := by
  have h : ArgsD Tryd.prog [24] xs := h
  match xs, h with
  | [v0], h =>
    obtain ⟨⟨m0, h0⟩, _⟩ := h
    simp only [ArgD, Tryd.underlying24] at h0
    obtain ⟨ys0, rfl, h0⟩ := h0
    obtain ⟨a0, rfl, w0⟩ := dat_24 h0
    exact law_ActText a0
end Go.Hl
namespace Go.Proofs.YtenghpemjfacjaaDoor
open Go.Hl
theorem actText_laid (W : World) (h : laidMetH Tryd.prog Rows.fnExactActTextRow.laid W) : ∀ p ∈ laidBlocks, ∃ t f, W.heap[p.1]? = some (.cells p.2 t f) := by
  rw [MakeChecks.laidMetH_plain _ _ _ (by kernel_rfl)] at h
  have h2 := laidMet_tail (laidMet_tail h)
  have h3 : Lib.TabIs Tryd.prog W "internal/strconv.uint64pow10" .u64 Lib.pow10Tab := Lib.tabIs_of_head (rest := []) (g := 1) (t := 161) (e := 150) (n := 20) (by kernel_rfl) (by kernel_rfl) (by kernel_rfl) (by kernel_rfl) (by kernel_rfl) (by kernel_rfl) h2
  intro p hp
  rw [List.mem_singleton.1 hp]
  unfold Lib.TabIs World.var? at h3
  rw [show Tryd.prog.globalNamed "internal/strconv.uint64pow10" = some 1 by kernel_rfl, Option.bind_some] at h3
  cases hW : W.heap[1]? with
  | none => rw [hW] at h3; cases h3
  | some o =>
    rw [hW] at h3
    cases o with
    | cells c t f => exact ⟨t, f, congrArg (fun c => some (Obj.cells c t f)) ((Option.some.inj h3).trans (by kernel_rfl))⟩
    | _ => cases h3
set_option maxRecDepth 100000 in
theorem actText_returns (os : Os) (started : os.Started) (H : Type) (enc : TypeId × Value → H) :
    ReturnsInHanded {} Tryd.checked os 3 .any (fun w args => (Rows.fnExactActTextSpec.pre enc Tryd.prog Tryd.f3 [] false w args ∧ laidMetH Tryd.prog Rows.fnExactActTextRow.laid w) ∧ sizedMet enc Tryd.prog Tryd.f3 (OpenSpec.ofChange Rows.fnExactActTextSpec) false w args) (Rows.fnExactActTextSpec.post enc Tryd.prog Tryd.f3 false true false false) :=
  law_returnsD (C := Tryd.checked) (by kernel_rfl) started (by kernel_rfl) Tryd.func3
    (ChangeSpec.witness_shaped (enc := enc) (C := Tryd.checked) (os := os) (X := fun w _ => laidMetH Tryd.prog Rows.fnExactActTextRow.laid w) false (World.laidAll Tryd.prog os Rows.fnExactActTextRow.laid) #[.agg #[.int .i64 0, .int .i64 0, .int .i64 0, .slice none 0 0]] 8 (World.laidAll_os _ _ _) (World.shaped_of_ZipB (by kernel_rfl) (by kernel_rfl)) (by kernel_rfl) (by kernel_rfl) (by kernel_rfl)
      (by rw [MakeChecks.laidMetH_plain _ _ _ (by kernel_rfl)]; exact laidMet_laidAll _ (by kernel_rfl) (by kernel_rfl)))
    (by kernel_rfl) (by kernel_rfl) (by kernel_rfl) datT datT_ok (by kernel_rfl) rfl (fun ds h => match ds, h with | [_], _ => rfl) (tb := 4) rfl Tryd.underlying4 (fun xs h => actText_args h) (actText_laid)
theorem actText_holds : Rows.FnExactActTextSaid :=
  OpenClaim.holds_of_wide 3 Tryd.f3 rfl rfl rfl rfl rfl rfl rfl ⟨rfl, rfl, rfl, rfl, rfl⟩ rfl rfl rfl rfl rfl (by kernel_rfl) Tryd.func3 (by kernel_rfl)
    (of_decide_eq_true (by kernel_rfl)) (by unfold Func.isWrapper; first | (rw [if_pos (by decide +kernel)]; kernel_rfl) | (rw [if_neg (by decide +kernel)]; exact ⟨rfl, rfl⟩))
    (fun os started H enc _ => actText_returns os started H enc)
theorem actText_card : Rows.FnExactActTextCardSaid :=
  Claim7.holds_tied_plain_at .later [] [.data, .data, .data] true (true, "f863787dee01ef2bd29355f041003f1590002ae29c701fec194678672f01effe") true
    actText_holds (fun _ h => by cases h) (by kernel_rfl) (fun _ h => by cases h) fnExactActText_row_tie rfl ⟨rfl, rfl⟩ (by kernel_rfl) rfl
    (fun f fn hf hfn => by
      obtain rfl : f = 3 := Option.some.inj ((show Tryd.prog.funcNamed "loop.example/g01091/laws.FnExactActText" = some 3 by kernel_rfl).symm.trans hf) |>.symm
      obtain rfl : fn = Tryd.f3 := (Option.some.inj (Tryd.func3.symm.trans hfn)).symm
      exact ⟨by kernel_rfl, fun j t ht => by
        have hall : ∀ t ∈ ([24] : List Nat), Tryd.prog.wantsStandIn t = false := by decide +kernel
        exact hall t (by have := Array.mem_of_getElem? ht; simpa [Tryd.f3] using this)⟩)
    (by kernel_rfl)
#print axioms actText_card
end Go.Proofs.YtenghpemjfacjaaDoor
namespace Go.Hl


end Go.Hl

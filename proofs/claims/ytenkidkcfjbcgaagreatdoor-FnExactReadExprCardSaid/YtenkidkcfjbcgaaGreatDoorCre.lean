/-
  Proved: the law FnExactReadExpr returns true at all arguments, and each argument reads behind the call as before. No condition beyond the given row.
-/
import Derived.Test.YtenkidkcfjbcgaaGreatDoorVvF
import Derived.Test.YtenkidkcfjbcgaaGreatDoorVvA
import Derived.Test.YtenkidkcfjbcgaaGreatDoorHlD
import Derived.Test.YtenkidkcfjbcgaaGreatDoorRows
import Derived.Test.YtenkidkcfjbcgaaGreatDoorTie
import Derived.Test.YtenkidkcfjbcgaaGreatDoorCards
import Derived.Lay
import Derived.MakeChecks
import Derived.SevenTiedAt
import Derived.Lib.LaidTab
namespace Go.Hl
open Go.Proofs
set_option linter.unusedVariables false
set_option linter.unusedSimpArgs false
set_option maxRecDepth 100000 in
theorem readExpr_args {xs : List HVal} (h : ArgsD Tryz.prog Tryz.f3.params.toList xs) : HFn Tryz.prog 3 xs noRows fun r _ => r = .bool true := by
  have h : ArgsD Tryz.prog [24, 9, 2, 2] xs := h
  match xs, h with
  | [v0, v1, v2, v3], h =>
    obtain ⟨⟨m0, h0⟩, ⟨m1, h1⟩, ⟨m2, h2⟩, ⟨m3, h3⟩, _⟩ := h
    simp only [ArgD, Tryz.underlying24] at h0
    obtain ⟨ys0, rfl, h0⟩ := h0
    obtain ⟨a0, rfl, w0⟩ := dat_24 h0
    simp only [ArgD, Tryz.underlying9] at h1
    obtain ⟨a1, e1, w1⟩ := dat_str Tryz.underlying9 h1
    obtain rfl := (List.cons.inj e1).1
    simp only [ArgD, Tryz.underlying2] at h2
    obtain ⟨a2, e2, w2⟩ := dat_i64 Tryz.underlying2 h2
    obtain rfl := (List.cons.inj e2).1
    simp only [ArgD, Tryz.underlying2] at h3
    obtain ⟨a3, e3, w3⟩ := dat_i64 Tryz.underlying2 h3
    obtain rfl := (List.cons.inj e3).1
    exact law_FnExactReadExpr a0 a1 a2 a3 noRows
end Go.Hl
namespace Go.Proofs.YtenkidkcfjbcgaaGreatDoor
open Go.Hl
theorem readExpr_laid (W : World) (h : laidMetH Tryz.prog Rows.fnExactReadExprRow.laid W) (hsh : W.ShapedOpen Tryz.prog) : ∀ p ∈ laidBlocks, ∃ cs t f, W.heap[p.1]? = some (.cells cs t f) ∧ p.2 cs := by
  rw [MakeChecks.laidMetH_plain _ _ _ (by kernel_rfl)] at h
  have h2 := laidMet_tail (laidMet_tail (h))
  have h3 : Lib.TabIs Tryz.prog W "internal/strconv.uint64pow10" .u64 Lib.pow10Tab := Lib.tabIs_of_head (rest := _) (g := 5) (t := 173) (e := 144) (n := 20) (by kernel_rfl) (by kernel_rfl) (by kernel_rfl) (by kernel_rfl) (by kernel_rfl) (by kernel_rfl) h2
  have q1 := cell_of_laid_ifc (g := 3) (t := 120) (laidMet_tail (laidMet_tail (laidMet_tail (laidMet_tail (h))))) (by kernel_rfl) (by kernel_rfl) (by kernel_rfl : isIfc Tryz.prog 120 = true)
  have q2 := cell_of_laid_ifc (g := 4) (t := 120) (laidMet_tail (laidMet_tail (laidMet_tail (h)))) (by kernel_rfl) (by kernel_rfl) (by kernel_rfl : isIfc Tryz.prog 120 = true)
  have q3 := Go.Proofs.cell_of_shapedOpen_int (g := 0) (zero := #[.int .i64 0]) (t := 3) hsh (of_decide_eq_true (by kernel_rfl)) (by kernel_rfl) rfl (by kernel_rfl) (by kernel_rfl) Tryz.underlying3
  intro p hp
  simp only [laidBlocks, List.mem_cons, List.mem_nil_iff, or_false] at hp
  rcases hp with rfl | rfl | rfl | rfl
  · unfold Lib.TabIs World.var? at h3
    rw [show Tryz.prog.globalNamed "internal/strconv.uint64pow10" = some 5 by kernel_rfl, Option.bind_some] at h3
    cases hW : W.heap[5]? with
    | none => rw [hW] at h3; cases h3
    | some o =>
      rw [hW] at h3
      cases o with
      | cells c t f => exact ⟨c, t, f, rfl, (Option.some.inj h3).trans (by kernel_rfl)⟩
      | _ => cases h3
  · exact laid_of_cell q1
  · exact laid_of_cell q2
  · exact laid_of_int q3
set_option maxRecDepth 100000 in
theorem readExpr_returns (os : Os) (started : os.Started) (H : Type) (enc : TypeId × Value → H) :
    ReturnsInHanded {} Tryz.checked os 3 .any (fun w args => (Rows.fnExactReadExprSpec.pre enc Tryz.prog Tryz.f3 [] false w args ∧ laidMetH Tryz.prog Rows.fnExactReadExprRow.laid w) ∧ sizedMet enc Tryz.prog Tryz.f3 (OpenSpec.ofChange Rows.fnExactReadExprSpec) false w args) (Rows.fnExactReadExprSpec.post enc Tryz.prog Tryz.f3 false true false false) :=
  law_returnsHD (C := Tryz.checked) (by kernel_rfl) started (by kernel_rfl) Tryz.func3
    (ChangeSpec.witness_shaped (enc := enc) (C := Tryz.checked) (os := os) (X := fun w _ => laidMetH Tryz.prog Rows.fnExactReadExprRow.laid w) false (World.laidAll Tryz.prog os Rows.fnExactReadExprRow.laid) #[.agg #[.slice none 0 0], (.string ⟨#[]⟩), (.int .i64 0), (.int .i64 0)] 8 (World.laidAll_os _ _ _) (World.shaped_of_ZipB (by kernel_rfl) (by kernel_rfl)) (by kernel_rfl) (by kernel_rfl) (by kernel_rfl)
      (by rw [MakeChecks.laidMetH_plain _ _ _ (by kernel_rfl)]; exact laidMet_laidAll _ (by kernel_rfl) (by kernel_rfl)))
    (by kernel_rfl) (by kernel_rfl) (by kernel_rfl) datT datT_ok (by kernel_rfl) rfl (fun ds h => match ds, h with | [_, _, _, _], _ => rfl) (tb := 4) rfl Tryz.underlying4 (fun xs h => readExpr_args h) (readExpr_laid)
theorem readExpr_holds : Rows.FnExactReadExprSaid :=
  OpenClaim.holds_of_wide 3 Tryz.f3 rfl rfl rfl rfl rfl rfl rfl ⟨rfl, rfl, rfl, rfl, rfl⟩ rfl rfl rfl rfl rfl (by kernel_rfl) Tryz.func3 (by kernel_rfl)
    (of_decide_eq_true (by kernel_rfl)) (by unfold Func.isWrapper; first | (rw [if_pos (by decide +kernel)]; kernel_rfl) | (rw [if_neg (by decide +kernel)]; exact ⟨rfl, rfl⟩))
    (fun os started H enc _ => readExpr_returns os started H enc)
theorem readExpr_card : Rows.FnExactReadExprCardSaid :=
  Claim7.holds_tied_plain_at .later [] [.data, .data, .data, .sentinel, .sentinel] true (true, "3d8f9005b808340207e0ee773d932b44358055fc0a7d51de132e9fbbda26c48e") true
    readExpr_holds (fun _ h => by cases h) (by kernel_rfl) (fun _ h => by cases h) fnExactReadExpr_row_tie rfl ⟨rfl, rfl⟩ (by kernel_rfl) rfl
    (fun f fn hf hfn => by
      obtain rfl : f = 3 := Option.some.inj ((show Tryz.prog.funcNamed "loop.example/g01091/laws.FnExactReadExpr" = some 3 by kernel_rfl).symm.trans hf) |>.symm
      obtain rfl : fn = Tryz.f3 := (Option.some.inj (Tryz.func3.symm.trans hfn)).symm
      exact ⟨by kernel_rfl, fun j t ht => by
        have hall : ∀ t ∈ ([24, 9, 2, 2] : List Nat), Tryz.prog.wantsStandIn t = false := by decide +kernel
        exact hall t (by have := Array.mem_of_getElem? ht; simpa [Tryz.f3] using this)⟩)
    (by kernel_rfl)
#print axioms readExpr_card
end Go.Proofs.YtenkidkcfjbcgaaGreatDoor
namespace Go.Hl


end Go.Hl

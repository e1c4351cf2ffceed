/-
  Proved: the law FnExactExprText returns true at all arguments, and each argument reads behind the call as before. No condition beyond the given row.
-/
import Derived.Test.YtenkidkcfjbcgaaDoorVvC
import Derived.Test.YtenkidkcfjbcgaaDoorVvA
import Derived.Test.YtenkidkcfjbcgaaDoorHlD
import Derived.Test.YtenkidkcfjbcgaaDoorRows
import Derived.Test.YtenkidkcfjbcgaaDoorTie
import Derived.Test.YtenkidkcfjbcgaaDoorCards
import Derived.Lay
import Derived.MakeChecks
import Derived.SevenTiedAt
import Derived.Lib.LaidTab
namespace Go.Hl
open Go.Proofs
set_option linter.unusedVariables false
set_option linter.unusedSimpArgs false
set_option maxRecDepth 100000 in
theorem exprText_args {xs : List HVal} (h : ArgsD Tryd.prog Tryd.f3.params.toList xs) : Fn0 Tryd.prog 3 xs (.bool true) := by
  have h : ArgsD Tryd.prog [24, 27, 2, 2] xs := h
  match xs, h with
  | [v0, v1, v2, v3], h =>
    obtain ⟨⟨m0, h0⟩, ⟨m1, h1⟩, ⟨m2, h2⟩, ⟨m3, h3⟩, _⟩ := h
    simp only [ArgD, Tryd.underlying24] at h0
    obtain ⟨ys0, rfl, h0⟩ := h0
    obtain ⟨a0, rfl, w0⟩ := dat_24 h0
    simp only [ArgD, Tryd.underlying27] at h1
    obtain ⟨ys1, rfl, h1⟩ := h1
    obtain ⟨a1, rfl, w1⟩ := dat_27 h1
    simp only [ArgD, Tryd.underlying2] at h2
    obtain ⟨a2, e2, w2⟩ := dat_i64 Tryd.underlying2 h2
    obtain rfl := (List.cons.inj e2).1
    simp only [ArgD, Tryd.underlying2] at h3
    obtain ⟨a3, e3, w3⟩ := dat_i64 Tryd.underlying2 h3
    obtain rfl := (List.cons.inj e3).1
    exact law_ExprText a0 a1 a2 a3
end Go.Hl
namespace Go.Proofs.YtenkidkcfjbcgaaDoor
open Go.Hl
theorem exprText_laid (W : World) (h : laidMetH Tryd.prog Rows.fnExactExprTextRow.laid W) (hsh : W.ShapedOpen Tryd.prog) : ∀ p ∈ laidBlocks, ∃ cs t f, W.heap[p.1]? = some (.cells cs t f) ∧ p.2 cs := by
  rw [MakeChecks.laidMetH_plain _ _ _ (by kernel_rfl)] at h
  have h2 := laidMet_tail (laidMet_tail (h))
  have h3 : Lib.TabIs Tryd.prog W "internal/strconv.uint64pow10" .u64 Lib.pow10Tab := Lib.tabIs_of_head (rest := _) (g := 0) (t := 165) (e := 152) (n := 20) (by kernel_rfl) (by kernel_rfl) (by kernel_rfl) (by kernel_rfl) (by kernel_rfl) (by kernel_rfl) h2
  intro p hp
  simp only [laidBlocks, List.mem_cons, List.mem_nil_iff, or_false] at hp
  rcases hp with rfl
  · unfold Lib.TabIs World.var? at h3
    rw [show Tryd.prog.globalNamed "internal/strconv.uint64pow10" = some 0 by kernel_rfl, Option.bind_some] at h3
    cases hW : W.heap[0]? with
    | none => rw [hW] at h3; cases h3
    | some o =>
      rw [hW] at h3
      cases o with
      | cells c t f => exact ⟨c, t, f, rfl, (Option.some.inj h3).trans (by kernel_rfl)⟩
      | _ => cases h3
set_option maxRecDepth 100000 in
theorem exprText_returns (os : Os) (started : os.Started) (H : Type) (enc : TypeId × Value → H) :
    ReturnsInHanded {} Tryd.checked os 3 .any (fun w args => (Rows.fnExactExprTextSpec.pre enc Tryd.prog Tryd.f3 [] false w args ∧ laidMetH Tryd.prog Rows.fnExactExprTextRow.laid w) ∧ sizedMet enc Tryd.prog Tryd.f3 (OpenSpec.ofChange Rows.fnExactExprTextSpec) false w args) (Rows.fnExactExprTextSpec.post enc Tryd.prog Tryd.f3 false true false false) :=
  law_returnsD (C := Tryd.checked) (by kernel_rfl) started (by kernel_rfl) Tryd.func3
    (ChangeSpec.witness_shaped (enc := enc) (C := Tryd.checked) (os := os) (X := fun w _ => laidMetH Tryd.prog Rows.fnExactExprTextRow.laid w) false (World.laidAll Tryd.prog os Rows.fnExactExprTextRow.laid) #[.agg #[.slice none 0 0], .agg #[.int .i64 0, .int .i64 0, .int .i64 0, .int .i64 0, .slice none 0 0], (.int .i64 0), (.int .i64 0)] 8 (World.laidAll_os _ _ _) (World.shaped_of_ZipB (by kernel_rfl) (by kernel_rfl)) (by kernel_rfl) (by kernel_rfl) (by kernel_rfl)
      (by rw [MakeChecks.laidMetH_plain _ _ _ (by kernel_rfl)]; exact laidMet_laidAll _ (by kernel_rfl) (by kernel_rfl)))
    (by kernel_rfl) (by kernel_rfl) (by kernel_rfl) datT datT_ok (by kernel_rfl) rfl (fun ds h => match ds, h with | [_, _, _, _], _ => rfl) (tb := 4) rfl Tryd.underlying4 (fun xs h => exprText_args h) (exprText_laid)
theorem exprText_holds : Rows.FnExactExprTextSaid :=
  OpenClaim.holds_of_wide 3 Tryd.f3 rfl rfl rfl rfl rfl rfl rfl ⟨rfl, rfl, rfl, rfl, rfl⟩ rfl rfl rfl rfl rfl (by kernel_rfl) Tryd.func3 (by kernel_rfl)
    (of_decide_eq_true (by kernel_rfl)) (by unfold Func.isWrapper; first | (rw [if_pos (by decide +kernel)]; kernel_rfl) | (rw [if_neg (by decide +kernel)]; exact ⟨rfl, rfl⟩))
    (fun os started H enc _ => exprText_returns os started H enc)
theorem exprText_card : Rows.FnExactExprTextCardSaid :=
  Claim7.holds_tied_plain_at .later [] [.data, .data, .data] true (true, "7aaa5544c0a034681ff01c6fd22d61e8a9998cbeeb31eb570ec55b66d13c2fe5") true
    exprText_holds (fun _ h => by cases h) (by kernel_rfl) (fun _ h => by cases h) fnExactExprText_row_tie rfl ⟨rfl, rfl⟩ (by kernel_rfl) rfl
    (fun f fn hf hfn => by
      obtain rfl : f = 3 := Option.some.inj ((show Tryd.prog.funcNamed "loop.example/g01091/laws.FnExactExprText" = some 3 by kernel_rfl).symm.trans hf) |>.symm
      obtain rfl : fn = Tryd.f3 := (Option.some.inj (Tryd.func3.symm.trans hfn)).symm
      exact ⟨by kernel_rfl, fun j t ht => by
        have hall : ∀ t ∈ ([24, 27, 2, 2] : List Nat), Tryd.prog.wantsStandIn t = false := by decide +kernel
        exact hall t (by have := Array.mem_of_getElem? ht; simpa [Tryd.f3] using this)⟩)
    (by kernel_rfl)
#print axioms exprText_card
end Go.Proofs.YtenkidkcfjbcgaaDoor
namespace Go.Hl

end Go.Hl

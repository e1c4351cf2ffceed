/-
  NARROWER THAN 'FOR EVERY INPUT', by the rows' own cells (each row's printed sentence says how): FnExactVariationOf: loops · FnExactNewtonStep: loops.
  DERIVED. THE GIVEN ROWS OF THIS SEAT. 4 by the template 'for every input the law returns true; each argument reads behind the call as it read before'; 0 by the template 'total and deterministic' (their statements: YtoomflalicffnaaGreatTotals.lean).
  GIVEN WITH THE SEED: the statements are not yours to turn. If you find one false, say at which input.
  Laid BY PROGRAM, IN A SANDBOX (cutbox-rows.mjs): the forced cells as the released guide's own fill.sh prints them over the translation 5d7d72dde0952076… (all of the seat's roots in one cut). By AI agents, Wed Nov 11 2026. No macro, syntax, notation, axiom, sorry.
-/
import Derived.Test.YtoomflalicffnaaGreatChecked
import GoSem.Claim
import GoSem.ClaimJoined
import GoSem.ClaimMapViews
import Derived.JoinedTies
import Derived.KernelRfl
namespace Go.Proofs.YtoomflalicffnaaGreat
/- THE CELL 'sum', in the pinned program and in every row, IS THE sha256 OF THE DUMP (.gsa) THAT YtoomflalicffnaaGreatProg.lean LOADS. Nothing in Lean hashes anything: it is a label: what it is worth is what the hold of that sum in a sandbox is worth. -/
noncomputable def Tryz.pinned : Pinned := { name := "ytoomflalicffnaagreat", sum := "5d7d72dde09520760f9d534c4134965fb0c29610983f6266537b87ad8a1b70f7", checked := Tryz.checked }
namespace Rows
def none {H : Type} : Left H := { results := [], args := [] }

/-- 'laws.FnExactVariationOf': WHATEVER THE INPUT: true; the input reads as it did. -/
def fnExactVariationOfSpec : ChangeSpec := { name := "fnExactVariationOf", fn := fun _ => fun
  | [d1, d2, d3, d4, d5] => { results := [.lit (.bool true)], args := [d1, d2, d3, d4, d5] }
  | _ => none }
def fnExactVariationOfRow : OpenClaim := { program := "ytoomflalicffnaagreat", sum := "5d7d72dde09520760f9d534c4134965fb0c29610983f6266537b87ad8a1b70f7", func := "loop.example/g01091/laws.FnExactVariationOf", spec := "fnExactVariationOf", unfollowed := true, recurses := true, loops := true, apart := false }
def FnExactVariationOfSaid : Prop := fnExactVariationOfRow.holds Tryz.pinned (OpenSpec.ofChange fnExactVariationOfSpec)

/-- ITS FALSE NEIGHBOUR: 'it returns false'. Refute it at one input. -/
def fnExactVariationOfWrong : ChangeSpec := { name := "fnExactVariationOf", fn := fun _ => fun
  | [d1, d2, d3, d4, d5] => { results := [.lit (.bool false)], args := [d1, d2, d3, d4, d5] }
  | _ => none }
def FnExactVariationOfWrongFalsely : Prop := fnExactVariationOfRow.holds Tryz.pinned (OpenSpec.ofChange fnExactVariationOfWrong)

/-- 'laws.FnExactNewtonStep': WHATEVER THE INPUT: true; the input reads as it did. -/
def fnExactNewtonStepSpec : ChangeSpec := { name := "fnExactNewtonStep", fn := fun _ => fun
  | [d1, d2, d3] => { results := [.lit (.bool true)], args := [d1, d2, d3] }
  | _ => none }
def fnExactNewtonStepRow : OpenClaim := { program := "ytoomflalicffnaagreat", sum := "5d7d72dde09520760f9d534c4134965fb0c29610983f6266537b87ad8a1b70f7", func := "loop.example/g01091/laws.FnExactNewtonStep", spec := "fnExactNewtonStep", unfollowed := true, recurses := true, loops := true, apart := false }
def FnExactNewtonStepSaid : Prop := fnExactNewtonStepRow.holds Tryz.pinned (OpenSpec.ofChange fnExactNewtonStepSpec)

/-- ITS FALSE NEIGHBOUR: 'it returns false'. Refute it at one input. -/
def fnExactNewtonStepWrong : ChangeSpec := { name := "fnExactNewtonStep", fn := fun _ => fun
  | [d1, d2, d3] => { results := [.lit (.bool false)], args := [d1, d2, d3] }
  | _ => none }
def FnExactNewtonStepWrongFalsely : Prop := fnExactNewtonStepRow.holds Tryz.pinned (OpenSpec.ofChange fnExactNewtonStepWrong)

/-- 'laws.FnImplicitSlope': WHATEVER THE INPUT: true; the input reads as it did. -/
def fnImplicitSlopeSpec : ChangeSpec := { name := "fnImplicitSlope", fn := fun _ => fun
  | [d1, d2] => { results := [.lit (.bool true)], args := [d1, d2] }
  | _ => none }
def fnImplicitSlopeRow : OpenClaim := { program := "ytoomflalicffnaagreat", sum := "5d7d72dde09520760f9d534c4134965fb0c29610983f6266537b87ad8a1b70f7", func := "loop.example/g01091/laws.FnImplicitSlope", spec := "fnImplicitSlope", unfollowed := true, recurses := true, apart := false }
def FnImplicitSlopeSaid : Prop := fnImplicitSlopeRow.holds Tryz.pinned (OpenSpec.ofChange fnImplicitSlopeSpec)

/-- ITS FALSE NEIGHBOUR: 'it returns false'. Refute it at one input. -/
def fnImplicitSlopeWrong : ChangeSpec := { name := "fnImplicitSlope", fn := fun _ => fun
  | [d1, d2] => { results := [.lit (.bool false)], args := [d1, d2] }
  | _ => none }
def FnImplicitSlopeWrongFalsely : Prop := fnImplicitSlopeRow.holds Tryz.pinned (OpenSpec.ofChange fnImplicitSlopeWrong)

/-- 'laws.FnInversePath': WHATEVER THE INPUT: true; the input reads as it did. -/
def fnInversePathSpec : ChangeSpec := { name := "fnInversePath", fn := fun _ => fun
  | [d1, d2] => { results := [.lit (.bool true)], args := [d1, d2] }
  | _ => none }
def fnInversePathRow : OpenClaim := { program := "ytoomflalicffnaagreat", sum := "5d7d72dde09520760f9d534c4134965fb0c29610983f6266537b87ad8a1b70f7", func := "loop.example/g01091/laws.FnInversePath", spec := "fnInversePath", unfollowed := true, recurses := true, apart := false }
def FnInversePathSaid : Prop := fnInversePathRow.holds Tryz.pinned (OpenSpec.ofChange fnInversePathSpec)

/-- ITS FALSE NEIGHBOUR: 'it returns false'. Refute it at one input. -/
def fnInversePathWrong : ChangeSpec := { name := "fnInversePath", fn := fun _ => fun
  | [d1, d2] => { results := [.lit (.bool false)], args := [d1, d2] }
  | _ => none }
def FnInversePathWrongFalsely : Prop := fnInversePathRow.holds Tryz.pinned (OpenSpec.ofChange fnInversePathWrong)

/- THE SECOND FORM. 'bulk': how many values and letters a reading holds, each counted each time it is reached (what is shared counts as often as it is met; a slice's spare places count too). A statement '..UptoSaid' is the law's where the arguments, and the package variables that the reading takes, are together of bulk at most 1048576: NARROWER than '..Said'. Prove '..Said' where nothing that the law and all that it calls make is longer than what came in: it says more and counts as full. Else prove '..UptoSaid'. A law counts once. -/
mutual
def uptoBulk {H : Type} : DataW H → Nat
  | .lit (.string bytes) => bytes.length + 1
  | .lit _ => 1
  | .nil => 1
  | .ptr d => uptoBulk d + 1
  | .slice elems spare => uptoBulkAll elems + uptoBulkAll spare + 1
  | .agg parts => uptoBulkAll parts + 1
  | .iface _ d => uptoBulk d + 1
  | .map entries => uptoBulkEntries entries + 1
  | .held _ => 1
def uptoBulkAll {H : Type} : List (DataW H) → Nat
  | [] => 0
  | d :: r => uptoBulk d + uptoBulkAll r
def uptoBulkEntries {H : Type} : List (Lit × DataW H) → Nat
  | [] => 0
  | x :: r => uptoBulkEntry x + uptoBulkEntries r
def uptoBulkEntry {H : Type} : Lit × DataW H → Nat
  | (.string bytes, d) => bytes.length + uptoBulk d + 1
  | (_, d) => uptoBulk d + 1
 end
def uptoSmall : (H : Type) → List (DataW H) → Bool := fun _ ds => decide (uptoBulkAll ds ≤ 1048576)
def OpenSpec.upto (s : _root_.Go.ChangeSpec) : _root_.Go.OpenSpec := { _root_.Go.OpenSpec.ofChange s with cond := some uptoSmall }

/-- 'laws.FnExactVariationOf', WHERE WHAT IT READS IS OF BULK AT MOST 1048576: true; the input reads as it did. -/
def fnExactVariationOfUptoRow : OpenClaim := { program := "ytoomflalicffnaagreat", sum := "5d7d72dde09520760f9d534c4134965fb0c29610983f6266537b87ad8a1b70f7", func := "loop.example/g01091/laws.FnExactVariationOf", spec := "fnExactVariationOf", unfollowed := true, recurses := true, loops := true, apart := false, narrowed := true }
def FnExactVariationOfUptoSaid : Prop := fnExactVariationOfUptoRow.holds Tryz.pinned (OpenSpec.upto fnExactVariationOfSpec)

/-- 'laws.FnExactNewtonStep', WHERE WHAT IT READS IS OF BULK AT MOST 1048576: true; the input reads as it did. -/
def fnExactNewtonStepUptoRow : OpenClaim := { program := "ytoomflalicffnaagreat", sum := "5d7d72dde09520760f9d534c4134965fb0c29610983f6266537b87ad8a1b70f7", func := "loop.example/g01091/laws.FnExactNewtonStep", spec := "fnExactNewtonStep", unfollowed := true, recurses := true, loops := true, apart := false, narrowed := true }
def FnExactNewtonStepUptoSaid : Prop := fnExactNewtonStepUptoRow.holds Tryz.pinned (OpenSpec.upto fnExactNewtonStepSpec)

/-- 'laws.FnImplicitSlope', WHERE WHAT IT READS IS OF BULK AT MOST 1048576: true; the input reads as it did. -/
def fnImplicitSlopeUptoRow : OpenClaim := { program := "ytoomflalicffnaagreat", sum := "5d7d72dde09520760f9d534c4134965fb0c29610983f6266537b87ad8a1b70f7", func := "loop.example/g01091/laws.FnImplicitSlope", spec := "fnImplicitSlope", unfollowed := true, recurses := true, apart := false, narrowed := true }
def FnImplicitSlopeUptoSaid : Prop := fnImplicitSlopeUptoRow.holds Tryz.pinned (OpenSpec.upto fnImplicitSlopeSpec)

/-- 'laws.FnInversePath', WHERE WHAT IT READS IS OF BULK AT MOST 1048576: true; the input reads as it did. -/
def fnInversePathUptoRow : OpenClaim := { program := "ytoomflalicffnaagreat", sum := "5d7d72dde09520760f9d534c4134965fb0c29610983f6266537b87ad8a1b70f7", func := "loop.example/g01091/laws.FnInversePath", spec := "fnInversePath", unfollowed := true, recurses := true, apart := false, narrowed := true }
def FnInversePathUptoSaid : Prop := fnInversePathUptoRow.holds Tryz.pinned (OpenSpec.upto fnInversePathSpec)

end Rows
end Go.Proofs.YtoomflalicffnaaGreat

/-
  NARROWER THAN 'FOR EVERY INPUT', by the rows' own cells (each row's printed sentence says how): FnExactPartOf: loops · FnExactTotalOf: loops · FnExactIsTrue: loops · FnExactUntouched: loops · FnExactVariationOf: loops · FnExactLiePoly: loops · FnExactNewtonStep: loops.
  DERIVED. THE GIVEN ROWS OF THIS SEAT. 7 by the template 'for every input the law returns true; each argument reads behind the call as it read before'; 0 by the template 'total and deterministic' (their statements: YthcfmnldhokmiaaGreatTotals.lean).
  GIVEN WITH THE SEED: the statements are not yours to turn. If you find one false, say at which input.
  Laid BY PROGRAM, IN A SANDBOX (cutbox-rows.mjs): the forced cells as the released guide's own fill.sh prints them over the translation 01e925db9e8ba396… (all of the seat's roots in one cut). By AI agents, Wed Nov 11 2026. No macro, syntax, notation, axiom, sorry.
-/
import Derived.Test.YthcfmnldhokmiaaGreatChecked
import GoSem.Claim
import GoSem.ClaimJoined
import GoSem.ClaimMapViews
import Derived.JoinedTies
import Derived.KernelRfl
namespace Go.Proofs.YthcfmnldhokmiaaGreat
/- THE CELL 'sum', in the pinned program and in every row, IS THE sha256 OF THE DUMP (.gsa) THAT YthcfmnldhokmiaaGreatProg.lean LOADS. Nothing in Lean hashes anything: it is a label: what it is worth is what the hold of that sum in a sandbox is worth. -/
noncomputable def Tryz.pinned : Pinned := { name := "ythcfmnldhokmiaagreat", sum := "01e925db9e8ba396508208bdc9595a75d77b833efb511085193a89e42aeaba5f", checked := Tryz.checked }
namespace Rows
def none {H : Type} : Left H := { results := [], args := [] }

/-- 'laws.FnExactPartOf': WHATEVER THE INPUT: true; the input reads as it did. -/
def fnExactPartOfSpec : ChangeSpec := { name := "fnExactPartOf", fn := fun _ => fun
  | [d1, d2] => { results := [.lit (.bool true)], args := [d1, d2] }
  | _ => none }
def fnExactPartOfRow : OpenClaim := { program := "ythcfmnldhokmiaagreat", sum := "01e925db9e8ba396508208bdc9595a75d77b833efb511085193a89e42aeaba5f", func := "loop.example/g01091/laws.FnExactPartOf", spec := "fnExactPartOf", unfollowed := true, recurses := true, loops := true, apart := false }
def FnExactPartOfSaid : Prop := fnExactPartOfRow.holds Tryz.pinned (OpenSpec.ofChange fnExactPartOfSpec)

/-- ITS FALSE NEIGHBOUR: 'it returns false'. Refute it at one input. -/
def fnExactPartOfWrong : ChangeSpec := { name := "fnExactPartOf", fn := fun _ => fun
  | [d1, d2] => { results := [.lit (.bool false)], args := [d1, d2] }
  | _ => none }
def FnExactPartOfWrongFalsely : Prop := fnExactPartOfRow.holds Tryz.pinned (OpenSpec.ofChange fnExactPartOfWrong)

/-- 'laws.FnExactTotalOf': WHATEVER THE INPUT: true; the input reads as it did. -/
def fnExactTotalOfSpec : ChangeSpec := { name := "fnExactTotalOf", fn := fun _ => fun
  | [d] => { results := [.lit (.bool true)], args := [d] }
  | _ => none }
def fnExactTotalOfRow : OpenClaim := { program := "ythcfmnldhokmiaagreat", sum := "01e925db9e8ba396508208bdc9595a75d77b833efb511085193a89e42aeaba5f", func := "loop.example/g01091/laws.FnExactTotalOf", spec := "fnExactTotalOf", unfollowed := true, recurses := true, loops := true, apart := false }
def FnExactTotalOfSaid : Prop := fnExactTotalOfRow.holds Tryz.pinned (OpenSpec.ofChange fnExactTotalOfSpec)

/-- ITS FALSE NEIGHBOUR: 'it returns false'. Refute it at one input. -/
def fnExactTotalOfWrong : ChangeSpec := { name := "fnExactTotalOf", fn := fun _ => fun
  | [d] => { results := [.lit (.bool false)], args := [d] }
  | _ => none }
def FnExactTotalOfWrongFalsely : Prop := fnExactTotalOfRow.holds Tryz.pinned (OpenSpec.ofChange fnExactTotalOfWrong)

/-- 'laws.FnExactIsTrue': WHATEVER THE INPUT: true; the input reads as it did. -/
def fnExactIsTrueSpec : ChangeSpec := { name := "fnExactIsTrue", fn := fun _ => fun
  | [d] => { results := [.lit (.bool true)], args := [d] }
  | _ => none }
def fnExactIsTrueRow : OpenClaim := { program := "ythcfmnldhokmiaagreat", sum := "01e925db9e8ba396508208bdc9595a75d77b833efb511085193a89e42aeaba5f", func := "loop.example/g01091/laws.FnExactIsTrue", spec := "fnExactIsTrue", unfollowed := true, recurses := true, loops := true, apart := false }
def FnExactIsTrueSaid : Prop := fnExactIsTrueRow.holds Tryz.pinned (OpenSpec.ofChange fnExactIsTrueSpec)

/-- ITS FALSE NEIGHBOUR: 'it returns false'. Refute it at one input. -/
def fnExactIsTrueWrong : ChangeSpec := { name := "fnExactIsTrue", fn := fun _ => fun
  | [d] => { results := [.lit (.bool false)], args := [d] }
  | _ => none }
def FnExactIsTrueWrongFalsely : Prop := fnExactIsTrueRow.holds Tryz.pinned (OpenSpec.ofChange fnExactIsTrueWrong)

/-- 'laws.FnExactUntouched': WHATEVER THE INPUT: true; the input reads as it did. -/
def fnExactUntouchedSpec : ChangeSpec := { name := "fnExactUntouched", fn := fun _ => fun
  | [d1, d2, d3] => { results := [.lit (.bool true)], args := [d1, d2, d3] }
  | _ => none }
def fnExactUntouchedRow : OpenClaim := { program := "ythcfmnldhokmiaagreat", sum := "01e925db9e8ba396508208bdc9595a75d77b833efb511085193a89e42aeaba5f", func := "loop.example/g01091/laws.FnExactUntouched", spec := "fnExactUntouched", unfollowed := true, recurses := true, loops := true, apart := false }
def FnExactUntouchedSaid : Prop := fnExactUntouchedRow.holds Tryz.pinned (OpenSpec.ofChange fnExactUntouchedSpec)

/-- ITS FALSE NEIGHBOUR: 'it returns false'. Refute it at one input. -/
def fnExactUntouchedWrong : ChangeSpec := { name := "fnExactUntouched", fn := fun _ => fun
  | [d1, d2, d3] => { results := [.lit (.bool false)], args := [d1, d2, d3] }
  | _ => none }
def FnExactUntouchedWrongFalsely : Prop := fnExactUntouchedRow.holds Tryz.pinned (OpenSpec.ofChange fnExactUntouchedWrong)

/-- 'laws.FnExactVariationOf': WHATEVER THE INPUT: true; the input reads as it did. -/
def fnExactVariationOfSpec : ChangeSpec := { name := "fnExactVariationOf", fn := fun _ => fun
  | [d1, d2, d3, d4, d5] => { results := [.lit (.bool true)], args := [d1, d2, d3, d4, d5] }
  | _ => none }
def fnExactVariationOfRow : OpenClaim := { program := "ythcfmnldhokmiaagreat", sum := "01e925db9e8ba396508208bdc9595a75d77b833efb511085193a89e42aeaba5f", func := "loop.example/g01091/laws.FnExactVariationOf", spec := "fnExactVariationOf", unfollowed := true, recurses := true, loops := true, apart := false }
def FnExactVariationOfSaid : Prop := fnExactVariationOfRow.holds Tryz.pinned (OpenSpec.ofChange fnExactVariationOfSpec)

/-- ITS FALSE NEIGHBOUR: 'it returns false'. Refute it at one input. -/
def fnExactVariationOfWrong : ChangeSpec := { name := "fnExactVariationOf", fn := fun _ => fun
  | [d1, d2, d3, d4, d5] => { results := [.lit (.bool false)], args := [d1, d2, d3, d4, d5] }
  | _ => none }
def FnExactVariationOfWrongFalsely : Prop := fnExactVariationOfRow.holds Tryz.pinned (OpenSpec.ofChange fnExactVariationOfWrong)

/-- 'laws.FnExactLiePoly': WHATEVER THE INPUT: true; the input reads as it did. -/
def fnExactLiePolySpec : ChangeSpec := { name := "fnExactLiePoly", fn := fun _ => fun
  | [d1, d2, d3] => { results := [.lit (.bool true)], args := [d1, d2, d3] }
  | _ => none }
def fnExactLiePolyRow : OpenClaim := { program := "ythcfmnldhokmiaagreat", sum := "01e925db9e8ba396508208bdc9595a75d77b833efb511085193a89e42aeaba5f", func := "loop.example/g01091/laws.FnExactLiePoly", spec := "fnExactLiePoly", unfollowed := true, recurses := true, loops := true, apart := false }
def FnExactLiePolySaid : Prop := fnExactLiePolyRow.holds Tryz.pinned (OpenSpec.ofChange fnExactLiePolySpec)

/-- ITS FALSE NEIGHBOUR: 'it returns false'. Refute it at one input. -/
def fnExactLiePolyWrong : ChangeSpec := { name := "fnExactLiePoly", fn := fun _ => fun
  | [d1, d2, d3] => { results := [.lit (.bool false)], args := [d1, d2, d3] }
  | _ => none }
def FnExactLiePolyWrongFalsely : Prop := fnExactLiePolyRow.holds Tryz.pinned (OpenSpec.ofChange fnExactLiePolyWrong)

/-- 'laws.FnExactNewtonStep': WHATEVER THE INPUT: true; the input reads as it did. -/
def fnExactNewtonStepSpec : ChangeSpec := { name := "fnExactNewtonStep", fn := fun _ => fun
  | [d1, d2, d3] => { results := [.lit (.bool true)], args := [d1, d2, d3] }
  | _ => none }
def fnExactNewtonStepRow : OpenClaim := { program := "ythcfmnldhokmiaagreat", sum := "01e925db9e8ba396508208bdc9595a75d77b833efb511085193a89e42aeaba5f", func := "loop.example/g01091/laws.FnExactNewtonStep", spec := "fnExactNewtonStep", unfollowed := true, recurses := true, loops := true, apart := false }
def FnExactNewtonStepSaid : Prop := fnExactNewtonStepRow.holds Tryz.pinned (OpenSpec.ofChange fnExactNewtonStepSpec)

/-- ITS FALSE NEIGHBOUR: 'it returns false'. Refute it at one input. -/
def fnExactNewtonStepWrong : ChangeSpec := { name := "fnExactNewtonStep", fn := fun _ => fun
  | [d1, d2, d3] => { results := [.lit (.bool false)], args := [d1, d2, d3] }
  | _ => none }
def FnExactNewtonStepWrongFalsely : Prop := fnExactNewtonStepRow.holds Tryz.pinned (OpenSpec.ofChange fnExactNewtonStepWrong)

/- THE SECOND FORM. 'bulk': how many values and letters a reading holds, each counted each time it is reached (what is shared counts as often as it is met; a slice's spare places count too). A statement '..UptoSaid' is the law's where the arguments, and the package variables that the reading takes, are together of bulk at most 1048576: NARROWER than '..Said'. Prove '..Said' where nothing that the law and all that it calls make is longer than what came in: it says more and counts as full. Else prove '..UptoSaid'. A law counts once. -/
mutual
def uptoBulk {H : Type} : DataW H → Nat
  | .lit (.string bytes) => bytes.length + 1
  | .lit _ => 1
  | .nil => 1
  | .ptr d => uptoBulk d + 1
  | .slice elems spare => uptoBulkAll elems + uptoBulkAll spare + 1
  | .agg parts => uptoBulkAll parts + 1
  | .iface _ d => uptoBulk d + 1
  | .map entries => uptoBulkEntries entries + 1
  | .held _ => 1
def uptoBulkAll {H : Type} : List (DataW H) → Nat
  | [] => 0
  | d :: r => uptoBulk d + uptoBulkAll r
def uptoBulkEntries {H : Type} : List (Lit × DataW H) → Nat
  | [] => 0
  | x :: r => uptoBulkEntry x + uptoBulkEntries r
def uptoBulkEntry {H : Type} : Lit × DataW H → Nat
  | (.string bytes, d) => bytes.length + uptoBulk d + 1
  | (_, d) => uptoBulk d + 1
 end
def uptoSmall : (H : Type) → List (DataW H) → Bool := fun _ ds => decide (uptoBulkAll ds ≤ 1048576)
def OpenSpec.upto (s : _root_.Go.ChangeSpec) : _root_.Go.OpenSpec := { _root_.Go.OpenSpec.ofChange s with cond := some uptoSmall }

/-- 'laws.FnExactPartOf', WHERE WHAT IT READS IS OF BULK AT MOST 1048576: true; the input reads as it did. -/
def fnExactPartOfUptoRow : OpenClaim := { program := "ythcfmnldhokmiaagreat", sum := "01e925db9e8ba396508208bdc9595a75d77b833efb511085193a89e42aeaba5f", func := "loop.example/g01091/laws.FnExactPartOf", spec := "fnExactPartOf", unfollowed := true, recurses := true, loops := true, apart := false, narrowed := true }
def FnExactPartOfUptoSaid : Prop := fnExactPartOfUptoRow.holds Tryz.pinned (OpenSpec.upto fnExactPartOfSpec)

/-- 'laws.FnExactTotalOf', WHERE WHAT IT READS IS OF BULK AT MOST 1048576: true; the input reads as it did. -/
def fnExactTotalOfUptoRow : OpenClaim := { program := "ythcfmnldhokmiaagreat", sum := "01e925db9e8ba396508208bdc9595a75d77b833efb511085193a89e42aeaba5f", func := "loop.example/g01091/laws.FnExactTotalOf", spec := "fnExactTotalOf", unfollowed := true, recurses := true, loops := true, apart := false, narrowed := true }
def FnExactTotalOfUptoSaid : Prop := fnExactTotalOfUptoRow.holds Tryz.pinned (OpenSpec.upto fnExactTotalOfSpec)

/-- 'laws.FnExactIsTrue', WHERE WHAT IT READS IS OF BULK AT MOST 1048576: true; the input reads as it did. -/
def fnExactIsTrueUptoRow : OpenClaim := { program := "ythcfmnldhokmiaagreat", sum := "01e925db9e8ba396508208bdc9595a75d77b833efb511085193a89e42aeaba5f", func := "loop.example/g01091/laws.FnExactIsTrue", spec := "fnExactIsTrue", unfollowed := true, recurses := true, loops := true, apart := false, narrowed := true }
def FnExactIsTrueUptoSaid : Prop := fnExactIsTrueUptoRow.holds Tryz.pinned (OpenSpec.upto fnExactIsTrueSpec)

/-- 'laws.FnExactUntouched', WHERE WHAT IT READS IS OF BULK AT MOST 1048576: true; the input reads as it did. -/
def fnExactUntouchedUptoRow : OpenClaim := { program := "ythcfmnldhokmiaagreat", sum := "01e925db9e8ba396508208bdc9595a75d77b833efb511085193a89e42aeaba5f", func := "loop.example/g01091/laws.FnExactUntouched", spec := "fnExactUntouched", unfollowed := true, recurses := true, loops := true, apart := false, narrowed := true }
def FnExactUntouchedUptoSaid : Prop := fnExactUntouchedUptoRow.holds Tryz.pinned (OpenSpec.upto fnExactUntouchedSpec)

/-- 'laws.FnExactVariationOf', WHERE WHAT IT READS IS OF BULK AT MOST 1048576: true; the input reads as it did. -/
def fnExactVariationOfUptoRow : OpenClaim := { program := "ythcfmnldhokmiaagreat", sum := "01e925db9e8ba396508208bdc9595a75d77b833efb511085193a89e42aeaba5f", func := "loop.example/g01091/laws.FnExactVariationOf", spec := "fnExactVariationOf", unfollowed := true, recurses := true, loops := true, apart := false, narrowed := true }
def FnExactVariationOfUptoSaid : Prop := fnExactVariationOfUptoRow.holds Tryz.pinned (OpenSpec.upto fnExactVariationOfSpec)

/-- 'laws.FnExactLiePoly', WHERE WHAT IT READS IS OF BULK AT MOST 1048576: true; the input reads as it did. -/
def fnExactLiePolyUptoRow : OpenClaim := { program := "ythcfmnldhokmiaagreat", sum := "01e925db9e8ba396508208bdc9595a75d77b833efb511085193a89e42aeaba5f", func := "loop.example/g01091/laws.FnExactLiePoly", spec := "fnExactLiePoly", unfollowed := true, recurses := true, loops := true, apart := false, narrowed := true }
def FnExactLiePolyUptoSaid : Prop := fnExactLiePolyUptoRow.holds Tryz.pinned (OpenSpec.upto fnExactLiePolySpec)

/-- 'laws.FnExactNewtonStep', WHERE WHAT IT READS IS OF BULK AT MOST 1048576: true; the input reads as it did. -/
def fnExactNewtonStepUptoRow : OpenClaim := { program := "ythcfmnldhokmiaagreat", sum := "01e925db9e8ba396508208bdc9595a75d77b833efb511085193a89e42aeaba5f", func := "loop.example/g01091/laws.FnExactNewtonStep", spec := "fnExactNewtonStep", unfollowed := true, recurses := true, loops := true, apart := false, narrowed := true }
def FnExactNewtonStepUptoSaid : Prop := fnExactNewtonStepUptoRow.holds Tryz.pinned (OpenSpec.upto fnExactNewtonStepSpec)

end Rows
end Go.Proofs.YthcfmnldhokmiaaGreat

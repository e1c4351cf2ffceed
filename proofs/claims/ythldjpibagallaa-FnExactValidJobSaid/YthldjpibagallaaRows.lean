/-
  NARROWER THAN 'FOR EVERY INPUT', by the rows' own cells (each row's printed sentence says how): FnExactSameService: loops · FnExactValidJob: loops · FnExactSameNet: loops.
  DERIVED. THE GIVEN ROWS OF THIS SEAT. 5 by the template 'for every input the law returns true; each argument reads behind the call as it read before'; 0 by the template 'total and deterministic' (their statements: YthldjpibagallaaTotals.lean).
  GIVEN WITH THE SEED: the statements are not yours to turn. If you find one false, say at which input.
  Laid BY PROGRAM, IN A SANDBOX (cutbox-rows.mjs): the forced cells as the released guide's own fill.sh prints them over the translation 5044259620fd5718… (all of the seat's roots in one cut). By AI agents, Wed Nov 11 2026. No macro, syntax, notation, axiom, sorry.
-/
import Derived.Test.YthldjpibagallaaChecked
import GoSem.Claim
import GoSem.ClaimJoined
import GoSem.ClaimMapViews
import Derived.JoinedTies
import Derived.KernelRfl
namespace Go.Proofs.Ythldjpibagallaa
/- THE CELL 'sum', in the pinned program and in every row, IS THE sha256 OF THE DUMP (.gsa) THAT YthldjpibagallaaProg.lean LOADS. Nothing in Lean hashes anything: it is a label: what it is worth is what the hold of that sum in a sandbox is worth. -/
noncomputable def Try.pinned : Pinned := { name := "ythldjpibagallaa", sum := "5044259620fd571804beafcce705809385b55b63257bb247d370c71bb60712f2", checked := Try.checked }
namespace Rows
def none {H : Type} : Left H := { results := [], args := [] }

/-- 'laws.FnExactSearchCost': WHATEVER THE INPUT: true; the input reads as it did. -/
def fnExactSearchCostSpec : ChangeSpec := { name := "fnExactSearchCost", fn := fun _ => fun
  | [d1, d2] => { results := [.lit (.bool true)], args := [d1, d2] }
  | _ => none }
def fnExactSearchCostRow : OpenClaim := { program := "ythldjpibagallaa", sum := "5044259620fd571804beafcce705809385b55b63257bb247d370c71bb60712f2", func := "loop.example/g01091/laws.FnExactSearchCost", spec := "fnExactSearchCost", unfollowed := true, recurses := true, plainKeys := false, apart := false }
def FnExactSearchCostSaid : Prop := fnExactSearchCostRow.holds Try.pinned (OpenSpec.ofChange fnExactSearchCostSpec)

/-- ITS FALSE NEIGHBOUR: 'it returns false'. Refute it at one input. -/
def fnExactSearchCostWrong : ChangeSpec := { name := "fnExactSearchCost", fn := fun _ => fun
  | [d1, d2] => { results := [.lit (.bool false)], args := [d1, d2] }
  | _ => none }
def FnExactSearchCostWrongFalsely : Prop := fnExactSearchCostRow.holds Try.pinned (OpenSpec.ofChange fnExactSearchCostWrong)

/-- 'laws.FnSearched': WHATEVER THE INPUT: true; the input reads as it did. -/
def fnSearchedSpec : ChangeSpec := { name := "fnSearched", fn := fun _ => fun
  | [d] => { results := [.lit (.bool true)], args := [d] }
  | _ => none }
def fnSearchedRow : OpenClaim := { program := "ythldjpibagallaa", sum := "5044259620fd571804beafcce705809385b55b63257bb247d370c71bb60712f2", func := "loop.example/g01091/laws.FnSearched", spec := "fnSearched", unfollowed := true, recurses := true, plainKeys := false, apart := false }
def FnSearchedSaid : Prop := fnSearchedRow.holds Try.pinned (OpenSpec.ofChange fnSearchedSpec)

/-- ITS FALSE NEIGHBOUR: 'it returns false'. Refute it at one input. -/
def fnSearchedWrong : ChangeSpec := { name := "fnSearched", fn := fun _ => fun
  | [d] => { results := [.lit (.bool false)], args := [d] }
  | _ => none }
def FnSearchedWrongFalsely : Prop := fnSearchedRow.holds Try.pinned (OpenSpec.ofChange fnSearchedWrong)

/-- 'laws.FnExactSameService': WHATEVER THE INPUT: true; the input reads as it did. -/
def fnExactSameServiceSpec : ChangeSpec := { name := "fnExactSameService", fn := fun _ => fun
  | [d1, d2] => { results := [.lit (.bool true)], args := [d1, d2] }
  | _ => none }
def fnExactSameServiceRow : OpenClaim := { program := "ythldjpibagallaa", sum := "5044259620fd571804beafcce705809385b55b63257bb247d370c71bb60712f2", func := "loop.example/g01091/laws.FnExactSameService", spec := "fnExactSameService", unfollowed := true, recurses := true, loops := true, plainKeys := false, apart := false }
def FnExactSameServiceSaid : Prop := fnExactSameServiceRow.holds Try.pinned (OpenSpec.ofChange fnExactSameServiceSpec)

/-- ITS FALSE NEIGHBOUR: 'it returns false'. Refute it at one input. -/
def fnExactSameServiceWrong : ChangeSpec := { name := "fnExactSameService", fn := fun _ => fun
  | [d1, d2] => { results := [.lit (.bool false)], args := [d1, d2] }
  | _ => none }
def FnExactSameServiceWrongFalsely : Prop := fnExactSameServiceRow.holds Try.pinned (OpenSpec.ofChange fnExactSameServiceWrong)

/-- 'laws.FnExactValidJob': WHATEVER THE INPUT: true; the input reads as it did. -/
def fnExactValidJobSpec : ChangeSpec := { name := "fnExactValidJob", fn := fun _ => fun
  | [d] => { results := [.lit (.bool true)], args := [d] }
  | _ => none }
def fnExactValidJobRow : OpenClaim := { program := "ythldjpibagallaa", sum := "5044259620fd571804beafcce705809385b55b63257bb247d370c71bb60712f2", func := "loop.example/g01091/laws.FnExactValidJob", spec := "fnExactValidJob", unfollowed := true, recurses := true, loops := true, plainKeys := false, apart := false }
def FnExactValidJobSaid : Prop := fnExactValidJobRow.holds Try.pinned (OpenSpec.ofChange fnExactValidJobSpec)

/-- ITS FALSE NEIGHBOUR: 'it returns false'. Refute it at one input. -/
def fnExactValidJobWrong : ChangeSpec := { name := "fnExactValidJob", fn := fun _ => fun
  | [d] => { results := [.lit (.bool false)], args := [d] }
  | _ => none }
def FnExactValidJobWrongFalsely : Prop := fnExactValidJobRow.holds Try.pinned (OpenSpec.ofChange fnExactValidJobWrong)

/-- 'laws.FnExactSameNet': WHATEVER THE INPUT: true; the input reads as it did. -/
def fnExactSameNetSpec : ChangeSpec := { name := "fnExactSameNet", fn := fun _ => fun
  | [d1, d2] => { results := [.lit (.bool true)], args := [d1, d2] }
  | _ => none }
def fnExactSameNetRow : OpenClaim := { program := "ythldjpibagallaa", sum := "5044259620fd571804beafcce705809385b55b63257bb247d370c71bb60712f2", func := "loop.example/g01091/laws.FnExactSameNet", spec := "fnExactSameNet", unfollowed := true, recurses := true, loops := true, plainKeys := false, apart := false }
def FnExactSameNetSaid : Prop := fnExactSameNetRow.holds Try.pinned (OpenSpec.ofChange fnExactSameNetSpec)

/-- ITS FALSE NEIGHBOUR: 'it returns false'. Refute it at one input. -/
def fnExactSameNetWrong : ChangeSpec := { name := "fnExactSameNet", fn := fun _ => fun
  | [d1, d2] => { results := [.lit (.bool false)], args := [d1, d2] }
  | _ => none }
def FnExactSameNetWrongFalsely : Prop := fnExactSameNetRow.holds Try.pinned (OpenSpec.ofChange fnExactSameNetWrong)

/- THE SECOND FORM. 'bulk': how many values and letters a reading holds, each counted each time it is reached (what is shared counts as often as it is met; a slice's spare places count too). A statement '..UptoSaid' is the law's where the arguments, and the package variables that the reading takes, are together of bulk at most 1048576: NARROWER than '..Said'. Prove '..Said' where nothing that the law and all that it calls make is longer than what came in: it says more and counts as full. Else prove '..UptoSaid'. A law counts once. -/
mutual
def uptoBulk {H : Type} : DataW H → Nat
  | .lit (.string bytes) => bytes.length + 1
  | .lit _ => 1
  | .nil => 1
  | .ptr d => uptoBulk d + 1
  | .slice elems spare => uptoBulkAll elems + uptoBulkAll spare + 1
  | .agg parts => uptoBulkAll parts + 1
  | .iface _ d => uptoBulk d + 1
  | .map entries => uptoBulkEntries entries + 1
  | .held _ => 1
def uptoBulkAll {H : Type} : List (DataW H) → Nat
  | [] => 0
  | d :: r => uptoBulk d + uptoBulkAll r
def uptoBulkEntries {H : Type} : List (Lit × DataW H) → Nat
  | [] => 0
  | x :: r => uptoBulkEntry x + uptoBulkEntries r
def uptoBulkEntry {H : Type} : Lit × DataW H → Nat
  | (.string bytes, d) => bytes.length + uptoBulk d + 1
  | (_, d) => uptoBulk d + 1
 end
def uptoSmall : (H : Type) → List (DataW H) → Bool := fun _ ds => decide (uptoBulkAll ds ≤ 1048576)
def OpenSpec.upto (s : _root_.Go.ChangeSpec) : _root_.Go.OpenSpec := { _root_.Go.OpenSpec.ofChange s with cond := some uptoSmall }

/-- 'laws.FnExactSearchCost', WHERE WHAT IT READS IS OF BULK AT MOST 1048576: true; the input reads as it did. -/
def fnExactSearchCostUptoRow : OpenClaim := { program := "ythldjpibagallaa", sum := "5044259620fd571804beafcce705809385b55b63257bb247d370c71bb60712f2", func := "loop.example/g01091/laws.FnExactSearchCost", spec := "fnExactSearchCost", unfollowed := true, recurses := true, plainKeys := false, apart := false, narrowed := true }
def FnExactSearchCostUptoSaid : Prop := fnExactSearchCostUptoRow.holds Try.pinned (OpenSpec.upto fnExactSearchCostSpec)

/-- 'laws.FnSearched', WHERE WHAT IT READS IS OF BULK AT MOST 1048576: true; the input reads as it did. -/
def fnSearchedUptoRow : OpenClaim := { program := "ythldjpibagallaa", sum := "5044259620fd571804beafcce705809385b55b63257bb247d370c71bb60712f2", func := "loop.example/g01091/laws.FnSearched", spec := "fnSearched", unfollowed := true, recurses := true, plainKeys := false, apart := false, narrowed := true }
def FnSearchedUptoSaid : Prop := fnSearchedUptoRow.holds Try.pinned (OpenSpec.upto fnSearchedSpec)

/-- 'laws.FnExactSameService', WHERE WHAT IT READS IS OF BULK AT MOST 1048576: true; the input reads as it did. -/
def fnExactSameServiceUptoRow : OpenClaim := { program := "ythldjpibagallaa", sum := "5044259620fd571804beafcce705809385b55b63257bb247d370c71bb60712f2", func := "loop.example/g01091/laws.FnExactSameService", spec := "fnExactSameService", unfollowed := true, recurses := true, loops := true, plainKeys := false, apart := false, narrowed := true }
def FnExactSameServiceUptoSaid : Prop := fnExactSameServiceUptoRow.holds Try.pinned (OpenSpec.upto fnExactSameServiceSpec)

/-- 'laws.FnExactValidJob', WHERE WHAT IT READS IS OF BULK AT MOST 1048576: true; the input reads as it did. -/
def fnExactValidJobUptoRow : OpenClaim := { program := "ythldjpibagallaa", sum := "5044259620fd571804beafcce705809385b55b63257bb247d370c71bb60712f2", func := "loop.example/g01091/laws.FnExactValidJob", spec := "fnExactValidJob", unfollowed := true, recurses := true, loops := true, plainKeys := false, apart := false, narrowed := true }
def FnExactValidJobUptoSaid : Prop := fnExactValidJobUptoRow.holds Try.pinned (OpenSpec.upto fnExactValidJobSpec)

/-- 'laws.FnExactSameNet', WHERE WHAT IT READS IS OF BULK AT MOST 1048576: true; the input reads as it did. -/
def fnExactSameNetUptoRow : OpenClaim := { program := "ythldjpibagallaa", sum := "5044259620fd571804beafcce705809385b55b63257bb247d370c71bb60712f2", func := "loop.example/g01091/laws.FnExactSameNet", spec := "fnExactSameNet", unfollowed := true, recurses := true, loops := true, plainKeys := false, apart := false, narrowed := true }
def FnExactSameNetUptoSaid : Prop := fnExactSameNetUptoRow.holds Try.pinned (OpenSpec.upto fnExactSameNetSpec)

end Rows
end Go.Proofs.Ythldjpibagallaa

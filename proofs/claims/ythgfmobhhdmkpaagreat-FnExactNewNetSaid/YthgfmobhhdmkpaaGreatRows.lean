/-
  NARROWER THAN 'FOR EVERY INPUT', by the rows' own cells (each row's printed sentence says how): FnExactSumOf: loops · FnExactNewNet: loops · FnExactLoseWorker: loops · FnExactGiveTerm: loops · FnExactChangeTerm: loops · FnExactTakeReport: loops.
  DERIVED. THE GIVEN ROWS OF THIS SEAT. 6 by the template 'for every input the law returns true; each argument reads behind the call as it read before'; 0 by the template 'total and deterministic' (their statements: YthgfmobhhdmkpaaGreatTotals.lean).
  GIVEN WITH THE SEED: the statements are not yours to turn. If you find one false, say at which input.
  Laid BY PROGRAM, IN A SANDBOX (cutbox-rows.mjs): the forced cells as the released guide's own fill.sh prints them over the translation e54dc53a296b795d… (all of the seat's roots in one cut). By AI agents, Wed Nov 11 2026. No macro, syntax, notation, axiom, sorry.
-/
import Derived.Test.YthgfmobhhdmkpaaGreatChecked
import GoSem.Claim
import GoSem.ClaimJoined
import GoSem.ClaimMapViews
import Derived.JoinedTies
import Derived.KernelRfl
namespace Go.Proofs.YthgfmobhhdmkpaaGreat
/- THE CELL 'sum', in the pinned program and in every row, IS THE sha256 OF THE DUMP (.gsa) THAT YthgfmobhhdmkpaaGreatProg.lean LOADS. Nothing in Lean hashes anything: it is a label: what it is worth is what the hold of that sum in a sandbox is worth. -/
noncomputable def Tryz.pinned : Pinned := { name := "ythgfmobhhdmkpaagreat", sum := "e54dc53a296b795d1eaf03f9dc1e1b1d67fbbd724e6224877302e7d4a907ae48", checked := Tryz.checked }
namespace Rows
def none {H : Type} : Left H := { results := [], args := [] }

/-- 'laws.FnExactSumOf': WHATEVER THE INPUT: true; the input reads as it did. -/
def fnExactSumOfSpec : ChangeSpec := { name := "fnExactSumOf", fn := fun _ => fun
  | [d] => { results := [.lit (.bool true)], args := [d] }
  | _ => none }
def fnExactSumOfRow : OpenClaim := { program := "ythgfmobhhdmkpaagreat", sum := "e54dc53a296b795d1eaf03f9dc1e1b1d67fbbd724e6224877302e7d4a907ae48", func := "loop.example/g01091/laws.FnExactSumOf", spec := "fnExactSumOf", unfollowed := true, recurses := true, loops := true, apart := false }
def FnExactSumOfSaid : Prop := fnExactSumOfRow.holds Tryz.pinned (OpenSpec.ofChange fnExactSumOfSpec)

/-- ITS FALSE NEIGHBOUR: 'it returns false'. Refute it at one input. -/
def fnExactSumOfWrong : ChangeSpec := { name := "fnExactSumOf", fn := fun _ => fun
  | [d] => { results := [.lit (.bool false)], args := [d] }
  | _ => none }
def FnExactSumOfWrongFalsely : Prop := fnExactSumOfRow.holds Tryz.pinned (OpenSpec.ofChange fnExactSumOfWrong)

/-- 'laws.FnExactNewNet': WHATEVER THE INPUT: true; the input reads as it did. -/
def fnExactNewNetSpec : ChangeSpec := { name := "fnExactNewNet", fn := fun _ => fun
  | [d1, d2] => { results := [.lit (.bool true)], args := [d1, d2] }
  | _ => none }
def fnExactNewNetRow : OpenClaim := { program := "ythgfmobhhdmkpaagreat", sum := "e54dc53a296b795d1eaf03f9dc1e1b1d67fbbd724e6224877302e7d4a907ae48", func := "loop.example/g01091/laws.FnExactNewNet", spec := "fnExactNewNet", unfollowed := true, recurses := true, loops := true, apart := false }
def FnExactNewNetSaid : Prop := fnExactNewNetRow.holds Tryz.pinned (OpenSpec.ofChange fnExactNewNetSpec)

/-- ITS FALSE NEIGHBOUR: 'it returns false'. Refute it at one input. -/
def fnExactNewNetWrong : ChangeSpec := { name := "fnExactNewNet", fn := fun _ => fun
  | [d1, d2] => { results := [.lit (.bool false)], args := [d1, d2] }
  | _ => none }
def FnExactNewNetWrongFalsely : Prop := fnExactNewNetRow.holds Tryz.pinned (OpenSpec.ofChange fnExactNewNetWrong)

/-- 'laws.FnExactLoseWorker': WHATEVER THE INPUT: true; the input reads as it did. -/
def fnExactLoseWorkerSpec : ChangeSpec := { name := "fnExactLoseWorker", fn := fun _ => fun
  | [d1, d2] => { results := [.lit (.bool true)], args := [d1, d2] }
  | _ => none }
def fnExactLoseWorkerRow : OpenClaim := { program := "ythgfmobhhdmkpaagreat", sum := "e54dc53a296b795d1eaf03f9dc1e1b1d67fbbd724e6224877302e7d4a907ae48", func := "loop.example/g01091/laws.FnExactLoseWorker", spec := "fnExactLoseWorker", unfollowed := true, recurses := true, loops := true, apart := false }
def FnExactLoseWorkerSaid : Prop := fnExactLoseWorkerRow.holds Tryz.pinned (OpenSpec.ofChange fnExactLoseWorkerSpec)

/-- ITS FALSE NEIGHBOUR: 'it returns false'. Refute it at one input. -/
def fnExactLoseWorkerWrong : ChangeSpec := { name := "fnExactLoseWorker", fn := fun _ => fun
  | [d1, d2] => { results := [.lit (.bool false)], args := [d1, d2] }
  | _ => none }
def FnExactLoseWorkerWrongFalsely : Prop := fnExactLoseWorkerRow.holds Tryz.pinned (OpenSpec.ofChange fnExactLoseWorkerWrong)

/-- 'laws.FnExactGiveTerm': WHATEVER THE INPUT: true; the input reads as it did. -/
def fnExactGiveTermSpec : ChangeSpec := { name := "fnExactGiveTerm", fn := fun _ => fun
  | [d1, d2, d3] => { results := [.lit (.bool true)], args := [d1, d2, d3] }
  | _ => none }
def fnExactGiveTermRow : OpenClaim := { program := "ythgfmobhhdmkpaagreat", sum := "e54dc53a296b795d1eaf03f9dc1e1b1d67fbbd724e6224877302e7d4a907ae48", func := "loop.example/g01091/laws.FnExactGiveTerm", spec := "fnExactGiveTerm", unfollowed := true, recurses := true, loops := true, apart := false }
def FnExactGiveTermSaid : Prop := fnExactGiveTermRow.holds Tryz.pinned (OpenSpec.ofChange fnExactGiveTermSpec)

/-- ITS FALSE NEIGHBOUR: 'it returns false'. Refute it at one input. -/
def fnExactGiveTermWrong : ChangeSpec := { name := "fnExactGiveTerm", fn := fun _ => fun
  | [d1, d2, d3] => { results := [.lit (.bool false)], args := [d1, d2, d3] }
  | _ => none }
def FnExactGiveTermWrongFalsely : Prop := fnExactGiveTermRow.holds Tryz.pinned (OpenSpec.ofChange fnExactGiveTermWrong)

/-- 'laws.FnExactChangeTerm': WHATEVER THE INPUT: true; the input reads as it did. -/
def fnExactChangeTermSpec : ChangeSpec := { name := "fnExactChangeTerm", fn := fun _ => fun
  | [d1, d2, d3] => { results := [.lit (.bool true)], args := [d1, d2, d3] }
  | _ => none }
def fnExactChangeTermRow : OpenClaim := { program := "ythgfmobhhdmkpaagreat", sum := "e54dc53a296b795d1eaf03f9dc1e1b1d67fbbd724e6224877302e7d4a907ae48", func := "loop.example/g01091/laws.FnExactChangeTerm", spec := "fnExactChangeTerm", unfollowed := true, recurses := true, loops := true, apart := false }
def FnExactChangeTermSaid : Prop := fnExactChangeTermRow.holds Tryz.pinned (OpenSpec.ofChange fnExactChangeTermSpec)

/-- ITS FALSE NEIGHBOUR: 'it returns false'. Refute it at one input. -/
def fnExactChangeTermWrong : ChangeSpec := { name := "fnExactChangeTerm", fn := fun _ => fun
  | [d1, d2, d3] => { results := [.lit (.bool false)], args := [d1, d2, d3] }
  | _ => none }
def FnExactChangeTermWrongFalsely : Prop := fnExactChangeTermRow.holds Tryz.pinned (OpenSpec.ofChange fnExactChangeTermWrong)

/-- 'laws.FnExactTakeReport': WHATEVER THE INPUT: true; the input reads as it did. -/
def fnExactTakeReportSpec : ChangeSpec := { name := "fnExactTakeReport", fn := fun _ => fun
  | [d1, d2] => { results := [.lit (.bool true)], args := [d1, d2] }
  | _ => none }
def fnExactTakeReportRow : OpenClaim := { program := "ythgfmobhhdmkpaagreat", sum := "e54dc53a296b795d1eaf03f9dc1e1b1d67fbbd724e6224877302e7d4a907ae48", func := "loop.example/g01091/laws.FnExactTakeReport", spec := "fnExactTakeReport", unfollowed := true, recurses := true, loops := true, apart := false }
def FnExactTakeReportSaid : Prop := fnExactTakeReportRow.holds Tryz.pinned (OpenSpec.ofChange fnExactTakeReportSpec)

/-- ITS FALSE NEIGHBOUR: 'it returns false'. Refute it at one input. -/
def fnExactTakeReportWrong : ChangeSpec := { name := "fnExactTakeReport", fn := fun _ => fun
  | [d1, d2] => { results := [.lit (.bool false)], args := [d1, d2] }
  | _ => none }
def FnExactTakeReportWrongFalsely : Prop := fnExactTakeReportRow.holds Tryz.pinned (OpenSpec.ofChange fnExactTakeReportWrong)

/- THE SECOND FORM. 'bulk': how many values and letters a reading holds, each counted each time it is reached (what is shared counts as often as it is met; a slice's spare places count too). A statement '..UptoSaid' is the law's where the arguments, and the package variables that the reading takes, are together of bulk at most 1048576: NARROWER than '..Said'. Prove '..Said' where nothing that the law and all that it calls make is longer than what came in: it says more and counts as full. Else prove '..UptoSaid'. A law counts once. -/
mutual
def uptoBulk {H : Type} : DataW H → Nat
  | .lit (.string bytes) => bytes.length + 1
  | .lit _ => 1
  | .nil => 1
  | .ptr d => uptoBulk d + 1
  | .slice elems spare => uptoBulkAll elems + uptoBulkAll spare + 1
  | .agg parts => uptoBulkAll parts + 1
  | .iface _ d => uptoBulk d + 1
  | .map entries => uptoBulkEntries entries + 1
  | .held _ => 1
def uptoBulkAll {H : Type} : List (DataW H) → Nat
  | [] => 0
  | d :: r => uptoBulk d + uptoBulkAll r
def uptoBulkEntries {H : Type} : List (Lit × DataW H) → Nat
  | [] => 0
  | x :: r => uptoBulkEntry x + uptoBulkEntries r
def uptoBulkEntry {H : Type} : Lit × DataW H → Nat
  | (.string bytes, d) => bytes.length + uptoBulk d + 1
  | (_, d) => uptoBulk d + 1
 end
def uptoSmall : (H : Type) → List (DataW H) → Bool := fun _ ds => decide (uptoBulkAll ds ≤ 1048576)
def OpenSpec.upto (s : _root_.Go.ChangeSpec) : _root_.Go.OpenSpec := { _root_.Go.OpenSpec.ofChange s with cond := some uptoSmall }

/-- 'laws.FnExactSumOf', WHERE WHAT IT READS IS OF BULK AT MOST 1048576: true; the input reads as it did. -/
def fnExactSumOfUptoRow : OpenClaim := { program := "ythgfmobhhdmkpaagreat", sum := "e54dc53a296b795d1eaf03f9dc1e1b1d67fbbd724e6224877302e7d4a907ae48", func := "loop.example/g01091/laws.FnExactSumOf", spec := "fnExactSumOf", unfollowed := true, recurses := true, loops := true, apart := false, narrowed := true }
def FnExactSumOfUptoSaid : Prop := fnExactSumOfUptoRow.holds Tryz.pinned (OpenSpec.upto fnExactSumOfSpec)

/-- 'laws.FnExactNewNet', WHERE WHAT IT READS IS OF BULK AT MOST 1048576: true; the input reads as it did. -/
def fnExactNewNetUptoRow : OpenClaim := { program := "ythgfmobhhdmkpaagreat", sum := "e54dc53a296b795d1eaf03f9dc1e1b1d67fbbd724e6224877302e7d4a907ae48", func := "loop.example/g01091/laws.FnExactNewNet", spec := "fnExactNewNet", unfollowed := true, recurses := true, loops := true, apart := false, narrowed := true }
def FnExactNewNetUptoSaid : Prop := fnExactNewNetUptoRow.holds Tryz.pinned (OpenSpec.upto fnExactNewNetSpec)

/-- 'laws.FnExactLoseWorker', WHERE WHAT IT READS IS OF BULK AT MOST 1048576: true; the input reads as it did. -/
def fnExactLoseWorkerUptoRow : OpenClaim := { program := "ythgfmobhhdmkpaagreat", sum := "e54dc53a296b795d1eaf03f9dc1e1b1d67fbbd724e6224877302e7d4a907ae48", func := "loop.example/g01091/laws.FnExactLoseWorker", spec := "fnExactLoseWorker", unfollowed := true, recurses := true, loops := true, apart := false, narrowed := true }
def FnExactLoseWorkerUptoSaid : Prop := fnExactLoseWorkerUptoRow.holds Tryz.pinned (OpenSpec.upto fnExactLoseWorkerSpec)

/-- 'laws.FnExactGiveTerm', WHERE WHAT IT READS IS OF BULK AT MOST 1048576: true; the input reads as it did. -/
def fnExactGiveTermUptoRow : OpenClaim := { program := "ythgfmobhhdmkpaagreat", sum := "e54dc53a296b795d1eaf03f9dc1e1b1d67fbbd724e6224877302e7d4a907ae48", func := "loop.example/g01091/laws.FnExactGiveTerm", spec := "fnExactGiveTerm", unfollowed := true, recurses := true, loops := true, apart := false, narrowed := true }
def FnExactGiveTermUptoSaid : Prop := fnExactGiveTermUptoRow.holds Tryz.pinned (OpenSpec.upto fnExactGiveTermSpec)

/-- 'laws.FnExactChangeTerm', WHERE WHAT IT READS IS OF BULK AT MOST 1048576: true; the input reads as it did. -/
def fnExactChangeTermUptoRow : OpenClaim := { program := "ythgfmobhhdmkpaagreat", sum := "e54dc53a296b795d1eaf03f9dc1e1b1d67fbbd724e6224877302e7d4a907ae48", func := "loop.example/g01091/laws.FnExactChangeTerm", spec := "fnExactChangeTerm", unfollowed := true, recurses := true, loops := true, apart := false, narrowed := true }
def FnExactChangeTermUptoSaid : Prop := fnExactChangeTermUptoRow.holds Tryz.pinned (OpenSpec.upto fnExactChangeTermSpec)

/-- 'laws.FnExactTakeReport', WHERE WHAT IT READS IS OF BULK AT MOST 1048576: true; the input reads as it did. -/
def fnExactTakeReportUptoRow : OpenClaim := { program := "ythgfmobhhdmkpaagreat", sum := "e54dc53a296b795d1eaf03f9dc1e1b1d67fbbd724e6224877302e7d4a907ae48", func := "loop.example/g01091/laws.FnExactTakeReport", spec := "fnExactTakeReport", unfollowed := true, recurses := true, loops := true, apart := false, narrowed := true }
def FnExactTakeReportUptoSaid : Prop := fnExactTakeReportUptoRow.holds Tryz.pinned (OpenSpec.upto fnExactTakeReportSpec)

end Rows
end Go.Proofs.YthgfmobhhdmkpaaGreat

/-
  DERIVED. GIVEN WITH THE SEED: THE CARDS: each row of YtenkidkcfjbcgaaGreatDoorRows.lean that lists a variable, with what it lists TIED to the program's text (the seventh form; the later family's looks); each row that meets fmt, with fmt's text TOLD by the authors' own Lean function (tested against real Go, not proved from fmt's source: count such statements apart). THE CARD IS WHAT COUNTS. Prove the row's statement (the work); the ties are given (YtenkidkcfjbcgaaGreatDoorTie.lean); close each card by the builder's one call (the guide's Derived/Test/ToyasCard.lean, 'card_holds'). Laid BY PROGRAM, IN A SANDBOX (cutbox-door.mjs). By AI agents, Wed Nov 11 2026. No macro, syntax, notation, axiom, sorry.
-/
import Derived.Test.YtenkidkcfjbcgaaGreatDoorRows
import GoSem.ClaimSeven
namespace Go.Proofs.YtenkidkcfjbcgaaGreatDoor
namespace Rows

/-- THE TIED CARD OF 'laws.FnExactReadExpr'. -/
def fnExactReadExprCard : Claim7 := { stood := { row := fnExactReadExprRow, standIns := [], harness := (true, "3d8f9005b808340207e0ee773d932b44358055fc0a7d51de132e9fbbda26c48e"), looks := true }, kinds := [], alts := [], laidByText := true, laidKinds := [.data, .data, .data, .sentinel, .sentinel], laidTests := true, laidLooks := .later }
def FnExactReadExprCardSaid : Prop := Claim7.holds Tryz.pinned (.plain (OpenSpec.ofChange fnExactReadExprSpec)) fnExactReadExprCard

/-- THE TIED CARD OF 'laws.FnExactReadProgram'. -/
def fnExactReadProgramCard : Claim7 := { stood := { row := fnExactReadProgramRow, standIns := [], harness := (true, "3d8f9005b808340207e0ee773d932b44358055fc0a7d51de132e9fbbda26c48e"), looks := true }, kinds := [], alts := [], laidByText := true, laidKinds := [.data, .data, .data, .data, .sentinel, .sentinel, .pinned], laidTests := true, laidLooks := .later }
def FnExactReadProgramCardSaid : Prop := Claim7.holds Tryz.pinned (.plain (OpenSpec.ofChange fnExactReadProgramSpec)) fnExactReadProgramCard

/-- THE SECOND FORM's CARD OF 'laws.FnExactReadExpr'. -/
def fnExactReadExprUptoCard : Claim7 := { stood := { row := fnExactReadExprUptoRow, standIns := [], harness := (true, "3d8f9005b808340207e0ee773d932b44358055fc0a7d51de132e9fbbda26c48e"), looks := true }, kinds := [], alts := [], laidByText := true, laidKinds := [.data, .data, .data, .sentinel, .sentinel], laidTests := true, laidLooks := .later }
def FnExactReadExprUptoCardSaid : Prop := Claim7.holds Tryz.pinned (.plain (OpenSpec.upto fnExactReadExprSpec)) fnExactReadExprUptoCard

/-- THE SECOND FORM's CARD OF 'laws.FnExactReadProgram'. -/
def fnExactReadProgramUptoCard : Claim7 := { stood := { row := fnExactReadProgramUptoRow, standIns := [], harness := (true, "3d8f9005b808340207e0ee773d932b44358055fc0a7d51de132e9fbbda26c48e"), looks := true }, kinds := [], alts := [], laidByText := true, laidKinds := [.data, .data, .data, .data, .sentinel, .sentinel, .pinned], laidTests := true, laidLooks := .later }
def FnExactReadProgramUptoCardSaid : Prop := Claim7.holds Tryz.pinned (.plain (OpenSpec.upto fnExactReadProgramSpec)) fnExactReadProgramUptoCard
end Rows
end Go.Proofs.YtenkidkcfjbcgaaGreatDoor

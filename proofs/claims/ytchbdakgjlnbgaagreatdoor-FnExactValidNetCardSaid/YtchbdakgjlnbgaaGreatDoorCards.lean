/-
  DERIVED. GIVEN WITH THE SEED: THE CARDS: each row of YtchbdakgjlnbgaaGreatDoorRows.lean that lists a variable, with what it lists TIED to the program's text (the seventh form; the later family's looks); each row that meets fmt, with fmt's text TOLD by the authors' own Lean function (tested against real Go, not proved from fmt's source: count such statements apart). THE CARD IS WHAT COUNTS. Prove the row's statement (the work); the ties are given (YtchbdakgjlnbgaaGreatDoorTie.lean); close each card by the builder's one call (the guide's Derived/Test/ToyasCard.lean, 'card_holds'). Laid BY PROGRAM, IN A SANDBOX (cutbox-door.mjs). By AI agents, Wed Nov 11 2026. No macro, syntax, notation, axiom, sorry.
-/
import Derived.Test.YtchbdakgjlnbgaaGreatDoorRows
import GoSem.ClaimSeven
namespace Go.Proofs.YtchbdakgjlnbgaaGreatDoor
namespace Rows

/-- THE TIED CARD OF 'laws.FnExactReplay'. -/
def fnExactReplayCard : Claim7 := { stood := { row := fnExactReplayRow, standIns := [], harness := (true, "981c6bff05c060c86a682d65e696cf8943f6d67094a7c8dadfb1c1b4514361da"), looks := true }, kinds := [], alts := [], laidByText := true, laidKinds := [.data, .data, .data, .data, .sentinel, .sentinel, .pinned], laidTests := true, laidLooks := .later }
def FnExactReplayCardSaid : Prop := Claim7.holds Tryz.pinned (.plain (OpenSpec.ofChange fnExactReplaySpec)) fnExactReplayCard

/-- THE TIED CARD OF 'laws.FnExactValidNet'. -/
def fnExactValidNetCard : Claim7 := { stood := { row := fnExactValidNetRow, standIns := [], harness := (true, "981c6bff05c060c86a682d65e696cf8943f6d67094a7c8dadfb1c1b4514361da"), looks := true }, kinds := [], alts := [], laidByText := true, laidKinds := [.data, .data, .data, .data, .sentinel, .sentinel, .pinned], laidTests := true, laidLooks := .later }
def FnExactValidNetCardSaid : Prop := Claim7.holds Tryz.pinned (.plain (OpenSpec.ofChange fnExactValidNetSpec)) fnExactValidNetCard

/-- THE SECOND FORM's CARD OF 'laws.FnExactReplay'. -/
def fnExactReplayUptoCard : Claim7 := { stood := { row := fnExactReplayUptoRow, standIns := [], harness := (true, "981c6bff05c060c86a682d65e696cf8943f6d67094a7c8dadfb1c1b4514361da"), looks := true }, kinds := [], alts := [], laidByText := true, laidKinds := [.data, .data, .data, .data, .sentinel, .sentinel, .pinned], laidTests := true, laidLooks := .later }
def FnExactReplayUptoCardSaid : Prop := Claim7.holds Tryz.pinned (.plain (OpenSpec.upto fnExactReplaySpec)) fnExactReplayUptoCard

/-- THE SECOND FORM's CARD OF 'laws.FnExactValidNet'. -/
def fnExactValidNetUptoCard : Claim7 := { stood := { row := fnExactValidNetUptoRow, standIns := [], harness := (true, "981c6bff05c060c86a682d65e696cf8943f6d67094a7c8dadfb1c1b4514361da"), looks := true }, kinds := [], alts := [], laidByText := true, laidKinds := [.data, .data, .data, .data, .sentinel, .sentinel, .pinned], laidTests := true, laidLooks := .later }
def FnExactValidNetUptoCardSaid : Prop := Claim7.holds Tryz.pinned (.plain (OpenSpec.upto fnExactValidNetSpec)) fnExactValidNetUptoCard
end Rows
end Go.Proofs.YtchbdakgjlnbgaaGreatDoor

/-
  DERIVED. GIVEN WITH THE SEED: THE CARDS: each row of YtajjlpophonkoaaGreatDoorRows.lean that lists a variable, with what it lists TIED to the program's text (the seventh form; the later family's looks); each row that meets fmt, with fmt's text TOLD by the authors' own Lean function (tested against real Go, not proved from fmt's source: count such statements apart). THE CARD IS WHAT COUNTS. Prove the row's statement (the work); the ties are given (YtajjlpophonkoaaGreatDoorTie.lean); close each card by the builder's one call (the guide's Derived/Test/ToyasCard.lean, 'card_holds'). Laid BY PROGRAM, IN A SANDBOX (cutbox-door.mjs). By AI agents, Wed Nov 11 2026. No macro, syntax, notation, axiom, sorry.
-/
import Derived.Test.YtajjlpophonkoaaGreatDoorRows
import GoSem.ClaimSeven
namespace Go.Proofs.YtajjlpophonkoaaGreatDoor
namespace Rows

/-- THE TIED CARD OF 'laws.FnVariation'. -/
def fnVariationCard : Claim7 := { stood := { row := fnVariationRow, standIns := [], harness := (true, "35e82d8ec88e7d4e934382ecf529f0e3d4d8849723eafc08b23ed9b88078e99c"), looks := true }, kinds := [], alts := [], laidByText := true, laidKinds := [.data, .data, .data], laidTests := true, laidLooks := .later }
def FnVariationCardSaid : Prop := Claim7.holds Tryz.pinned (.plain (OpenSpec.ofChange fnVariationSpec)) fnVariationCard

/-- THE TIED CARD OF 'laws.FnRecord'. -/
def fnRecordCard : Claim7 := { stood := { row := fnRecordRow, standIns := [], harness := (true, "35e82d8ec88e7d4e934382ecf529f0e3d4d8849723eafc08b23ed9b88078e99c"), looks := true }, kinds := [], alts := [], laidByText := true, laidKinds := [.data, .data, .data, .data, .sentinel, .sentinel, .pinned], laidTests := true, laidLooks := .later }
def FnRecordCardSaid : Prop := Claim7.holds Tryz.pinned (.plain (OpenSpec.ofChange fnRecordSpec)) fnRecordCard

/-- THE SECOND FORM's CARD OF 'laws.FnVariation'. -/
def fnVariationUptoCard : Claim7 := { stood := { row := fnVariationUptoRow, standIns := [], harness := (true, "35e82d8ec88e7d4e934382ecf529f0e3d4d8849723eafc08b23ed9b88078e99c"), looks := true }, kinds := [], alts := [], laidByText := true, laidKinds := [.data, .data, .data], laidTests := true, laidLooks := .later }
def FnVariationUptoCardSaid : Prop := Claim7.holds Tryz.pinned (.plain (OpenSpec.upto fnVariationSpec)) fnVariationUptoCard

/-- THE SECOND FORM's CARD OF 'laws.FnRecord'. -/
def fnRecordUptoCard : Claim7 := { stood := { row := fnRecordUptoRow, standIns := [], harness := (true, "35e82d8ec88e7d4e934382ecf529f0e3d4d8849723eafc08b23ed9b88078e99c"), looks := true }, kinds := [], alts := [], laidByText := true, laidKinds := [.data, .data, .data, .data, .sentinel, .sentinel, .pinned], laidTests := true, laidLooks := .later }
def FnRecordUptoCardSaid : Prop := Claim7.holds Tryz.pinned (.plain (OpenSpec.upto fnRecordSpec)) fnRecordUptoCard
end Rows
end Go.Proofs.YtajjlpophonkoaaGreatDoor

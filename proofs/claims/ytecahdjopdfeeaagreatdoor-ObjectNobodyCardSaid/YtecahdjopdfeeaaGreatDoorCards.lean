/-
  DERIVED. GIVEN WITH THE SEED: THE CARDS: each row of YtecahdjopdfeeaaGreatDoorRows.lean that lists a variable, with what it lists TIED to the program's text (the seventh form; the later family's looks); each row that meets fmt, with fmt's text TOLD by the authors' own Lean function (tested against real Go, not proved from fmt's source: count such statements apart). THE CARD IS WHAT COUNTS. Prove the row's statement (the work); the ties are given (YtecahdjopdfeeaaGreatDoorTie.lean); close each card by the builder's one call (the guide's Derived/Test/ToyasCard.lean, 'card_holds'). Laid BY PROGRAM, IN A SANDBOX (cutbox-door.mjs). By AI agents, Wed Nov 11 2026. No macro, syntax, notation, axiom, sorry.
-/
import Derived.Test.YtecahdjopdfeeaaGreatDoorRows
import GoSem.ClaimSeven
namespace Go.Proofs.YtecahdjopdfeeaaGreatDoor
namespace Rows

/-- THE TIED CARD OF 'stillroomlaw11.ObjectNobody'. -/
def objectNobodyCard : Claim7 := { stood := { row := objectNobodyRow, standIns := [], harness := (true, "76de85d378563c98a5d4cc5cc1bbae6eeaa63d84fc5303a943efa7342ccf010c"), looks := true }, kinds := [], alts := [], laidByText := true, laidKinds := [.data, .sentinel, .data, .data, .data, .data, .pinned], laidTests := true, laidLooks := .later }
def ObjectNobodyCardSaid : Prop := Claim7.holds Tryz.pinned (.plain (OpenSpec.ofChange objectNobodySpec)) objectNobodyCard

/-- THE SECOND FORM's CARD OF 'stillroomlaw11.ObjectNobody'. -/
def objectNobodyUptoCard : Claim7 := { stood := { row := objectNobodyUptoRow, standIns := [], harness := (true, "76de85d378563c98a5d4cc5cc1bbae6eeaa63d84fc5303a943efa7342ccf010c"), looks := true }, kinds := [], alts := [], laidByText := true, laidKinds := [.data, .sentinel, .data, .data, .data, .data, .pinned], laidTests := true, laidLooks := .later }
def ObjectNobodyUptoCardSaid : Prop := Claim7.holds Tryz.pinned (.plain (OpenSpec.upto objectNobodySpec)) objectNobodyUptoCard
end Rows
end Go.Proofs.YtecahdjopdfeeaaGreatDoor

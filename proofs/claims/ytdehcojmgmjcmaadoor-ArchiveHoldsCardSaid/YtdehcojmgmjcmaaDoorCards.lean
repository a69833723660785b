/-
  DERIVED. GIVEN WITH THE SEED: THE CARDS: each row of YtdehcojmgmjcmaaDoorRows.lean that lists a variable, with what it lists TIED to the program's text (the seventh form; the later family's looks); each row that meets fmt, with fmt's text TOLD by the authors' own Lean function (tested against real Go, not proved from fmt's source: count such statements apart). THE CARD IS WHAT COUNTS. Prove the row's statement (the work); the ties are given (YtdehcojmgmjcmaaDoorTie.lean); close each card by the builder's one call (the guide's Derived/Test/ToyasCard.lean, 'card_holds'). Laid BY PROGRAM, IN A SANDBOX (cutbox-door.mjs). By AI agents, Wed Nov 11 2026. No macro, syntax, notation, axiom, sorry.
-/
import Derived.Test.YtdehcojmgmjcmaaDoorRows
import GoSem.ClaimSeven
namespace Go.Proofs.YtdehcojmgmjcmaaDoor
namespace Rows

/-- THE TIED CARD OF 'stillroomlaw07.ArchiveBack'. -/
def archiveBackCard : Claim7 := { stood := { row := archiveBackRow, standIns := [], harness := (true, "1a29dbfb30681674651476988ce24f241cb28b8a20c598f8105a08bb44ad0cf2"), looks := true }, kinds := [], alts := [], laidByText := true, laidKinds := [.data, .handle, .sentinel, .pinned], laidTests := true, laidLooks := .later }
def ArchiveBackCardSaid : Prop := Claim7.holds Tryd.pinned (.plain (OpenSpec.ofChange archiveBackSpec)) archiveBackCard

/-- THE TIED CARD OF 'stillroomlaw07.ArchiveHolds'. -/
def archiveHoldsCard : Claim7 := { stood := { row := archiveHoldsRow, standIns := [], harness := (true, "1a29dbfb30681674651476988ce24f241cb28b8a20c598f8105a08bb44ad0cf2"), looks := true }, kinds := [], alts := [], laidByText := true, laidKinds := [.data, .handle, .sentinel, .pinned], laidTests := true, laidLooks := .later }
def ArchiveHoldsCardSaid : Prop := Claim7.holds Tryd.pinned (.plain (OpenSpec.ofChange archiveHoldsSpec)) archiveHoldsCard

/-- THE SECOND FORM's CARD OF 'stillroomlaw07.ArchiveBack'. -/
def archiveBackUptoCard : Claim7 := { stood := { row := archiveBackUptoRow, standIns := [], harness := (true, "1a29dbfb30681674651476988ce24f241cb28b8a20c598f8105a08bb44ad0cf2"), looks := true }, kinds := [], alts := [], laidByText := true, laidKinds := [.data, .handle, .sentinel, .pinned], laidTests := true, laidLooks := .later }
def ArchiveBackUptoCardSaid : Prop := Claim7.holds Tryd.pinned (.plain (OpenSpec.upto archiveBackSpec)) archiveBackUptoCard

/-- THE SECOND FORM's CARD OF 'stillroomlaw07.ArchiveHolds'. -/
def archiveHoldsUptoCard : Claim7 := { stood := { row := archiveHoldsUptoRow, standIns := [], harness := (true, "1a29dbfb30681674651476988ce24f241cb28b8a20c598f8105a08bb44ad0cf2"), looks := true }, kinds := [], alts := [], laidByText := true, laidKinds := [.data, .handle, .sentinel, .pinned], laidTests := true, laidLooks := .later }
def ArchiveHoldsUptoCardSaid : Prop := Claim7.holds Tryd.pinned (.plain (OpenSpec.upto archiveHoldsSpec)) archiveHoldsUptoCard
end Rows
end Go.Proofs.YtdehcojmgmjcmaaDoor

/-
  DERIVED. GIVEN WITH THE SEED: THE CARDS: each row of YtepdnknhejjgnaaDoorRows.lean that lists a variable, with what it lists TIED to the program's text (the seventh form; the later family's looks); each row that meets fmt, with fmt's text TOLD by the authors' own Lean function (tested against real Go, not proved from fmt's source: count such statements apart). THE CARD IS WHAT COUNTS. Prove the row's statement (the work); the ties are given (YtepdnknhejjgnaaDoorTie.lean); close each card by the builder's one call (the guide's Derived/Test/ToyasCard.lean, 'card_holds'). Laid BY PROGRAM, IN A SANDBOX (cutbox-door.mjs). By AI agents, Wed Nov 11 2026. No macro, syntax, notation, axiom, sorry.
-/
import Derived.Test.YtepdnknhejjgnaaDoorRows
import GoSem.ClaimSeven
namespace Go.Proofs.YtepdnknhejjgnaaDoor
namespace Rows

/-- THE TIED CARD OF 'stillroomlaw07.ArchiveEncodes'. -/
def archiveEncodesCard : Claim7 := { stood := { row := archiveEncodesRow, standIns := [], harness := (true, "9617ccf653eba29ccecbed221e4fcb9a40de65e95b15f08c917b58f5bd427e0b"), looks := false }, kinds := [], alts := [], laidByText := true, laidKinds := [.sentinel, .data, .data], laidTests := true, laidLooks := .later }
def ArchiveEncodesCardSaid : Prop := Claim7.holds Tryd.pinned (.plain (OpenSpec.ofChange archiveEncodesSpec)) archiveEncodesCard

/-- THE SECOND FORM's CARD OF 'stillroomlaw07.ArchiveEncodes'. -/
def archiveEncodesUptoCard : Claim7 := { stood := { row := archiveEncodesUptoRow, standIns := [], harness := (true, "9617ccf653eba29ccecbed221e4fcb9a40de65e95b15f08c917b58f5bd427e0b"), looks := false }, kinds := [], alts := [], laidByText := true, laidKinds := [.sentinel, .data, .data], laidTests := true, laidLooks := .later }
def ArchiveEncodesUptoCardSaid : Prop := Claim7.holds Tryd.pinned (.plain (OpenSpec.upto archiveEncodesSpec)) archiveEncodesUptoCard
end Rows
end Go.Proofs.YtepdnknhejjgnaaDoor

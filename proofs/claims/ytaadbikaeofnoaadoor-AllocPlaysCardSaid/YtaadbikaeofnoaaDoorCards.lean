/-
  DERIVED. GIVEN WITH THE SEED: THE CARDS: each row of YtaadbikaeofnoaaDoorRows.lean that lists a variable, with what it lists TIED to the program's text (the seventh form; the later family's looks); each row that meets fmt, with fmt's text TOLD by the authors' own Lean function (tested against real Go, not proved from fmt's source: count such statements apart). THE CARD IS WHAT COUNTS. Prove the row's statement (the work); the ties are given (YtaadbikaeofnoaaDoorTie.lean); close each card by the builder's one call (the guide's Derived/Test/ToyasCard.lean, 'card_holds'). Laid BY PROGRAM, IN A SANDBOX (cutbox-door.mjs). By AI agents, Wed Nov 11 2026. No macro, syntax, notation, axiom, sorry.
-/
import Derived.Test.YtaadbikaeofnoaaDoorRows
import GoSem.ClaimSeven
namespace Go.Proofs.YtaadbikaeofnoaaDoor
namespace Rows

/-- THE TIED CARD OF 'stillroomlaw05.AllocTakes'. -/
def allocTakesCard : Claim7 := { stood := { row := allocTakesRow, standIns := [], harness := (true, "e29cbd32ee22889fbda9860f5c83d0daf889d3d451b169e4ae0ddd3372d7a64a"), looks := false }, kinds := [], alts := [], laidByText := true, laidKinds := [.data], laidTests := true, laidLooks := .later }
def AllocTakesCardSaid : Prop := Claim7.holds Tryd.pinned (.plain (OpenSpec.ofChange allocTakesSpec)) allocTakesCard

/-- THE TIED CARD OF 'stillroomlaw05.AllocNobody'. -/
def allocNobodyCard : Claim7 := { stood := { row := allocNobodyRow, standIns := [], harness := (true, "e29cbd32ee22889fbda9860f5c83d0daf889d3d451b169e4ae0ddd3372d7a64a"), looks := false }, kinds := [], alts := [], laidByText := true, laidKinds := [.data], laidTests := true, laidLooks := .later }
def AllocNobodyCardSaid : Prop := Claim7.holds Tryd.pinned (.plain (OpenSpec.ofChange allocNobodySpec)) allocNobodyCard

/-- THE TIED CARD OF 'stillroomlaw05.AllocPlays'. -/
def allocPlaysCard : Claim7 := { stood := { row := allocPlaysRow, standIns := [], harness := (true, "e29cbd32ee22889fbda9860f5c83d0daf889d3d451b169e4ae0ddd3372d7a64a"), looks := false }, kinds := [], alts := [], laidByText := true, laidKinds := [.data], laidTests := true, laidLooks := .later }
def AllocPlaysCardSaid : Prop := Claim7.holds Tryd.pinned (.plain (OpenSpec.ofChange allocPlaysSpec)) allocPlaysCard

/-- THE SECOND FORM's CARD OF 'stillroomlaw05.AllocTakes'. -/
def allocTakesUptoCard : Claim7 := { stood := { row := allocTakesUptoRow, standIns := [], harness := (true, "e29cbd32ee22889fbda9860f5c83d0daf889d3d451b169e4ae0ddd3372d7a64a"), looks := false }, kinds := [], alts := [], laidByText := true, laidKinds := [.data], laidTests := true, laidLooks := .later }
def AllocTakesUptoCardSaid : Prop := Claim7.holds Tryd.pinned (.plain (OpenSpec.upto allocTakesSpec)) allocTakesUptoCard

/-- THE SECOND FORM's CARD OF 'stillroomlaw05.AllocNobody'. -/
def allocNobodyUptoCard : Claim7 := { stood := { row := allocNobodyUptoRow, standIns := [], harness := (true, "e29cbd32ee22889fbda9860f5c83d0daf889d3d451b169e4ae0ddd3372d7a64a"), looks := false }, kinds := [], alts := [], laidByText := true, laidKinds := [.data], laidTests := true, laidLooks := .later }
def AllocNobodyUptoCardSaid : Prop := Claim7.holds Tryd.pinned (.plain (OpenSpec.upto allocNobodySpec)) allocNobodyUptoCard

/-- THE SECOND FORM's CARD OF 'stillroomlaw05.AllocPlays'. -/
def allocPlaysUptoCard : Claim7 := { stood := { row := allocPlaysUptoRow, standIns := [], harness := (true, "e29cbd32ee22889fbda9860f5c83d0daf889d3d451b169e4ae0ddd3372d7a64a"), looks := false }, kinds := [], alts := [], laidByText := true, laidKinds := [.data], laidTests := true, laidLooks := .later }
def AllocPlaysUptoCardSaid : Prop := Claim7.holds Tryd.pinned (.plain (OpenSpec.upto allocPlaysSpec)) allocPlaysUptoCard
end Rows
end Go.Proofs.YtaadbikaeofnoaaDoor

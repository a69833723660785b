/-
  DERIVED. GIVEN WITH THE SEED: THE CARDS: each row of YtcmlifbfegblgaaDoorRows.lean that lists a variable, with what it lists TIED to the program's text (the seventh form; the later family's looks); each row that meets fmt, with fmt's text TOLD by the authors' own Lean function (tested against real Go, not proved from fmt's source: count such statements apart). THE CARD IS WHAT COUNTS. Prove the row's statement (the work); the ties are given (YtcmlifbfegblgaaDoorTie.lean); close each card by the builder's one call (the guide's Derived/Test/ToyasCard.lean, 'card_holds'). Laid BY PROGRAM, IN A SANDBOX (cutbox-door.mjs). By AI agents, Wed Nov 11 2026. No macro, syntax, notation, axiom, sorry.
-/
import Derived.Test.YtcmlifbfegblgaaDoorRows
import GoSem.ClaimSeven
namespace Go.Proofs.YtcmlifbfegblgaaDoor
namespace Rows

/-- THE TIED CARD OF 'stillroomlaw11.ObjectTexts'. -/
def objectTextsCard : Claim7 := { stood := { row := objectTextsRow, standIns := [], harness := (true, "aa22aa88a4a52e230bed6122b987885fd63996dfb22eb3cbfba86e920e9b1572"), looks := true }, kinds := [], alts := [], laidByText := true, laidKinds := [.data, .data], laidTests := true, laidLooks := .later }
def ObjectTextsCardSaid : Prop := Claim7.holds Tryd.pinned (.plain (OpenSpec.ofChange objectTextsSpec)) objectTextsCard

/-- THE TIED CARD OF 'stillroomlaw26.SubstTexts'. -/
def substTextsCard : Claim7 := { stood := { row := substTextsRow, standIns := [], harness := (true, "aa22aa88a4a52e230bed6122b987885fd63996dfb22eb3cbfba86e920e9b1572"), looks := true }, kinds := [], alts := [], laidByText := true, laidKinds := [.data, .data, .data, .sentinel, .sentinel, .data, .data], laidTests := true, laidLooks := .later }
def SubstTextsCardSaid : Prop := Claim7.holds Tryd.pinned (.plain (OpenSpec.ofChange substTextsSpec)) substTextsCard

/-- THE SECOND FORM's CARD OF 'stillroomlaw11.ObjectTexts'. -/
def objectTextsUptoCard : Claim7 := { stood := { row := objectTextsUptoRow, standIns := [], harness := (true, "aa22aa88a4a52e230bed6122b987885fd63996dfb22eb3cbfba86e920e9b1572"), looks := true }, kinds := [], alts := [], laidByText := true, laidKinds := [.data, .data], laidTests := true, laidLooks := .later }
def ObjectTextsUptoCardSaid : Prop := Claim7.holds Tryd.pinned (.plain (OpenSpec.upto objectTextsSpec)) objectTextsUptoCard

/-- THE SECOND FORM's CARD OF 'stillroomlaw26.SubstTexts'. -/
def substTextsUptoCard : Claim7 := { stood := { row := substTextsUptoRow, standIns := [], harness := (true, "aa22aa88a4a52e230bed6122b987885fd63996dfb22eb3cbfba86e920e9b1572"), looks := true }, kinds := [], alts := [], laidByText := true, laidKinds := [.data, .data, .data, .sentinel, .sentinel, .data, .data], laidTests := true, laidLooks := .later }
def SubstTextsUptoCardSaid : Prop := Claim7.holds Tryd.pinned (.plain (OpenSpec.upto substTextsSpec)) substTextsUptoCard
end Rows
end Go.Proofs.YtcmlifbfegblgaaDoor

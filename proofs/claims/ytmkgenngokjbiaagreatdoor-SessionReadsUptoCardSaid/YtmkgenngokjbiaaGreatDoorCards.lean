/-
  DERIVED. GIVEN WITH THE SEED: THE CARDS: each row of YtmkgenngokjbiaaGreatDoorRows.lean that lists a variable, with what it lists TIED to the program's text (the seventh form; the later family's looks); each row that meets fmt, with fmt's text TOLD by the authors' own Lean function (tested against real Go, not proved from fmt's source: count such statements apart). THE CARD IS WHAT COUNTS. Prove the row's statement (the work); the ties are given (YtmkgenngokjbiaaGreatDoorTie.lean); close each card by the builder's one call (the guide's Derived/Test/ToyasCard.lean, 'card_holds'). Laid BY PROGRAM, IN A SANDBOX (cutbox-door.mjs). By AI agents, Wed Nov 11 2026. No macro, syntax, notation, axiom, sorry.
-/
import Derived.Test.YtmkgenngokjbiaaGreatDoorRows
import GoSem.ClaimSeven
namespace Go.Proofs.YtmkgenngokjbiaaGreatDoor
namespace Rows

/-- THE TIED CARD OF 'similelaw28.SessionReads'. -/
def sessionReadsCard : Claim7 := { stood := { row := sessionReadsRow, standIns := [], harness := (true, "b6fa5394e00258ada0480747c015d4b1b05a8f1658e5a3033611a011e7c27356"), looks := true }, kinds := [], alts := [], goes := true, laidByText := true, laidKinds := [.pinned, .data, .data, .data, .data], laidTests := true, laidLooks := .later }
def SessionReadsCardSaid : Prop := Claim7.holds Tryz.pinned (.plain (OpenSpec.ofChange sessionReadsSpec)) sessionReadsCard

/-- THE SECOND FORM's CARD OF 'similelaw28.SessionReads'. -/
def sessionReadsUptoCard : Claim7 := { stood := { row := sessionReadsUptoRow, standIns := [], harness := (true, "b6fa5394e00258ada0480747c015d4b1b05a8f1658e5a3033611a011e7c27356"), looks := true }, kinds := [], alts := [], goes := true, laidByText := true, laidKinds := [.pinned, .data, .data, .data, .data], laidTests := true, laidLooks := .later }
def SessionReadsUptoCardSaid : Prop := Claim7.holds Tryz.pinned (.plain (OpenSpec.upto sessionReadsSpec)) sessionReadsUptoCard
end Rows
end Go.Proofs.YtmkgenngokjbiaaGreatDoor

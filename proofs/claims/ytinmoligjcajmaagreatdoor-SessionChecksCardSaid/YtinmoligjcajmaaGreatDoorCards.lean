/-
  DERIVED. GIVEN WITH THE SEED: THE CARDS: each row of YtinmoligjcajmaaGreatDoorRows.lean that lists a variable, with what it lists TIED to the program's text (the seventh form; the later family's looks); each row that meets fmt, with fmt's text TOLD by the authors' own Lean function (tested against real Go, not proved from fmt's source: count such statements apart). THE CARD IS WHAT COUNTS. Prove the row's statement (the work); the ties are given (YtinmoligjcajmaaGreatDoorTie.lean); close each card by the builder's one call (the guide's Derived/Test/ToyasCard.lean, 'card_holds'). Laid BY PROGRAM, IN A SANDBOX (cutbox-door.mjs). By AI agents, Wed Nov 11 2026. No macro, syntax, notation, axiom, sorry.
-/
import Derived.Test.YtinmoligjcajmaaGreatDoorRows
import GoSem.ClaimSeven
namespace Go.Proofs.YtinmoligjcajmaaGreatDoor
namespace Rows

/-- THE TIED CARD OF 'similelaw28.SessionNames'. -/
def sessionNamesCard : Claim7 := { stood := { row := sessionNamesRow, standIns := [], harness := (true, "43afcc113c72cb3f5ffebcfe2b95899fc45d64701d0bc6f85f33e2b60cbc3ed5"), looks := true }, kinds := [], alts := [], goes := true, laidByText := true, laidKinds := [.pinned, .data, .data, .data, .data], laidTests := true, laidLooks := .later }
def SessionNamesCardSaid : Prop := Claim7.holds Tryz.pinned (.plain (OpenSpec.ofChange sessionNamesSpec)) sessionNamesCard

/-- THE TIED CARD OF 'similelaw28.SessionReads'. -/
def sessionReadsCard : Claim7 := { stood := { row := sessionReadsRow, standIns := [], harness := (true, "43afcc113c72cb3f5ffebcfe2b95899fc45d64701d0bc6f85f33e2b60cbc3ed5"), looks := true }, kinds := [], alts := [], goes := true, laidByText := true, laidKinds := [.pinned, .data, .data, .data, .data], laidTests := true, laidLooks := .later }
def SessionReadsCardSaid : Prop := Claim7.holds Tryz.pinned (.plain (OpenSpec.ofChange sessionReadsSpec)) sessionReadsCard

/-- THE TIED CARD OF 'similelaw28.SessionChecks'. -/
def sessionChecksCard : Claim7 := { stood := { row := sessionChecksRow, standIns := [], harness := (true, "43afcc113c72cb3f5ffebcfe2b95899fc45d64701d0bc6f85f33e2b60cbc3ed5"), looks := true }, kinds := [], alts := [], goes := true, laidByText := true, laidKinds := [.pinned, .data, .data, .data, .data], laidTests := true, laidLooks := .later }
def SessionChecksCardSaid : Prop := Claim7.holds Tryz.pinned (.plain (OpenSpec.ofChange sessionChecksSpec)) sessionChecksCard

/-- THE SECOND FORM's CARD OF 'similelaw28.SessionNames'. -/
def sessionNamesUptoCard : Claim7 := { stood := { row := sessionNamesUptoRow, standIns := [], harness := (true, "43afcc113c72cb3f5ffebcfe2b95899fc45d64701d0bc6f85f33e2b60cbc3ed5"), looks := true }, kinds := [], alts := [], goes := true, laidByText := true, laidKinds := [.pinned, .data, .data, .data, .data], laidTests := true, laidLooks := .later }
def SessionNamesUptoCardSaid : Prop := Claim7.holds Tryz.pinned (.plain (OpenSpec.upto sessionNamesSpec)) sessionNamesUptoCard

/-- THE SECOND FORM's CARD OF 'similelaw28.SessionReads'. -/
def sessionReadsUptoCard : Claim7 := { stood := { row := sessionReadsUptoRow, standIns := [], harness := (true, "43afcc113c72cb3f5ffebcfe2b95899fc45d64701d0bc6f85f33e2b60cbc3ed5"), looks := true }, kinds := [], alts := [], goes := true, laidByText := true, laidKinds := [.pinned, .data, .data, .data, .data], laidTests := true, laidLooks := .later }
def SessionReadsUptoCardSaid : Prop := Claim7.holds Tryz.pinned (.plain (OpenSpec.upto sessionReadsSpec)) sessionReadsUptoCard

/-- THE SECOND FORM's CARD OF 'similelaw28.SessionChecks'. -/
def sessionChecksUptoCard : Claim7 := { stood := { row := sessionChecksUptoRow, standIns := [], harness := (true, "43afcc113c72cb3f5ffebcfe2b95899fc45d64701d0bc6f85f33e2b60cbc3ed5"), looks := true }, kinds := [], alts := [], goes := true, laidByText := true, laidKinds := [.pinned, .data, .data, .data, .data], laidTests := true, laidLooks := .later }
def SessionChecksUptoCardSaid : Prop := Claim7.holds Tryz.pinned (.plain (OpenSpec.upto sessionChecksSpec)) sessionChecksUptoCard
end Rows
end Go.Proofs.YtinmoligjcajmaaGreatDoor

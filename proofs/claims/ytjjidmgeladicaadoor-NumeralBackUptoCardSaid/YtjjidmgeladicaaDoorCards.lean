/-
  DERIVED. GIVEN WITH THE SEED: THE CARDS: each row of YtjjidmgeladicaaDoorRows.lean that lists a variable, with what it lists TIED to the program's text (the seventh form; the later family's looks); each row that meets fmt, with fmt's text TOLD by the authors' own Lean function (tested against real Go, not proved from fmt's source: count such statements apart). THE CARD IS WHAT COUNTS. Prove the row's statement (the work); the ties are given (YtjjidmgeladicaaDoorTie.lean); close each card by the builder's one call (the guide's Derived/Test/ToyasCard.lean, 'card_holds'). Laid BY PROGRAM, IN A SANDBOX (cutbox-door.mjs). By AI agents, Wed Nov 11 2026. No macro, syntax, notation, axiom, sorry.
-/
import Derived.Test.YtjjidmgeladicaaDoorRows
import GoSem.ClaimSeven
namespace Go.Proofs.YtjjidmgeladicaaDoor
namespace Rows

/-- THE TIED CARD OF 'similelaw02.NumeralWords'. -/
def numeralWordsCard : Claim7 := { stood := { row := numeralWordsRow, standIns := [], harness := (true, "c93cb573e21eeafa91088c7f9350eb993ba2500e747ae52150c71fd058e3d140"), looks := true }, kinds := [], alts := [], laidByText := true, laidKinds := [.data, .pinned], laidTests := true, laidLooks := .later }
def NumeralWordsCardSaid : Prop := Claim7.holds Tryd.pinned (.plain (OpenSpec.ofChange numeralWordsSpec)) numeralWordsCard

/-- THE TIED CARD OF 'similelaw02.NumeralApart'. -/
def numeralApartCard : Claim7 := { stood := { row := numeralApartRow, standIns := [], harness := (true, "c93cb573e21eeafa91088c7f9350eb993ba2500e747ae52150c71fd058e3d140"), looks := true }, kinds := [], alts := [], laidByText := true, laidKinds := [.data, .pinned], laidTests := true, laidLooks := .later }
def NumeralApartCardSaid : Prop := Claim7.holds Tryd.pinned (.plain (OpenSpec.ofChange numeralApartSpec)) numeralApartCard

/-- THE TIED CARD OF 'similelaw02.NumeralRows'. -/
def numeralRowsCard : Claim7 := { stood := { row := numeralRowsRow, standIns := [], harness := (true, "c93cb573e21eeafa91088c7f9350eb993ba2500e747ae52150c71fd058e3d140"), looks := true }, kinds := [], alts := [], laidByText := true, laidKinds := [.data, .pinned], laidTests := true, laidLooks := .later }
def NumeralRowsCardSaid : Prop := Claim7.holds Tryd.pinned (.plain (OpenSpec.ofChange numeralRowsSpec)) numeralRowsCard

/-- THE TIED CARD OF 'similelaw02.NumeralBack'. -/
def numeralBackCard : Claim7 := { stood := { row := numeralBackRow, standIns := [], harness := (true, "c93cb573e21eeafa91088c7f9350eb993ba2500e747ae52150c71fd058e3d140"), looks := true }, kinds := [], alts := [], laidByText := true, laidKinds := [.data, .pinned], laidTests := true, laidLooks := .later }
def NumeralBackCardSaid : Prop := Claim7.holds Tryd.pinned (.plain (OpenSpec.ofChange numeralBackSpec)) numeralBackCard

/-- THE SECOND FORM's CARD OF 'similelaw02.NumeralWords'. -/
def numeralWordsUptoCard : Claim7 := { stood := { row := numeralWordsUptoRow, standIns := [], harness := (true, "c93cb573e21eeafa91088c7f9350eb993ba2500e747ae52150c71fd058e3d140"), looks := true }, kinds := [], alts := [], laidByText := true, laidKinds := [.data, .pinned], laidTests := true, laidLooks := .later }
def NumeralWordsUptoCardSaid : Prop := Claim7.holds Tryd.pinned (.plain (OpenSpec.upto numeralWordsSpec)) numeralWordsUptoCard

/-- THE SECOND FORM's CARD OF 'similelaw02.NumeralApart'. -/
def numeralApartUptoCard : Claim7 := { stood := { row := numeralApartUptoRow, standIns := [], harness := (true, "c93cb573e21eeafa91088c7f9350eb993ba2500e747ae52150c71fd058e3d140"), looks := true }, kinds := [], alts := [], laidByText := true, laidKinds := [.data, .pinned], laidTests := true, laidLooks := .later }
def NumeralApartUptoCardSaid : Prop := Claim7.holds Tryd.pinned (.plain (OpenSpec.upto numeralApartSpec)) numeralApartUptoCard

/-- THE SECOND FORM's CARD OF 'similelaw02.NumeralRows'. -/
def numeralRowsUptoCard : Claim7 := { stood := { row := numeralRowsUptoRow, standIns := [], harness := (true, "c93cb573e21eeafa91088c7f9350eb993ba2500e747ae52150c71fd058e3d140"), looks := true }, kinds := [], alts := [], laidByText := true, laidKinds := [.data, .pinned], laidTests := true, laidLooks := .later }
def NumeralRowsUptoCardSaid : Prop := Claim7.holds Tryd.pinned (.plain (OpenSpec.upto numeralRowsSpec)) numeralRowsUptoCard

/-- THE SECOND FORM's CARD OF 'similelaw02.NumeralBack'. -/
def numeralBackUptoCard : Claim7 := { stood := { row := numeralBackUptoRow, standIns := [], harness := (true, "c93cb573e21eeafa91088c7f9350eb993ba2500e747ae52150c71fd058e3d140"), looks := true }, kinds := [], alts := [], laidByText := true, laidKinds := [.data, .pinned], laidTests := true, laidLooks := .later }
def NumeralBackUptoCardSaid : Prop := Claim7.holds Tryd.pinned (.plain (OpenSpec.upto numeralBackSpec)) numeralBackUptoCard
end Rows
end Go.Proofs.YtjjidmgeladicaaDoor

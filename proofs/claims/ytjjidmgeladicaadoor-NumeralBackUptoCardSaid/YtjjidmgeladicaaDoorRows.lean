/-
  NARROWER THAN 'FOR EVERY INPUT', by the rows' own cells (each row's printed sentence says how): NumeralWords: laid · NumeralApart: laid · NumeralRows: laid · NumeralBack: laid.
  DERIVED. THE GIVEN ROWS OF THIS SEAT. 4 by the template 'for every input the law returns true; each argument reads behind the call as it read before'; 0 by the template 'total and deterministic' (their statements: YtjjidmgeladicaaDoorTotals.lean).
  GIVEN WITH THE SEED: the statements are not yours to turn. If you find one false, say at which input.
  Laid BY PROGRAM, IN A SANDBOX (cutbox-rows.mjs): the forced cells as the released guide's own fill.sh prints them over the translation ed471778cfa924e4… (all of the seat's roots in one cut). By AI agents, Wed Nov 11 2026. No macro, syntax, notation, axiom, sorry.
-/
import Derived.Test.YtjjidmgeladicaaDoorChecked
import GoSem.PinnedTables
import GoSem.Claim
import GoSem.ClaimJoined
import GoSem.ClaimMapViews
import Derived.JoinedTies
import Derived.KernelRfl
namespace Go.Proofs.YtjjidmgeladicaaDoor
/- THE CELL 'sum', in the pinned program and in every row, IS THE sha256 OF THE DUMP (.gsa) THAT YtjjidmgeladicaaDoorProg.lean LOADS. Nothing in Lean hashes anything: it is a label: what it is worth is what the hold of that sum in a sandbox is worth. -/
noncomputable def Tryd.pinned : Pinned := { name := "ytjjidmgeladicaadoor", sum := "ed471778cfa924e4966c34914e20dafc237e80fd64b84ee888cb77f04529d4bf", checked := Tryd.checked }
namespace Rows
def none {H : Type} : Left H := { results := [], args := [] }

/- WHAT THE LISTED PACKAGE-LEVEL VARIABLES READ AS WHEN THE CALL BEGINS. Each datum BY PROGRAM (the guide's laid-datum.mjs) off the statement by which the dump's own 'gosem.cut.vars' lays the variable. In a bare row this is a premise. The card (YtjjidmgeladicaaDoorCards.lean) ties it to the program's text. -/
def laid_unicode_utf8_acceptRanges {H : Type} : DataW H := .agg [.agg [.lit (.int .u8 128), .lit (.int .u8 191)], .agg [.lit (.int .u8 160), .lit (.int .u8 191)], .agg [.lit (.int .u8 128), .lit (.int .u8 159)], .agg [.lit (.int .u8 144), .lit (.int .u8 191)], .agg [.lit (.int .u8 128), .lit (.int .u8 143)], .agg [.lit (.int .u8 0), .lit (.int .u8 0)], .agg [.lit (.int .u8 0), .lit (.int .u8 0)], .agg [.lit (.int .u8 0), .lit (.int .u8 0)], .agg [.lit (.int .u8 0), .lit (.int .u8 0)], .agg [.lit (.int .u8 0), .lit (.int .u8 0)], .agg [.lit (.int .u8 0), .lit (.int .u8 0)], .agg [.lit (.int .u8 0), .lit (.int .u8 0)], .agg [.lit (.int .u8 0), .lit (.int .u8 0)], .agg [.lit (.int .u8 0), .lit (.int .u8 0)], .agg [.lit (.int .u8 0), .lit (.int .u8 0)], .agg [.lit (.int .u8 0), .lit (.int .u8 0)]]
/-- One of Go's own tables, pinned by name: the form's constant. -/
def laid_unicode_utf8_first : DataW Unit := Go.Pinned.utf8First

/-- 'similelaw02.NumeralWords': WHATEVER THE INPUT: true; the input reads as it did. -/
def numeralWordsSpec : ChangeSpec := { name := "numeralWords", fn := fun _ => fun
  | [d1, d2] => { results := [.lit (.bool true)], args := [d1, d2] }
  | _ => none }
def numeralWordsRow : OpenClaim := { program := "ytjjidmgeladicaadoor", sum := "ed471778cfa924e4966c34914e20dafc237e80fd64b84ee888cb77f04529d4bf", func := "simile/similelaw02.NumeralWords", spec := "numeralWords", inPlace := ["internal/abi.NoEscape"], unfollowed := true, recurses := true, named := ["unicode/utf8.first", "unicode/utf8.acceptRanges"], apart := false, laid := [("unicode/utf8.acceptRanges", laid_unicode_utf8_acceptRanges), ("unicode/utf8.first", laid_unicode_utf8_first)] }
def NumeralWordsSaid : Prop := numeralWordsRow.holds Tryd.pinned (OpenSpec.ofChange numeralWordsSpec)

/-- ITS FALSE NEIGHBOUR: 'it returns false'. Refute it at one input. -/
def numeralWordsWrong : ChangeSpec := { name := "numeralWords", fn := fun _ => fun
  | [d1, d2] => { results := [.lit (.bool false)], args := [d1, d2] }
  | _ => none }
def NumeralWordsWrongFalsely : Prop := numeralWordsRow.holds Tryd.pinned (OpenSpec.ofChange numeralWordsWrong)

/-- 'similelaw02.NumeralApart': WHATEVER THE INPUT: true; the input reads as it did. -/
def numeralApartSpec : ChangeSpec := { name := "numeralApart", fn := fun _ => fun
  | [d] => { results := [.lit (.bool true)], args := [d] }
  | _ => none }
def numeralApartRow : OpenClaim := { program := "ytjjidmgeladicaadoor", sum := "ed471778cfa924e4966c34914e20dafc237e80fd64b84ee888cb77f04529d4bf", func := "simile/similelaw02.NumeralApart", spec := "numeralApart", inPlace := ["internal/abi.NoEscape"], unfollowed := true, recurses := true, named := ["unicode/utf8.first", "unicode/utf8.acceptRanges"], apart := false, laid := [("unicode/utf8.acceptRanges", laid_unicode_utf8_acceptRanges), ("unicode/utf8.first", laid_unicode_utf8_first)] }
def NumeralApartSaid : Prop := numeralApartRow.holds Tryd.pinned (OpenSpec.ofChange numeralApartSpec)

/-- ITS FALSE NEIGHBOUR: 'it returns false'. Refute it at one input. -/
def numeralApartWrong : ChangeSpec := { name := "numeralApart", fn := fun _ => fun
  | [d] => { results := [.lit (.bool false)], args := [d] }
  | _ => none }
def NumeralApartWrongFalsely : Prop := numeralApartRow.holds Tryd.pinned (OpenSpec.ofChange numeralApartWrong)

/-- 'similelaw02.NumeralRows': WHATEVER THE INPUT: true; the input reads as it did. -/
def numeralRowsSpec : ChangeSpec := { name := "numeralRows", fn := fun _ => fun
  | [d] => { results := [.lit (.bool true)], args := [d] }
  | _ => none }
def numeralRowsRow : OpenClaim := { program := "ytjjidmgeladicaadoor", sum := "ed471778cfa924e4966c34914e20dafc237e80fd64b84ee888cb77f04529d4bf", func := "simile/similelaw02.NumeralRows", spec := "numeralRows", inPlace := ["internal/abi.NoEscape", "internal/bytealg.CountString", "internal/bytealg.IndexByteString", "internal/bytealg.IndexString", "internal/bytealg.MakeNoZero"], unfollowed := true, recurses := true, named := ["internal/bytealg.MaxLen", "unicode/utf8.first", "unicode/utf8.acceptRanges"], apart := false, laid := [("unicode/utf8.acceptRanges", laid_unicode_utf8_acceptRanges), ("unicode/utf8.first", laid_unicode_utf8_first)] }
def NumeralRowsSaid : Prop := numeralRowsRow.holds Tryd.pinned (OpenSpec.ofChange numeralRowsSpec)

/-- ITS FALSE NEIGHBOUR: 'it returns false'. Refute it at one input. -/
def numeralRowsWrong : ChangeSpec := { name := "numeralRows", fn := fun _ => fun
  | [d] => { results := [.lit (.bool false)], args := [d] }
  | _ => none }
def NumeralRowsWrongFalsely : Prop := numeralRowsRow.holds Tryd.pinned (OpenSpec.ofChange numeralRowsWrong)

/-- 'similelaw02.NumeralBack': WHATEVER THE INPUT: true; the input reads as it did. -/
def numeralBackSpec : ChangeSpec := { name := "numeralBack", fn := fun _ => fun
  | [d1, d2, d3] => { results := [.lit (.bool true)], args := [d1, d2, d3] }
  | _ => none }
def numeralBackRow : OpenClaim := { program := "ytjjidmgeladicaadoor", sum := "ed471778cfa924e4966c34914e20dafc237e80fd64b84ee888cb77f04529d4bf", func := "simile/similelaw02.NumeralBack", spec := "numeralBack", inPlace := ["internal/abi.NoEscape", "internal/bytealg.MakeNoZero", "internal/bytealg.CountString", "internal/bytealg.IndexByteString", "internal/bytealg.IndexString"], unfollowed := true, recurses := true, named := ["internal/bytealg.MaxLen", "unicode/utf8.first", "unicode/utf8.acceptRanges"], apart := false, laid := [("unicode/utf8.acceptRanges", laid_unicode_utf8_acceptRanges), ("unicode/utf8.first", laid_unicode_utf8_first)] }
def NumeralBackSaid : Prop := numeralBackRow.holds Tryd.pinned (OpenSpec.ofChange numeralBackSpec)

/-- ITS FALSE NEIGHBOUR: 'it returns false'. Refute it at one input. -/
def numeralBackWrong : ChangeSpec := { name := "numeralBack", fn := fun _ => fun
  | [d1, d2, d3] => { results := [.lit (.bool false)], args := [d1, d2, d3] }
  | _ => none }
def NumeralBackWrongFalsely : Prop := numeralBackRow.holds Tryd.pinned (OpenSpec.ofChange numeralBackWrong)

/- THE SECOND FORM. 'bulk': how many values and letters a reading holds, each counted each time it is reached (what is shared counts as often as it is met; a slice's spare places count too). A statement '..UptoSaid' is the law's where the arguments, and the package variables that the reading takes, are together of bulk at most 1048576: NARROWER than '..Said'. Prove '..Said' where nothing that the law and all that it calls make is longer than what came in: it says more and counts as full. Else prove '..UptoSaid'. A law counts once. -/
mutual
def uptoBulk {H : Type} : DataW H → Nat
  | .lit (.string bytes) => bytes.length + 1
  | .lit _ => 1
  | .nil => 1
  | .ptr d => uptoBulk d + 1
  | .slice elems spare => uptoBulkAll elems + uptoBulkAll spare + 1
  | .agg parts => uptoBulkAll parts + 1
  | .iface _ d => uptoBulk d + 1
  | .map entries => uptoBulkEntries entries + 1
  | .held _ => 1
def uptoBulkAll {H : Type} : List (DataW H) → Nat
  | [] => 0
  | d :: r => uptoBulk d + uptoBulkAll r
def uptoBulkEntries {H : Type} : List (Lit × DataW H) → Nat
  | [] => 0
  | x :: r => uptoBulkEntry x + uptoBulkEntries r
def uptoBulkEntry {H : Type} : Lit × DataW H → Nat
  | (.string bytes, d) => bytes.length + uptoBulk d + 1
  | (_, d) => uptoBulk d + 1
 end
def uptoSmall : (H : Type) → List (DataW H) → Bool := fun _ ds => decide (uptoBulkAll ds ≤ 1048576)
def OpenSpec.upto (s : _root_.Go.ChangeSpec) : _root_.Go.OpenSpec := { _root_.Go.OpenSpec.ofChange s with cond := some uptoSmall }

/-- 'similelaw02.NumeralWords', WHERE WHAT IT READS IS OF BULK AT MOST 1048576: true; the input reads as it did. -/
def numeralWordsUptoRow : OpenClaim := { program := "ytjjidmgeladicaadoor", sum := "ed471778cfa924e4966c34914e20dafc237e80fd64b84ee888cb77f04529d4bf", func := "simile/similelaw02.NumeralWords", spec := "numeralWords", inPlace := ["internal/abi.NoEscape"], unfollowed := true, recurses := true, named := ["unicode/utf8.first", "unicode/utf8.acceptRanges"], apart := false, laid := [("unicode/utf8.acceptRanges", laid_unicode_utf8_acceptRanges), ("unicode/utf8.first", laid_unicode_utf8_first)], narrowed := true }
def NumeralWordsUptoSaid : Prop := numeralWordsUptoRow.holds Tryd.pinned (OpenSpec.upto numeralWordsSpec)

/-- 'similelaw02.NumeralApart', WHERE WHAT IT READS IS OF BULK AT MOST 1048576: true; the input reads as it did. -/
def numeralApartUptoRow : OpenClaim := { program := "ytjjidmgeladicaadoor", sum := "ed471778cfa924e4966c34914e20dafc237e80fd64b84ee888cb77f04529d4bf", func := "simile/similelaw02.NumeralApart", spec := "numeralApart", inPlace := ["internal/abi.NoEscape"], unfollowed := true, recurses := true, named := ["unicode/utf8.first", "unicode/utf8.acceptRanges"], apart := false, laid := [("unicode/utf8.acceptRanges", laid_unicode_utf8_acceptRanges), ("unicode/utf8.first", laid_unicode_utf8_first)], narrowed := true }
def NumeralApartUptoSaid : Prop := numeralApartUptoRow.holds Tryd.pinned (OpenSpec.upto numeralApartSpec)

/-- 'similelaw02.NumeralRows', WHERE WHAT IT READS IS OF BULK AT MOST 1048576: true; the input reads as it did. -/
def numeralRowsUptoRow : OpenClaim := { program := "ytjjidmgeladicaadoor", sum := "ed471778cfa924e4966c34914e20dafc237e80fd64b84ee888cb77f04529d4bf", func := "simile/similelaw02.NumeralRows", spec := "numeralRows", inPlace := ["internal/abi.NoEscape", "internal/bytealg.CountString", "internal/bytealg.IndexByteString", "internal/bytealg.IndexString", "internal/bytealg.MakeNoZero"], unfollowed := true, recurses := true, named := ["internal/bytealg.MaxLen", "unicode/utf8.first", "unicode/utf8.acceptRanges"], apart := false, laid := [("unicode/utf8.acceptRanges", laid_unicode_utf8_acceptRanges), ("unicode/utf8.first", laid_unicode_utf8_first)], narrowed := true }
def NumeralRowsUptoSaid : Prop := numeralRowsUptoRow.holds Tryd.pinned (OpenSpec.upto numeralRowsSpec)

/-- 'similelaw02.NumeralBack', WHERE WHAT IT READS IS OF BULK AT MOST 1048576: true; the input reads as it did. -/
def numeralBackUptoRow : OpenClaim := { program := "ytjjidmgeladicaadoor", sum := "ed471778cfa924e4966c34914e20dafc237e80fd64b84ee888cb77f04529d4bf", func := "simile/similelaw02.NumeralBack", spec := "numeralBack", inPlace := ["internal/abi.NoEscape", "internal/bytealg.MakeNoZero", "internal/bytealg.CountString", "internal/bytealg.IndexByteString", "internal/bytealg.IndexString"], unfollowed := true, recurses := true, named := ["internal/bytealg.MaxLen", "unicode/utf8.first", "unicode/utf8.acceptRanges"], apart := false, laid := [("unicode/utf8.acceptRanges", laid_unicode_utf8_acceptRanges), ("unicode/utf8.first", laid_unicode_utf8_first)], narrowed := true }
def NumeralBackUptoSaid : Prop := numeralBackUptoRow.holds Tryd.pinned (OpenSpec.upto numeralBackSpec)

end Rows
end Go.Proofs.YtjjidmgeladicaaDoor

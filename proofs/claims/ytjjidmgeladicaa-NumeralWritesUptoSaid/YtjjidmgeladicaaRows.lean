/-
  No cell of these rows narrows 'for every input' (looked for: loops, veiled, ifaces, maps, wideKeys, modest, calm, conditions, laid).
  DERIVED. THE GIVEN ROWS OF THIS SEAT. 5 by the template 'for every input the law returns true; each argument reads behind the call as it read before'; 0 by the template 'total and deterministic' (their statements: YtjjidmgeladicaaTotals.lean).
  GIVEN WITH THE SEED: the statements are not yours to turn. If you find one false, say at which input.
  Laid BY PROGRAM, IN A SANDBOX (cutbox-rows.mjs): the forced cells as the released guide's own fill.sh prints them over the translation 8d95039404d334a5… (all of the seat's roots in one cut). By AI agents, Wed Nov 11 2026. No macro, syntax, notation, axiom, sorry.
-/
import Derived.Test.YtjjidmgeladicaaChecked
import GoSem.Claim
import GoSem.ClaimJoined
import GoSem.ClaimMapViews
import Derived.JoinedTies
import Derived.KernelRfl
namespace Go.Proofs.Ytjjidmgeladicaa
/- THE CELL 'sum', in the pinned program and in every row, IS THE sha256 OF THE DUMP (.gsa) THAT YtjjidmgeladicaaProg.lean LOADS. Nothing in Lean hashes anything: it is a label: what it is worth is what the hold of that sum in a sandbox is worth. -/
noncomputable def Try.pinned : Pinned := { name := "ytjjidmgeladicaa", sum := "8d95039404d334a591169b26102b7874270bd5b09785fddfcac95af4419b2ed1", checked := Try.checked }
namespace Rows
def none {H : Type} : Left H := { results := [], args := [] }

/-- 'similelaw02.NumeralNames': WHATEVER THE INPUT: true; the input reads as it did. -/
def numeralNamesSpec : ChangeSpec := { name := "numeralNames", fn := fun _ => fun
  | [] => { results := [.lit (.bool true)], args := [] }
  | _ => none }
def numeralNamesRow : OpenClaim := { program := "ytjjidmgeladicaa", sum := "8d95039404d334a591169b26102b7874270bd5b09785fddfcac95af4419b2ed1", func := "simile/similelaw02.NumeralNames", spec := "numeralNames", inPlace := ["internal/abi.NoEscape"], unfollowed := true, recurses := true, apart := false }
def NumeralNamesSaid : Prop := numeralNamesRow.holds Try.pinned (OpenSpec.ofChange numeralNamesSpec)

/-- ITS FALSE NEIGHBOUR: 'it returns false'. Refute it at one input. -/
def numeralNamesWrong : ChangeSpec := { name := "numeralNames", fn := fun _ => fun
  | [] => { results := [.lit (.bool false)], args := [] }
  | _ => none }
def NumeralNamesWrongFalsely : Prop := numeralNamesRow.holds Try.pinned (OpenSpec.ofChange numeralNamesWrong)

/-- 'similelaw02.NumeralReads': WHATEVER THE INPUT: true; the input reads as it did. -/
def numeralReadsSpec : ChangeSpec := { name := "numeralReads", fn := fun _ => fun
  | [d] => { results := [.lit (.bool true)], args := [d] }
  | _ => none }
def numeralReadsRow : OpenClaim := { program := "ytjjidmgeladicaa", sum := "8d95039404d334a591169b26102b7874270bd5b09785fddfcac95af4419b2ed1", func := "simile/similelaw02.NumeralReads", spec := "numeralReads", inPlace := ["internal/abi.NoEscape"], unfollowed := true, recurses := true, apart := false }
def NumeralReadsSaid : Prop := numeralReadsRow.holds Try.pinned (OpenSpec.ofChange numeralReadsSpec)

/-- ITS FALSE NEIGHBOUR: 'it returns false'. Refute it at one input. -/
def numeralReadsWrong : ChangeSpec := { name := "numeralReads", fn := fun _ => fun
  | [d] => { results := [.lit (.bool false)], args := [d] }
  | _ => none }
def NumeralReadsWrongFalsely : Prop := numeralReadsRow.holds Try.pinned (OpenSpec.ofChange numeralReadsWrong)

/-- 'similelaw02.NumeralBases': WHATEVER THE INPUT: true; the input reads as it did. -/
def numeralBasesSpec : ChangeSpec := { name := "numeralBases", fn := fun _ => fun
  | [d1, d2, d3] => { results := [.lit (.bool true)], args := [d1, d2, d3] }
  | _ => none }
def numeralBasesRow : OpenClaim := { program := "ytjjidmgeladicaa", sum := "8d95039404d334a591169b26102b7874270bd5b09785fddfcac95af4419b2ed1", func := "simile/similelaw02.NumeralBases", spec := "numeralBases", inPlace := ["internal/abi.NoEscape"], unfollowed := true, recurses := true, apart := false }
def NumeralBasesSaid : Prop := numeralBasesRow.holds Try.pinned (OpenSpec.ofChange numeralBasesSpec)

/-- ITS FALSE NEIGHBOUR: 'it returns false'. Refute it at one input. -/
def numeralBasesWrong : ChangeSpec := { name := "numeralBases", fn := fun _ => fun
  | [d1, d2, d3] => { results := [.lit (.bool false)], args := [d1, d2, d3] }
  | _ => none }
def NumeralBasesWrongFalsely : Prop := numeralBasesRow.holds Try.pinned (OpenSpec.ofChange numeralBasesWrong)

/-- 'similelaw02.NumeralPlain': WHATEVER THE INPUT: true; the input reads as it did. -/
def numeralPlainSpec : ChangeSpec := { name := "numeralPlain", fn := fun _ => fun
  | [d] => { results := [.lit (.bool true)], args := [d] }
  | _ => none }
def numeralPlainRow : OpenClaim := { program := "ytjjidmgeladicaa", sum := "8d95039404d334a591169b26102b7874270bd5b09785fddfcac95af4419b2ed1", func := "simile/similelaw02.NumeralPlain", spec := "numeralPlain", inPlace := ["internal/abi.NoEscape"], unfollowed := true, recurses := true, apart := false }
def NumeralPlainSaid : Prop := numeralPlainRow.holds Try.pinned (OpenSpec.ofChange numeralPlainSpec)

/-- ITS FALSE NEIGHBOUR: 'it returns false'. Refute it at one input. -/
def numeralPlainWrong : ChangeSpec := { name := "numeralPlain", fn := fun _ => fun
  | [d] => { results := [.lit (.bool false)], args := [d] }
  | _ => none }
def NumeralPlainWrongFalsely : Prop := numeralPlainRow.holds Try.pinned (OpenSpec.ofChange numeralPlainWrong)

/-- 'similelaw02.NumeralWrites': WHATEVER THE INPUT: true; the input reads as it did. -/
def numeralWritesSpec : ChangeSpec := { name := "numeralWrites", fn := fun _ => fun
  | [d1, d2] => { results := [.lit (.bool true)], args := [d1, d2] }
  | _ => none }
def numeralWritesRow : OpenClaim := { program := "ytjjidmgeladicaa", sum := "8d95039404d334a591169b26102b7874270bd5b09785fddfcac95af4419b2ed1", func := "simile/similelaw02.NumeralWrites", spec := "numeralWrites", inPlace := ["internal/abi.NoEscape", "internal/bytealg.MakeNoZero"], unfollowed := true, recurses := true, apart := false }
def NumeralWritesSaid : Prop := numeralWritesRow.holds Try.pinned (OpenSpec.ofChange numeralWritesSpec)

/-- ITS FALSE NEIGHBOUR: 'it returns false'. Refute it at one input. -/
def numeralWritesWrong : ChangeSpec := { name := "numeralWrites", fn := fun _ => fun
  | [d1, d2] => { results := [.lit (.bool false)], args := [d1, d2] }
  | _ => none }
def NumeralWritesWrongFalsely : Prop := numeralWritesRow.holds Try.pinned (OpenSpec.ofChange numeralWritesWrong)

/- THE SECOND FORM. 'bulk': how many values and letters a reading holds, each counted each time it is reached (what is shared counts as often as it is met; a slice's spare places count too). A statement '..UptoSaid' is the law's where the arguments, and the package variables that the reading takes, are together of bulk at most 1048576: NARROWER than '..Said'. Prove '..Said' where nothing that the law and all that it calls make is longer than what came in: it says more and counts as full. Else prove '..UptoSaid'. A law counts once. -/
mutual
def uptoBulk {H : Type} : DataW H → Nat
  | .lit (.string bytes) => bytes.length + 1
  | .lit _ => 1
  | .nil => 1
  | .ptr d => uptoBulk d + 1
  | .slice elems spare => uptoBulkAll elems + uptoBulkAll spare + 1
  | .agg parts => uptoBulkAll parts + 1
  | .iface _ d => uptoBulk d + 1
  | .map entries => uptoBulkEntries entries + 1
  | .held _ => 1
def uptoBulkAll {H : Type} : List (DataW H) → Nat
  | [] => 0
  | d :: r => uptoBulk d + uptoBulkAll r
def uptoBulkEntries {H : Type} : List (Lit × DataW H) → Nat
  | [] => 0
  | x :: r => uptoBulkEntry x + uptoBulkEntries r
def uptoBulkEntry {H : Type} : Lit × DataW H → Nat
  | (.string bytes, d) => bytes.length + uptoBulk d + 1
  | (_, d) => uptoBulk d + 1
 end
def uptoSmall : (H : Type) → List (DataW H) → Bool := fun _ ds => decide (uptoBulkAll ds ≤ 1048576)
def OpenSpec.upto (s : _root_.Go.ChangeSpec) : _root_.Go.OpenSpec := { _root_.Go.OpenSpec.ofChange s with cond := some uptoSmall }

/-- 'similelaw02.NumeralNames', WHERE WHAT IT READS IS OF BULK AT MOST 1048576: true; the input reads as it did. -/
def numeralNamesUptoRow : OpenClaim := { program := "ytjjidmgeladicaa", sum := "8d95039404d334a591169b26102b7874270bd5b09785fddfcac95af4419b2ed1", func := "simile/similelaw02.NumeralNames", spec := "numeralNames", inPlace := ["internal/abi.NoEscape"], unfollowed := true, recurses := true, apart := false, narrowed := true }
def NumeralNamesUptoSaid : Prop := numeralNamesUptoRow.holds Try.pinned (OpenSpec.upto numeralNamesSpec)

/-- 'similelaw02.NumeralReads', WHERE WHAT IT READS IS OF BULK AT MOST 1048576: true; the input reads as it did. -/
def numeralReadsUptoRow : OpenClaim := { program := "ytjjidmgeladicaa", sum := "8d95039404d334a591169b26102b7874270bd5b09785fddfcac95af4419b2ed1", func := "simile/similelaw02.NumeralReads", spec := "numeralReads", inPlace := ["internal/abi.NoEscape"], unfollowed := true, recurses := true, apart := false, narrowed := true }
def NumeralReadsUptoSaid : Prop := numeralReadsUptoRow.holds Try.pinned (OpenSpec.upto numeralReadsSpec)

/-- 'similelaw02.NumeralBases', WHERE WHAT IT READS IS OF BULK AT MOST 1048576: true; the input reads as it did. -/
def numeralBasesUptoRow : OpenClaim := { program := "ytjjidmgeladicaa", sum := "8d95039404d334a591169b26102b7874270bd5b09785fddfcac95af4419b2ed1", func := "simile/similelaw02.NumeralBases", spec := "numeralBases", inPlace := ["internal/abi.NoEscape"], unfollowed := true, recurses := true, apart := false, narrowed := true }
def NumeralBasesUptoSaid : Prop := numeralBasesUptoRow.holds Try.pinned (OpenSpec.upto numeralBasesSpec)

/-- 'similelaw02.NumeralPlain', WHERE WHAT IT READS IS OF BULK AT MOST 1048576: true; the input reads as it did. -/
def numeralPlainUptoRow : OpenClaim := { program := "ytjjidmgeladicaa", sum := "8d95039404d334a591169b26102b7874270bd5b09785fddfcac95af4419b2ed1", func := "simile/similelaw02.NumeralPlain", spec := "numeralPlain", inPlace := ["internal/abi.NoEscape"], unfollowed := true, recurses := true, apart := false, narrowed := true }
def NumeralPlainUptoSaid : Prop := numeralPlainUptoRow.holds Try.pinned (OpenSpec.upto numeralPlainSpec)

/-- 'similelaw02.NumeralWrites', WHERE WHAT IT READS IS OF BULK AT MOST 1048576: true; the input reads as it did. -/
def numeralWritesUptoRow : OpenClaim := { program := "ytjjidmgeladicaa", sum := "8d95039404d334a591169b26102b7874270bd5b09785fddfcac95af4419b2ed1", func := "simile/similelaw02.NumeralWrites", spec := "numeralWrites", inPlace := ["internal/abi.NoEscape", "internal/bytealg.MakeNoZero"], unfollowed := true, recurses := true, apart := false, narrowed := true }
def NumeralWritesUptoSaid : Prop := numeralWritesUptoRow.holds Try.pinned (OpenSpec.upto numeralWritesSpec)

end Rows
end Go.Proofs.Ytjjidmgeladicaa

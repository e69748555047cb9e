/-
  No cell of these rows narrows 'for every input' (looked for: loops, veiled, ifaces, maps, wideKeys, modest, calm, conditions, laid).
  DERIVED. THE GIVEN ROWS OF THIS SEAT. 5 by the template 'for every input the law returns true; each argument reads behind the call as it read before'; 0 by the template 'total and deterministic' (their statements: YtoijfckollafhaaGreatTotals.lean).
  GIVEN WITH THE SEED: the statements are not yours to turn. If you find one false, say at which input.
  Laid BY PROGRAM, IN A SANDBOX (cutbox-rows.mjs): the forced cells as the released guide's own fill.sh prints them over the translation 5605b6aa78406794… (all of the seat's roots in one cut). By AI agents, Wed Nov 11 2026. No macro, syntax, notation, axiom, sorry.
-/
import Derived.Test.YtoijfckollafhaaGreatChecked
import GoSem.Claim
import GoSem.ClaimJoined
import GoSem.ClaimMapViews
import Derived.JoinedTies
import Derived.KernelRfl
namespace Go.Proofs.YtoijfckollafhaaGreat
/- THE CELL 'sum', in the pinned program and in every row, IS THE sha256 OF THE DUMP (.gsa) THAT YtoijfckollafhaaGreatProg.lean LOADS. Nothing in Lean hashes anything: it is a label: what it is worth is what the hold of that sum in a sandbox is worth. -/
noncomputable def Tryz.pinned : Pinned := { name := "ytoijfckollafhaagreat", sum := "5605b6aa784067944b2fabf6cde9153c8d1212a5989c70459eb02de8ea9063ef", checked := Tryz.checked }
namespace Rows
def none {H : Type} : Left H := { results := [], args := [] }

/-- 'similelaw16.MinpolyNames': WHATEVER THE INPUT: true; the input reads as it did. -/
def minpolyNamesSpec : ChangeSpec := { name := "minpolyNames", fn := fun _ => fun
  | [] => { results := [.lit (.bool true)], args := [] }
  | _ => none }
def minpolyNamesRow : OpenClaim := { program := "ytoijfckollafhaagreat", sum := "5605b6aa784067944b2fabf6cde9153c8d1212a5989c70459eb02de8ea9063ef", func := "simile/similelaw16.MinpolyNames", spec := "minpolyNames", unfollowed := true, recurses := true, apart := false }
def MinpolyNamesSaid : Prop := minpolyNamesRow.holds Tryz.pinned (OpenSpec.ofChange minpolyNamesSpec)

/-- ITS FALSE NEIGHBOUR: 'it returns false'. Refute it at one input. -/
def minpolyNamesWrong : ChangeSpec := { name := "minpolyNames", fn := fun _ => fun
  | [] => { results := [.lit (.bool false)], args := [] }
  | _ => none }
def MinpolyNamesWrongFalsely : Prop := minpolyNamesRow.holds Tryz.pinned (OpenSpec.ofChange minpolyNamesWrong)

/-- 'similelaw27.VerifyNames': WHATEVER THE INPUT: true; the input reads as it did. -/
def verifyNamesSpec : ChangeSpec := { name := "verifyNames", fn := fun _ => fun
  | [d] => { results := [.lit (.bool true)], args := [d] }
  | _ => none }
def verifyNamesRow : OpenClaim := { program := "ytoijfckollafhaagreat", sum := "5605b6aa784067944b2fabf6cde9153c8d1212a5989c70459eb02de8ea9063ef", func := "simile/similelaw27.VerifyNames", spec := "verifyNames", unfollowed := true, recurses := true, apart := false }
def VerifyNamesSaid : Prop := verifyNamesRow.holds Tryz.pinned (OpenSpec.ofChange verifyNamesSpec)

/-- ITS FALSE NEIGHBOUR: 'it returns false'. Refute it at one input. -/
def verifyNamesWrong : ChangeSpec := { name := "verifyNames", fn := fun _ => fun
  | [d] => { results := [.lit (.bool false)], args := [d] }
  | _ => none }
def VerifyNamesWrongFalsely : Prop := verifyNamesRow.holds Tryz.pinned (OpenSpec.ofChange verifyNamesWrong)

/-- 'similelaw24.SimilNames': WHATEVER THE INPUT: true; the input reads as it did. -/
def similNamesSpec : ChangeSpec := { name := "similNames", fn := fun _ => fun
  | [] => { results := [.lit (.bool true)], args := [] }
  | _ => none }
def similNamesRow : OpenClaim := { program := "ytoijfckollafhaagreat", sum := "5605b6aa784067944b2fabf6cde9153c8d1212a5989c70459eb02de8ea9063ef", func := "simile/similelaw24.SimilNames", spec := "similNames", inPlace := ["internal/abi.NoEscape", "internal/bytealg.MakeNoZero"], unfollowed := true, recurses := true, apart := false }
def SimilNamesSaid : Prop := similNamesRow.holds Tryz.pinned (OpenSpec.ofChange similNamesSpec)

/-- ITS FALSE NEIGHBOUR: 'it returns false'. Refute it at one input. -/
def similNamesWrong : ChangeSpec := { name := "similNames", fn := fun _ => fun
  | [] => { results := [.lit (.bool false)], args := [] }
  | _ => none }
def SimilNamesWrongFalsely : Prop := similNamesRow.holds Tryz.pinned (OpenSpec.ofChange similNamesWrong)

/-- 'similelaw27.VerifySimilar': WHATEVER THE INPUT: true; the input reads as it did. -/
def verifySimilarSpec : ChangeSpec := { name := "verifySimilar", fn := fun _ => fun
  | [d1, d2, d3] => { results := [.lit (.bool true)], args := [d1, d2, d3] }
  | _ => none }
def verifySimilarRow : OpenClaim := { program := "ytoijfckollafhaagreat", sum := "5605b6aa784067944b2fabf6cde9153c8d1212a5989c70459eb02de8ea9063ef", func := "simile/similelaw27.VerifySimilar", spec := "verifySimilar", unfollowed := true, recurses := true, apart := false }
def VerifySimilarSaid : Prop := verifySimilarRow.holds Tryz.pinned (OpenSpec.ofChange verifySimilarSpec)

/-- ITS FALSE NEIGHBOUR: 'it returns false'. Refute it at one input. -/
def verifySimilarWrong : ChangeSpec := { name := "verifySimilar", fn := fun _ => fun
  | [d1, d2, d3] => { results := [.lit (.bool false)], args := [d1, d2, d3] }
  | _ => none }
def VerifySimilarWrongFalsely : Prop := verifySimilarRow.holds Tryz.pinned (OpenSpec.ofChange verifySimilarWrong)

/-- 'similelaw27.VerifyForms': WHATEVER THE INPUT: true; the input reads as it did. -/
def verifyFormsSpec : ChangeSpec := { name := "verifyForms", fn := fun _ => fun
  | [d1, d2] => { results := [.lit (.bool true)], args := [d1, d2] }
  | _ => none }
def verifyFormsRow : OpenClaim := { program := "ytoijfckollafhaagreat", sum := "5605b6aa784067944b2fabf6cde9153c8d1212a5989c70459eb02de8ea9063ef", func := "simile/similelaw27.VerifyForms", spec := "verifyForms", unfollowed := true, recurses := true, apart := false }
def VerifyFormsSaid : Prop := verifyFormsRow.holds Tryz.pinned (OpenSpec.ofChange verifyFormsSpec)

/-- ITS FALSE NEIGHBOUR: 'it returns false'. Refute it at one input. -/
def verifyFormsWrong : ChangeSpec := { name := "verifyForms", fn := fun _ => fun
  | [d1, d2] => { results := [.lit (.bool false)], args := [d1, d2] }
  | _ => none }
def VerifyFormsWrongFalsely : Prop := verifyFormsRow.holds Tryz.pinned (OpenSpec.ofChange verifyFormsWrong)

/- THE SECOND FORM. 'bulk': how many values and letters a reading holds, each counted each time it is reached (what is shared counts as often as it is met; a slice's spare places count too). A statement '..UptoSaid' is the law's where the arguments, and the package variables that the reading takes, are together of bulk at most 1048576: NARROWER than '..Said'. Prove '..Said' where nothing that the law and all that it calls make is longer than what came in: it says more and counts as full. Else prove '..UptoSaid'. A law counts once. -/
mutual
def uptoBulk {H : Type} : DataW H → Nat
  | .lit (.string bytes) => bytes.length + 1
  | .lit _ => 1
  | .nil => 1
  | .ptr d => uptoBulk d + 1
  | .slice elems spare => uptoBulkAll elems + uptoBulkAll spare + 1
  | .agg parts => uptoBulkAll parts + 1
  | .iface _ d => uptoBulk d + 1
  | .map entries => uptoBulkEntries entries + 1
  | .held _ => 1
def uptoBulkAll {H : Type} : List (DataW H) → Nat
  | [] => 0
  | d :: r => uptoBulk d + uptoBulkAll r
def uptoBulkEntries {H : Type} : List (Lit × DataW H) → Nat
  | [] => 0
  | x :: r => uptoBulkEntry x + uptoBulkEntries r
def uptoBulkEntry {H : Type} : Lit × DataW H → Nat
  | (.string bytes, d) => bytes.length + uptoBulk d + 1
  | (_, d) => uptoBulk d + 1
 end
def uptoSmall : (H : Type) → List (DataW H) → Bool := fun _ ds => decide (uptoBulkAll ds ≤ 1048576)
def OpenSpec.upto (s : _root_.Go.ChangeSpec) : _root_.Go.OpenSpec := { _root_.Go.OpenSpec.ofChange s with cond := some uptoSmall }

/-- 'similelaw16.MinpolyNames', WHERE WHAT IT READS IS OF BULK AT MOST 1048576: true; the input reads as it did. -/
def minpolyNamesUptoRow : OpenClaim := { program := "ytoijfckollafhaagreat", sum := "5605b6aa784067944b2fabf6cde9153c8d1212a5989c70459eb02de8ea9063ef", func := "simile/similelaw16.MinpolyNames", spec := "minpolyNames", unfollowed := true, recurses := true, apart := false, narrowed := true }
def MinpolyNamesUptoSaid : Prop := minpolyNamesUptoRow.holds Tryz.pinned (OpenSpec.upto minpolyNamesSpec)

/-- 'similelaw27.VerifyNames', WHERE WHAT IT READS IS OF BULK AT MOST 1048576: true; the input reads as it did. -/
def verifyNamesUptoRow : OpenClaim := { program := "ytoijfckollafhaagreat", sum := "5605b6aa784067944b2fabf6cde9153c8d1212a5989c70459eb02de8ea9063ef", func := "simile/similelaw27.VerifyNames", spec := "verifyNames", unfollowed := true, recurses := true, apart := false, narrowed := true }
def VerifyNamesUptoSaid : Prop := verifyNamesUptoRow.holds Tryz.pinned (OpenSpec.upto verifyNamesSpec)

/-- 'similelaw24.SimilNames', WHERE WHAT IT READS IS OF BULK AT MOST 1048576: true; the input reads as it did. -/
def similNamesUptoRow : OpenClaim := { program := "ytoijfckollafhaagreat", sum := "5605b6aa784067944b2fabf6cde9153c8d1212a5989c70459eb02de8ea9063ef", func := "simile/similelaw24.SimilNames", spec := "similNames", inPlace := ["internal/abi.NoEscape", "internal/bytealg.MakeNoZero"], unfollowed := true, recurses := true, apart := false, narrowed := true }
def SimilNamesUptoSaid : Prop := similNamesUptoRow.holds Tryz.pinned (OpenSpec.upto similNamesSpec)

/-- 'similelaw27.VerifySimilar', WHERE WHAT IT READS IS OF BULK AT MOST 1048576: true; the input reads as it did. -/
def verifySimilarUptoRow : OpenClaim := { program := "ytoijfckollafhaagreat", sum := "5605b6aa784067944b2fabf6cde9153c8d1212a5989c70459eb02de8ea9063ef", func := "simile/similelaw27.VerifySimilar", spec := "verifySimilar", unfollowed := true, recurses := true, apart := false, narrowed := true }
def VerifySimilarUptoSaid : Prop := verifySimilarUptoRow.holds Tryz.pinned (OpenSpec.upto verifySimilarSpec)

/-- 'similelaw27.VerifyForms', WHERE WHAT IT READS IS OF BULK AT MOST 1048576: true; the input reads as it did. -/
def verifyFormsUptoRow : OpenClaim := { program := "ytoijfckollafhaagreat", sum := "5605b6aa784067944b2fabf6cde9153c8d1212a5989c70459eb02de8ea9063ef", func := "simile/similelaw27.VerifyForms", spec := "verifyForms", unfollowed := true, recurses := true, apart := false, narrowed := true }
def VerifyFormsUptoSaid : Prop := verifyFormsUptoRow.holds Tryz.pinned (OpenSpec.upto verifyFormsSpec)

end Rows
end Go.Proofs.YtoijfckollafhaaGreat

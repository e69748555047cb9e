/-
  No cell of these rows narrows 'for every input' (looked for: loops, veiled, ifaces, maps, wideKeys, modest, calm, conditions, laid).
  DERIVED. THE GIVEN ROWS OF THIS SEAT. 3 by the template 'for every input the law returns true; each argument reads behind the call as it read before'; 0 by the template 'total and deterministic' (their statements: YtkjhfnhgefbhhaaGreatTotals.lean).
  GIVEN WITH THE SEED: the statements are not yours to turn. If you find one false, say at which input.
  Laid BY PROGRAM, IN A SANDBOX (cutbox-rows.mjs): the forced cells as the released guide's own fill.sh prints them over the translation 640f49936eb321f0… (all of the seat's roots in one cut). By AI agents, Wed Nov 11 2026. No macro, syntax, notation, axiom, sorry.
-/
import Derived.Test.YtkjhfnhgefbhhaaGreatChecked
import GoSem.Claim
import GoSem.ClaimJoined
import GoSem.ClaimMapViews
import Derived.JoinedTies
import Derived.KernelRfl
namespace Go.Proofs.YtkjhfnhgefbhhaaGreat
/- THE CELL 'sum', in the pinned program and in every row, IS THE sha256 OF THE DUMP (.gsa) THAT YtkjhfnhgefbhhaaGreatProg.lean LOADS. Nothing in Lean hashes anything: it is a label: what it is worth is what the hold of that sum in a sandbox is worth. -/
noncomputable def Tryz.pinned : Pinned := { name := "ytkjhfnhgefbhhaagreat", sum := "640f49936eb321f0c801536e2a1f4aa597f430e4ae10f4a262f024399a58f4a3", checked := Tryz.checked }
namespace Rows
def none {H : Type} : Left H := { results := [], args := [] }

/-- 'similelaw27.VerifySimilar': WHATEVER THE INPUT: true; the input reads as it did. -/
def verifySimilarSpec : ChangeSpec := { name := "verifySimilar", fn := fun _ => fun
  | [d1, d2, d3] => { results := [.lit (.bool true)], args := [d1, d2, d3] }
  | _ => none }
def verifySimilarRow : OpenClaim := { program := "ytkjhfnhgefbhhaagreat", sum := "640f49936eb321f0c801536e2a1f4aa597f430e4ae10f4a262f024399a58f4a3", func := "simile/similelaw27.VerifySimilar", spec := "verifySimilar", unfollowed := true, recurses := true, apart := false }
def VerifySimilarSaid : Prop := verifySimilarRow.holds Tryz.pinned (OpenSpec.ofChange verifySimilarSpec)

/-- ITS FALSE NEIGHBOUR: 'it returns false'. Refute it at one input. -/
def verifySimilarWrong : ChangeSpec := { name := "verifySimilar", fn := fun _ => fun
  | [d1, d2, d3] => { results := [.lit (.bool false)], args := [d1, d2, d3] }
  | _ => none }
def VerifySimilarWrongFalsely : Prop := verifySimilarRow.holds Tryz.pinned (OpenSpec.ofChange verifySimilarWrong)

/-- 'similelaw27.VerifyForms': WHATEVER THE INPUT: true; the input reads as it did. -/
def verifyFormsSpec : ChangeSpec := { name := "verifyForms", fn := fun _ => fun
  | [d1, d2] => { results := [.lit (.bool true)], args := [d1, d2] }
  | _ => none }
def verifyFormsRow : OpenClaim := { program := "ytkjhfnhgefbhhaagreat", sum := "640f49936eb321f0c801536e2a1f4aa597f430e4ae10f4a262f024399a58f4a3", func := "simile/similelaw27.VerifyForms", spec := "verifyForms", unfollowed := true, recurses := true, apart := false }
def VerifyFormsSaid : Prop := verifyFormsRow.holds Tryz.pinned (OpenSpec.ofChange verifyFormsSpec)

/-- ITS FALSE NEIGHBOUR: 'it returns false'. Refute it at one input. -/
def verifyFormsWrong : ChangeSpec := { name := "verifyForms", fn := fun _ => fun
  | [d1, d2] => { results := [.lit (.bool false)], args := [d1, d2] }
  | _ => none }
def VerifyFormsWrongFalsely : Prop := verifyFormsRow.holds Tryz.pinned (OpenSpec.ofChange verifyFormsWrong)

/-- 'similelaw25.CommuteDoes': WHATEVER THE INPUT: true; the input reads as it did. -/
def commuteDoesSpec : ChangeSpec := { name := "commuteDoes", fn := fun _ => fun
  | [d1, d2] => { results := [.lit (.bool true)], args := [d1, d2] }
  | _ => none }
def commuteDoesRow : OpenClaim := { program := "ytkjhfnhgefbhhaagreat", sum := "640f49936eb321f0c801536e2a1f4aa597f430e4ae10f4a262f024399a58f4a3", func := "simile/similelaw25.CommuteDoes", spec := "commuteDoes", unfollowed := true, recurses := true, apart := false }
def CommuteDoesSaid : Prop := commuteDoesRow.holds Tryz.pinned (OpenSpec.ofChange commuteDoesSpec)

/-- ITS FALSE NEIGHBOUR: 'it returns false'. Refute it at one input. -/
def commuteDoesWrong : ChangeSpec := { name := "commuteDoes", fn := fun _ => fun
  | [d1, d2] => { results := [.lit (.bool false)], args := [d1, d2] }
  | _ => none }
def CommuteDoesWrongFalsely : Prop := commuteDoesRow.holds Tryz.pinned (OpenSpec.ofChange commuteDoesWrong)

/- THE SECOND FORM. 'bulk': how many values and letters a reading holds, each counted each time it is reached (what is shared counts as often as it is met; a slice's spare places count too). A statement '..UptoSaid' is the law's where the arguments, and the package variables that the reading takes, are together of bulk at most 1048576: NARROWER than '..Said'. Prove '..Said' where nothing that the law and all that it calls make is longer than what came in: it says more and counts as full. Else prove '..UptoSaid'. A law counts once. -/
mutual
def uptoBulk {H : Type} : DataW H → Nat
  | .lit (.string bytes) => bytes.length + 1
  | .lit _ => 1
  | .nil => 1
  | .ptr d => uptoBulk d + 1
  | .slice elems spare => uptoBulkAll elems + uptoBulkAll spare + 1
  | .agg parts => uptoBulkAll parts + 1
  | .iface _ d => uptoBulk d + 1
  | .map entries => uptoBulkEntries entries + 1
  | .held _ => 1
def uptoBulkAll {H : Type} : List (DataW H) → Nat
  | [] => 0
  | d :: r => uptoBulk d + uptoBulkAll r
def uptoBulkEntries {H : Type} : List (Lit × DataW H) → Nat
  | [] => 0
  | x :: r => uptoBulkEntry x + uptoBulkEntries r
def uptoBulkEntry {H : Type} : Lit × DataW H → Nat
  | (.string bytes, d) => bytes.length + uptoBulk d + 1
  | (_, d) => uptoBulk d + 1
 end
def uptoSmall : (H : Type) → List (DataW H) → Bool := fun _ ds => decide (uptoBulkAll ds ≤ 1048576)
def OpenSpec.upto (s : _root_.Go.ChangeSpec) : _root_.Go.OpenSpec := { _root_.Go.OpenSpec.ofChange s with cond := some uptoSmall }

/-- 'similelaw27.VerifySimilar', WHERE WHAT IT READS IS OF BULK AT MOST 1048576: true; the input reads as it did. -/
def verifySimilarUptoRow : OpenClaim := { program := "ytkjhfnhgefbhhaagreat", sum := "640f49936eb321f0c801536e2a1f4aa597f430e4ae10f4a262f024399a58f4a3", func := "simile/similelaw27.VerifySimilar", spec := "verifySimilar", unfollowed := true, recurses := true, apart := false, narrowed := true }
def VerifySimilarUptoSaid : Prop := verifySimilarUptoRow.holds Tryz.pinned (OpenSpec.upto verifySimilarSpec)

/-- 'similelaw27.VerifyForms', WHERE WHAT IT READS IS OF BULK AT MOST 1048576: true; the input reads as it did. -/
def verifyFormsUptoRow : OpenClaim := { program := "ytkjhfnhgefbhhaagreat", sum := "640f49936eb321f0c801536e2a1f4aa597f430e4ae10f4a262f024399a58f4a3", func := "simile/similelaw27.VerifyForms", spec := "verifyForms", unfollowed := true, recurses := true, apart := false, narrowed := true }
def VerifyFormsUptoSaid : Prop := verifyFormsUptoRow.holds Tryz.pinned (OpenSpec.upto verifyFormsSpec)

/-- 'similelaw25.CommuteDoes', WHERE WHAT IT READS IS OF BULK AT MOST 1048576: true; the input reads as it did. -/
def commuteDoesUptoRow : OpenClaim := { program := "ytkjhfnhgefbhhaagreat", sum := "640f49936eb321f0c801536e2a1f4aa597f430e4ae10f4a262f024399a58f4a3", func := "simile/similelaw25.CommuteDoes", spec := "commuteDoes", unfollowed := true, recurses := true, apart := false, narrowed := true }
def CommuteDoesUptoSaid : Prop := commuteDoesUptoRow.holds Tryz.pinned (OpenSpec.upto commuteDoesSpec)

end Rows
end Go.Proofs.YtkjhfnhgefbhhaaGreat

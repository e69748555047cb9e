/- Names of claims that there are not: none. -/
import Derived.Test.YtoijfckollafhaaGreatRows
import Derived.Test.YtoijfckollafhaaGreatEvT
import Derived.ProofKit
import Derived.OpenShut
namespace Go.Proofs.YtoijfckollafhaaGreat
open Go.ChangeShapes Go.WideShapes Go.ChangeAt Go.RowKit Go.Ev

theorem mixed_here : Tryz.prog.follows .mixedOrders = true := by decide +kernel

theorem lrel_strs {φ : Ren} : ∀ {L : List ByteArray} {us : List Value}, LRel φ (L.map AV.str) us → us = L.map Value.string
  | [], _, h => by cases h; rfl
  | s :: L, _, h => by
    cases h with
    | cons h t => cases h; rw [lrel_strs t]; rfl

set_option maxRecDepth 100000 in
theorem names58 (w : World) : (Instr.build 58 #[(0, .string ⟨#[110, 111, 110, 101]⟩), (1, .string ⟨#[115, 104, 97, 112, 101]⟩), (2, .string ⟨#[99, 104, 97, 105, 110]⟩), (3, .string ⟨#[102, 111, 114, 109]⟩), (4, .string ⟨#[105, 110, 118, 101, 114, 115, 101]⟩), (5, .string ⟨#[99, 111, 110, 106, 117, 103, 97, 116, 101]⟩), (6, .string ⟨#[100, 101, 110, 111, 109, 105, 110, 97, 116, 111, 114]⟩), (7, .string ⟨#[112, 114, 105, 109, 101]⟩), (8, .string ⟨#[98, 111, 117, 110, 100]⟩), (9, .string ⟨#[99, 111, 117, 110, 116]⟩), (10, .string ⟨#[105, 109, 97, 103, 101]⟩), (11, .string ⟨#[108, 105, 102, 116]⟩), (12, .string ⟨#[99, 111, 109, 109, 117, 116, 101]⟩), (13, .string ⟨#[105, 110, 100, 101, 112, 101, 110, 100, 101, 110, 116]⟩), (14, .string ⟨#[100, 105, 109, 101, 110, 115, 105, 111, 110]⟩)]).run Tryz.prog w = .ok (.agg #[.string ⟨#[110, 111, 110, 101]⟩, .string ⟨#[115, 104, 97, 112, 101]⟩, .string ⟨#[99, 104, 97, 105, 110]⟩, .string ⟨#[102, 111, 114, 109]⟩, .string ⟨#[105, 110, 118, 101, 114, 115, 101]⟩, .string ⟨#[99, 111, 110, 106, 117, 103, 97, 116, 101]⟩, .string ⟨#[100, 101, 110, 111, 109, 105, 110, 97, 116, 111, 114]⟩, .string ⟨#[112, 114, 105, 109, 101]⟩, .string ⟨#[98, 111, 117, 110, 100]⟩, .string ⟨#[99, 111, 117, 110, 116]⟩, .string ⟨#[105, 109, 97, 103, 101]⟩, .string ⟨#[108, 105, 102, 116]⟩, .string ⟨#[99, 111, 109, 109, 117, 116, 101]⟩, .string ⟨#[105, 110, 100, 101, 112, 101, 110, 100, 101, 110, 116]⟩, .string ⟨#[100, 105, 109, 101, 110, 115, 105, 111, 110]⟩]) w := by
  obtain ⟨u, h1, h2⟩ := eBuild_ok (P := Tryz.prog) (w := w) (φ := fun _ => none) (cxCx_ok mixed_here) (t := 58) (ps := [(0, .str ⟨#[110, 111, 110, 101]⟩), (1, .str ⟨#[115, 104, 97, 112, 101]⟩), (2, .str ⟨#[99, 104, 97, 105, 110]⟩), (3, .str ⟨#[102, 111, 114, 109]⟩), (4, .str ⟨#[105, 110, 118, 101, 114, 115, 101]⟩), (5, .str ⟨#[99, 111, 110, 106, 117, 103, 97, 116, 101]⟩), (6, .str ⟨#[100, 101, 110, 111, 109, 105, 110, 97, 116, 111, 114]⟩), (7, .str ⟨#[112, 114, 105, 109, 101]⟩), (8, .str ⟨#[98, 111, 117, 110, 100]⟩), (9, .str ⟨#[99, 111, 117, 110, 116]⟩), (10, .str ⟨#[105, 109, 97, 103, 101]⟩), (11, .str ⟨#[108, 105, 102, 116]⟩), (12, .str ⟨#[99, 111, 109, 109, 117, 116, 101]⟩), (13, .str ⟨#[105, 110, 100, 101, 112, 101, 110, 100, 101, 110, 116]⟩), (14, .str ⟨#[100, 105, 109, 101, 110, 115, 105, 111, 110]⟩)]) (v := .agg [.str ⟨#[110, 111, 110, 101]⟩, .str ⟨#[115, 104, 97, 112, 101]⟩, .str ⟨#[99, 104, 97, 105, 110]⟩, .str ⟨#[102, 111, 114, 109]⟩, .str ⟨#[105, 110, 118, 101, 114, 115, 101]⟩, .str ⟨#[99, 111, 110, 106, 117, 103, 97, 116, 101]⟩, .str ⟨#[100, 101, 110, 111, 109, 105, 110, 97, 116, 111, 114]⟩, .str ⟨#[112, 114, 105, 109, 101]⟩, .str ⟨#[98, 111, 117, 110, 100]⟩, .str ⟨#[99, 111, 117, 110, 116]⟩, .str ⟨#[105, 109, 97, 103, 101]⟩, .str ⟨#[108, 105, 102, 116]⟩, .str ⟨#[99, 111, 109, 109, 117, 116, 101]⟩, .str ⟨#[105, 110, 100, 101, 112, 101, 110, 100, 101, 110, 116]⟩, .str ⟨#[100, 105, 109, 101, 110, 115, 105, 111, 110]⟩]) (by kernel_rfl) (qs := #[(0, .string ⟨#[110, 111, 110, 101]⟩), (1, .string ⟨#[115, 104, 97, 112, 101]⟩), (2, .string ⟨#[99, 104, 97, 105, 110]⟩), (3, .string ⟨#[102, 111, 114, 109]⟩), (4, .string ⟨#[105, 110, 118, 101, 114, 115, 101]⟩), (5, .string ⟨#[99, 111, 110, 106, 117, 103, 97, 116, 101]⟩), (6, .string ⟨#[100, 101, 110, 111, 109, 105, 110, 97, 116, 111, 114]⟩), (7, .string ⟨#[112, 114, 105, 109, 101]⟩), (8, .string ⟨#[98, 111, 117, 110, 100]⟩), (9, .string ⟨#[99, 111, 117, 110, 116]⟩), (10, .string ⟨#[105, 109, 97, 103, 101]⟩), (11, .string ⟨#[108, 105, 102, 116]⟩), (12, .string ⟨#[99, 111, 109, 109, 117, 116, 101]⟩), (13, .string ⟨#[105, 110, 100, 101, 112, 101, 110, 100, 101, 110, 116]⟩), (14, .string ⟨#[100, 105, 109, 101, 110, 115, 105, 111, 110]⟩)]) (by repeat' (first | exact .nil | exact .str _ | constructor))
  rw [h1]
  cases h2 with
  | agg h => rw [lrel_strs (L := [⟨#[110, 111, 110, 101]⟩, ⟨#[115, 104, 97, 112, 101]⟩, ⟨#[99, 104, 97, 105, 110]⟩, ⟨#[102, 111, 114, 109]⟩, ⟨#[105, 110, 118, 101, 114, 115, 101]⟩, ⟨#[99, 111, 110, 106, 117, 103, 97, 116, 101]⟩, ⟨#[100, 101, 110, 111, 109, 105, 110, 97, 116, 111, 114]⟩, ⟨#[112, 114, 105, 109, 101]⟩, ⟨#[98, 111, 117, 110, 100]⟩, ⟨#[99, 111, 117, 110, 116]⟩, ⟨#[105, 109, 97, 103, 101]⟩, ⟨#[108, 105, 102, 116]⟩, ⟨#[99, 111, 109, 109, 117, 116, 101]⟩, ⟨#[105, 110, 100, 101, 112, 101, 110, 100, 101, 110, 116]⟩, ⟨#[100, 105, 109, 101, 110, 115, 105, 111, 110]⟩]) h]; rfl

set_option maxHeartbeats 1600000 in
theorem vname_none (n : Int) (w : World) (h : n < 0 ∨ 14 < n) : Calls Tryz.prog 10 #[.int .i64 n] w fun e w' => e = .returned (.string ⟨#[]⟩) ∧ w' = w := by
  have h0 : n ≠ 0 := by omega
  have h1 : n ≠ 1 := by omega
  have h2 : n ≠ 2 := by omega
  have h3 : n ≠ 3 := by omega
  have h4 : n ≠ 4 := by omega
  have h5 : n ≠ 5 := by omega
  have h6 : n ≠ 6 := by omega
  have h7 : n ≠ 7 := by omega
  have h8 : n ≠ 8 := by omega
  have h9 : n ≠ 9 := by omega
  have h10 : n ≠ 10 := by omega
  have h11 : n ≠ 11 := by omega
  have h12 : n ≠ 12 := by omega
  have h13 : n ≠ 13 := by omega
  have h14 : n ≠ 14 := by omega
  go_enter Tryz.func10, Tryz.ntmps10
  go_wp2
  go_ret
  exact ⟨rfl, rfl⟩

set_option maxRecDepth 100000 in
set_option maxHeartbeats 1600000 in
theorem rname_none (n : Int) (w : World) (h : n < 0 ∨ 14 < n) : Calls Tryz.prog 11 #[.int .i64 n] w fun e w' => e = .returned (.string ⟨#[]⟩) ∧ Below w.heap.size w w' := by
  have Q := names58 w
  rcases h with h | h
  · go_enter Tryz.func11, Tryz.ntmps11
    go_wp2
    go_ret
    refine ⟨rfl, ?_⟩
    repeat' (with_reducible apply Below.setCell)
    all_goals first | exact (Below.refl _ _).alloc (Nat.le_refl _) _ | exact Nat.le_refl _
  · have h' : ¬ n < 0 := by omega
    go_enter Tryz.func11, Tryz.ntmps11
    go_wp2
    go_ret
    refine ⟨rfl, ?_⟩
    repeat' (with_reducible apply Below.setCell)
    all_goals first | exact (Below.refl _ _).alloc (Nat.le_refl _) _ | exact Nat.le_refl _
end Go.Proofs.YtoijfckollafhaaGreat

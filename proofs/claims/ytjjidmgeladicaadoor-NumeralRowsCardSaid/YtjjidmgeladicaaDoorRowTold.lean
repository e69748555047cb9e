/- A row as numeral.Row tells it, with its shapes and bounds. Plain; no condition. -/
import Derived.Test.YtjjidmgeladicaaDoorRowsEq
import Derived.Test.YtjjidmgeladicaaDoorLaw2
namespace Go.Proofs.YtjjidmgeladicaaDoor
open Go.RowKit

/-- limbs' lengths of the numbers of a row -/
theorem rowGoR_len (n : Nat) (hn : n ≤ 1000000000) : ∀ (P : List (List Nat × Bool)) (bad : Bool) (out : List (Bool × List Nat × Bool × List Nat)), (∀ x, x ∈ P → x.1.length ≤ n) →
    (∀ x, x ∈ out → x.2.1.length ≤ 1000000001 ∧ x.2.2.2.length ≤ 1000000001) → (∀ x, x ∈ (rowGoR bad out P).1 → x.2.1.length ≤ 1000000001 ∧ x.2.2.2.length ≤ 1000000001) ∧ (rowGoR bad out P).1.length ≤ out.length + P.length
  | [], bad, out, _, ho => by rw [rowGoR]; exact ⟨ho, by simp⟩
  | (u, true) :: P, bad, out, hp, ho => by
    rw [rowGoR]
    split
    · exact ⟨by simp, by simp⟩
    · have := rowGoR_len n hn P true out (fun x hx => hp x (List.mem_cons_of_mem _ hx)) ho
      exact ⟨this.1, by simp only [List.length_cons]; omega⟩
  | (u, false) :: P, bad, out, hp, ho => by
    rw [rowGoR]
    split
    · exact ⟨by simp, by simp⟩
    · have hu := hp (u, false) (List.mem_cons_self ..)
      have h1 := fracR_len u
      have := rowGoR_len n hn P false (out ++ [fracL (fracR u)]) (fun x hx => hp x (List.mem_cons_of_mem _ hx)) (by
        intro x hx
        rcases List.mem_append.1 hx with h | h
        · exact ho x h
        · simp only [List.mem_singleton] at h
          subst h
          dsimp only at hu
          exact ⟨Nat.le_trans h1.1 (by omega), Nat.le_trans h1.2 (by omega)⟩)
      refine ⟨this.1, ?_⟩
      have h2 := this.2
      rw [List.length_append] at h2
      simp only [List.length_cons, List.length_nil] at h2 ⊢
      omega

theorem pcsR_bd : ∀ (L : List Nat) (fr : Option (List Nat)), (∀ x, x ∈ pcsR fr L → x.1.length ≤ (fr.getD []).length + L.length) ∧ (pcsR fr L).length ≤ 2 * L.length + 1
  | [], fr => by
    rw [pcsR]
    cases fr with
    | none => simp [flushR]
    | some u => simp [flushR]
  | r :: L, fr => by
    have h0 := pcsR_bd L none
    have h1 := pcsR_bd L (some (fr.getD [] ++ [r]))
    have hf : ∀ x, x ∈ flushR fr → x.1.length ≤ (fr.getD []).length := by
      intro x hx
      cases fr with
      | none => simp [flushR] at hx
      | some u => simp only [flushR, List.mem_singleton] at hx; rw [hx]; simp
    have hfl : (flushR fr).length ≤ 1 := by cases fr <;> simp [flushR]
    simp only [Option.getD_none, List.length_nil, Option.getD_some, List.length_append, List.length_cons] at h0 h1
    rw [pcsR]
    split
    · refine ⟨?_, by simp only [List.length_append, List.length_cons]; omega⟩
      intro x hx
      rcases List.mem_append.1 hx with h | h
      · have := hf x h; omega
      · have := h0.1 x h; simp only [List.length_cons]; omega
    · split
      · refine ⟨?_, by simp only [List.length_append, List.length_cons]; omega⟩
        intro x hx
        rcases List.mem_append.1 hx with h | h
        · have := hf x h; omega
        · rcases List.mem_cons.1 h with h | h
          · rw [h]; simp
          · have := h0.1 x h; simp only [List.length_cons]; omega
      · refine ⟨?_, by simp only [List.length_cons]; omega⟩
        intro x hx
        have := h1.1 x hx
        simp only [List.length_cons]
        omega

theorem rowR_len (L : List Nat) (hL : L.length ≤ 400000000) : (∀ x, x ∈ (rowR L).1 → x.2.1.length ≤ 1000000001 ∧ x.2.2.2.length ≤ 1000000001) ∧ (rowR L).1.length ≤ 1000000000 := by
  obtain ⟨h1, h2⟩ := pcsR_bd L none
  have := rowGoR_len L.length (by omega) (pcsR none L) true [] (fun x hx => by have := h1 x hx; simpa using this) (by simp)
  refine ⟨this.1, ?_⟩
  have h3 := this.2
  simp only [List.length_nil] at h3
  unfold rowR
  omega

theorem txt_size (L : List Nat) : (txt L).size ≤ 4 * L.length := encB_len L

theorem rowTold (s : ByteArray) (w : World) (hs : s.size ≤ 400000000) (X : List (Bool × List Nat × Bool × List Nat)) (n c : Nat) (hx : rowR (runesOf s) = (X, n, c)) :
    Calls Tryd.prog 14 #[.string s] w fun e w' => Below w.heap.size w w' ∧ ∃ ad cap, e = .returned (.tuple #[.slice ad X.length cap, .int .i64 (n : Nat), .int .i64 (c : Nat)]) ∧ Fracs w.heap.size w'.heap.size w' (.slice ad X.length cap) X := by
  refine (row_any s w hs).mono ?_
  rintro e w' ⟨hb, h⟩
  rw [rowOf_R, hx] at h
  obtain ⟨r, rfl, hr⟩ := h
  obtain ⟨ad, cap, rfl⟩ := RowOf.shape hr
  exact ⟨hb, _, _, rfl, hr⟩

end Go.Proofs.YtjjidmgeladicaaDoor

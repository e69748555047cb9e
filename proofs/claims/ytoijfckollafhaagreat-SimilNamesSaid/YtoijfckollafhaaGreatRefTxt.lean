/- simileref02's value, all, signed, FromBase, Int: what texts say. -/
import Derived.Test.YtoijfckollafhaaGreatRunes
import Derived.Test.YtoijfckollafhaaGreatNum1
import Derived.Deep.DeepCutAuto
import Derived.Deep.CutBlock
namespace Go.Proofs.YtoijfckollafhaaGreat
open Go.RowKit

theorem worth_cases (r : Nat) : (∃ d, r = d + 48 ∧ 0 ≤ d ∧ d < 10 ∧ worth r = d) ∨ (∃ d, r = d + 87 ∧ 10 ≤ d ∧ d < 36 ∧ worth r = d) ∨ (∃ d, r = d + 55 ∧ 10 ≤ d ∧ d < 36 ∧ worth r = d) ∨
    ((r < 48 ∨ 57 < r) ∧ (r < 97 ∨ 122 < r) ∧ (r < 65 ∨ 90 < r) ∧ worth r = 99) := by
  unfold worth isDigit
  simp only [Bool.and_eq_true, decide_eq_true_eq]
  by_cases h1 : 48 ≤ r ∧ r ≤ 57
  · rw [if_pos h1]; exact .inl ⟨r - 48, by omega, by omega, by omega, rfl⟩
  · rw [if_neg h1]
    by_cases h2 : 97 ≤ r ∧ r ≤ 122
    · rw [if_pos h2]; exact .inr (.inl ⟨r - 87, by omega, by omega, by omega, rfl⟩)
    · rw [if_neg h2]
      by_cases h3 : 65 ≤ r ∧ r ≤ 90
      · rw [if_pos h3]; exact .inr (.inr (.inl ⟨r - 55, by omega, by omega, by omega, rfl⟩))
      · rw [if_neg h3]; exact .inr (.inr (.inr ⟨by omega, by omega, by omega, rfl⟩))

theorem foldl_lt (b : Nat) : ∀ (ds : List Nat) (acc : Nat), (∀ d, d ∈ ds → d < b) → ds.foldl (fun n d => n * b + d) acc < (acc + 1) * b ^ ds.length
  | [], acc, _ => by simp
  | d :: ds, acc, h => by
    have ih := foldl_lt b ds (acc * b + d) fun x hx => h x (List.mem_cons_of_mem _ hx)
    have hd := h d (List.mem_cons_self ..)
    simp only [List.foldl_cons, List.length_cons, Nat.pow_succ]
    have h1 : (acc * b + d + 1) * b ^ ds.length ≤ ((acc + 1) * b) * b ^ ds.length := Nat.mul_le_mul_right _ (by rw [Nat.add_mul]; omega)
    rw [Nat.mul_assoc, Nat.mul_comm b] at h1
    exact Nat.lt_of_lt_of_le ih h1

theorem ofDigits_lt (b : Nat) (ds : List Nat) (h : ∀ d, d ∈ ds → d < b) : ofDigits b ds < b ^ ds.length := by
  have := foldl_lt b ds 0 h
  simpa [ofDigits] using this

theorem worth_int (r : Nat) : (48 ≤ r ∧ r ≤ 57 ∧ isDigit r = true ∧ (if worth r = 99 then (-1 : Int) else (worth r : Nat)) = (r : Int) - 48) ∨
    (97 ≤ r ∧ r ≤ 122 ∧ isDigit r = false ∧ (if worth r = 99 then (-1 : Int) else (worth r : Nat)) = (r : Int) - 97 + 10) ∨
    (65 ≤ r ∧ r ≤ 90 ∧ isDigit r = false ∧ (if worth r = 99 then (-1 : Int) else (worth r : Nat)) = (r : Int) - 65 + 10) ∨
    ((r < 48 ∨ 57 < r) ∧ (r < 97 ∨ 122 < r) ∧ (r < 65 ∨ 90 < r) ∧ isDigit r = false ∧ (if worth r = 99 then (-1 : Int) else (worth r : Nat)) = -1) := by
  have hf : ∀ r, (r < 48 ∨ 57 < r) → isDigit r = false := by
    intro r h
    rcases Bool.eq_false_or_eq_true (isDigit r) with h1 | h1
    · simp [isDigit] at h1; omega
    · exact h1
  rcases worth_cases r with ⟨d, rfl, h1, h2, h3⟩ | ⟨d, rfl, h1, h2, h3⟩ | ⟨d, rfl, h1, h2, h3⟩ | ⟨h1, h2, h3, h4⟩
  · exact .inl ⟨by omega, by omega, by simp [isDigit] <;> omega, by rw [h3, if_neg (by omega)]; omega⟩
  · exact .inr (.inl ⟨by omega, by omega, hf _ (by omega), by rw [h3, if_neg (by omega)]; omega⟩)
  · exact .inr (.inr (.inl ⟨by omega, by omega, hf _ (by omega), by rw [h3, if_neg (by omega)]; omega⟩))
  · exact .inr (.inr (.inr ⟨h1, h2, h3, hf _ h1, by rw [h4, if_pos rfl]⟩))

theorem ofDigits_len (b : Nat) (ds : List Nat) (hb : b ≤ 36) (h : ∀ d, d ∈ ds → d < b) : (toL (ofDigits b ds)).length ≤ ds.length := by
  refine toL_len_le _ _ (Nat.lt_of_lt_of_le (ofDigits_lt b ds h) (Nat.pow_le_pow_left (by omega) _))

/-- all of them are digits of the base -/
def AllOk (b : Nat) (L : List Nat) : Prop := ∀ r, r ∈ L → worth r < b

theorem getD_rune (L : List Nat) (k r : Nat) (hk : k < L.length) (h : L.getD k 0 = r) : r ∈ L := by rw [← h]; exact getD_mem L k hk

/-- is there a minus ahead? -/
def negative (L : List Nat) : Bool := match L with | [] => false | r :: _ => isMinus r

/-- what a text's runes say in a base: the sign, the number, the error -/
def parseB (b : Nat) (L : List Nat) : Bool × Nat × Nat :=
  let U := if negative L then L.tail else L
  if U.isEmpty || !(U.all fun r => decide (worth r < b)) then (false, 0, 20)
  else if 10000 < U.length then (false, 0, 4)
  else (negative L && decide (ofDigits b (U.map worth) ≠ 0), ofDigits b (U.map worth), 0)

theorem allOk_iff (b : Nat) (L : List Nat) : AllOk b L ↔ L.all (fun r => decide (worth r < b)) = true := by
  simp [AllOk]

theorem parse_bad (b : Nat) (L U : List Nat) (hU : (if negative L then L.tail else L) = U) (h : U = [] ∨ ¬ AllOk b U) : parseB b L = (false, 0, 20) := by
  unfold parseB
  rw [hU]
  dsimp only
  rw [if_pos]
  rcases h with h | h
  · simp [h]
  · rw [allOk_iff] at h
    simp only [Bool.or_eq_true, Bool.not_eq_true', Bool.not_eq_true] at h ⊢
    exact .inr h

theorem parse_long (b : Nat) (L U : List Nat) (hU : (if negative L then L.tail else L) = U) (h : U ≠ []) (h2 : AllOk b U) (h3 : 10000 < U.length) : parseB b L = (false, 0, 4) := by
  unfold parseB
  rw [hU]
  dsimp only
  rw [if_neg, if_pos h3]
  rw [allOk_iff] at h2
  simp [h, h2]

theorem parse_ok (b : Nat) (L U : List Nat) (hU : (if negative L then L.tail else L) = U) (h : U ≠ []) (h2 : AllOk b U) (h3 : ¬ 10000 < U.length) :
    parseB b L = (negative L && decide (ofDigits b (U.map worth) ≠ 0), ofDigits b (U.map worth), 0) := by
  unfold parseB
  rw [hU]
  dsimp only
  rw [if_neg, if_neg h3]
  rw [allOk_iff] at h2
  simp [h, h2]

/-- an integer's value: its sign, its limbs, the error -/
def IntSays (w w' : World) (e : Ending) (x : Bool × Nat × Nat) : Prop :=
  ∃ q, e = .returned (.tuple #[.agg #[.bool x.1, q], .int .i64 (x.2.2 : Nat)]) ∧ Limbs w.heap.size w'.heap.size w' q (toL x.2.1)

end Go.Proofs.YtoijfckollafhaaGreat

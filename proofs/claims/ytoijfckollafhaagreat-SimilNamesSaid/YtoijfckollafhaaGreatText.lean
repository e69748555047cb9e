/- the runes of a text, as Go's range over a string tells them; and what a rune is. Plain, and numeral.what, value, simileref02.digit, minus, bar, gap. -/
import Derived.Test.YtoijfckollafhaaGreatPrint
import Derived.Lib.OthersKept
import Derived.Deep.LoopGhost
namespace Go.Proofs.YtoijfckollafhaaGreat
open Go.RowKit

/-- the runes of a text from a place on, as many -/
def runesF (s : ByteArray) : Nat → Nat → List Nat
  | 0, _ => []
  | f + 1, pos => if pos < s.size then (Utf8.decode s pos).1 :: runesF s f (pos + (Utf8.decode s pos).2) else []

def runesAt (s : ByteArray) (pos : Nat) : List Nat := runesF s (s.size - pos) pos

theorem decode_width (s : ByteArray) (i : Nat) : 1 ≤ (Utf8.decode s i).2 ∧ (Utf8.decode s i).2 ≤ 4 := by
  simp only [Utf8.decode]
  repeat' split
  all_goals (constructor <;> simp)

theorem decode_lt (s : ByteArray) (i : Nat) : (Utf8.decode s i).1 < 2097152 := by
  have h : ∀ k, (s.get! (i + k)).toNat < 256 := fun k => UInt8.toNat_lt _
  have h0 := h 0
  rw [Nat.add_zero] at h0
  have h1 := h 1
  have h2 := h 2
  have h3 := h 3
  simp only [Utf8.decode]
  repeat' split
  all_goals (simp only [Utf8.runeError, Nat.add_zero]; omega)

theorem runesF_succ (s : ByteArray) : ∀ f pos, s.size - pos ≤ f → runesF s (f + 1) pos = runesF s f pos := by
  intro f
  induction f with
  | zero => intro pos h; simp [runesF]; omega
  | succ f ih =>
    intro pos h
    by_cases hp : pos < s.size
    · have hw := (decode_width s pos).1
      have h1 : runesF s (f + 1 + 1) pos = (Utf8.decode s pos).1 :: runesF s (f + 1) (pos + (Utf8.decode s pos).2) := by rw [runesF, if_pos hp]
      have h2 : runesF s (f + 1) pos = (Utf8.decode s pos).1 :: runesF s f (pos + (Utf8.decode s pos).2) := by rw [runesF, if_pos hp]
      rw [h1, h2, ih _ (by omega)]
    · have h1 : runesF s (f + 1 + 1) pos = [] := by rw [runesF, if_neg hp]
      have h2 : runesF s (f + 1) pos = [] := by rw [runesF, if_neg hp]
      rw [h1, h2]

theorem runesF_more (s : ByteArray) (pos n d : Nat) (h : s.size - pos ≤ n) : runesF s (n + d) pos = runesF s n pos := by
  induction d with
  | zero => rfl
  | succ d ih => rw [← Nat.add_assoc, runesF_succ s _ _ (by omega), ih]

theorem runesAt_end (s : ByteArray) (pos : Nat) (h : ¬ pos < s.size) : runesAt s pos = [] := by
  unfold runesAt
  rw [show s.size - pos = 0 from by omega]
  rfl

theorem runesAt_step (s : ByteArray) (pos : Nat) (h : pos < s.size) : runesAt s pos = (Utf8.decode s pos).1 :: runesAt s (pos + (Utf8.decode s pos).2) := by
  unfold runesAt
  obtain ⟨m, hm⟩ : ∃ m, s.size - pos = m + 1 := ⟨s.size - pos - 1, by omega⟩
  have hw := (decode_width s pos).1
  rw [hm, runesF, if_pos h]
  obtain ⟨d, hd⟩ : ∃ d, m = (s.size - (pos + (Utf8.decode s pos).2)) + d := ⟨m - (s.size - (pos + (Utf8.decode s pos).2)), by omega⟩
  rw [hd, runesF_more s _ _ d (Nat.le_refl _)]

theorem runesAt_len (s : ByteArray) (pos : Nat) : (runesAt s pos).length ≤ s.size - pos := by
  obtain ⟨n, hn⟩ : ∃ n, s.size - pos = n := ⟨_, rfl⟩
  induction n using Nat.strongRecOn generalizing pos with
  | ind n ih =>
    by_cases h : pos < s.size
    · rw [runesAt_step s pos h]
      have hw := (decode_width s pos).1
      have := ih (s.size - (pos + (Utf8.decode s pos).2)) (by omega) (pos + (Utf8.decode s pos).2) rfl
      simp only [List.length_cons]
      omega
    · rw [runesAt_end s pos h]; simp

/-- the runes of a text -/
def runesOf (s : ByteArray) : List Nat := runesAt s 0

theorem runesAt_lt (s : ByteArray) (pos : Nat) : ∀ r, r ∈ runesAt s pos → r < 2097152 := by
  obtain ⟨n, hn⟩ : ∃ n, s.size - pos = n := ⟨_, rfl⟩
  induction n using Nat.strongRecOn generalizing pos with
  | ind n ih =>
    by_cases h : pos < s.size
    · rw [runesAt_step s pos h]
      intro r hr
      have hw := (decode_width s pos).1
      rcases List.mem_cons.1 hr with rfl | hr
      · exact decode_lt s pos
      · exact ih (s.size - (pos + (Utf8.decode s pos).2)) (by omega) _ rfl r hr
    · rw [runesAt_end s pos h]; simp

/-! ### what a rune is -/

def isMinus (r : Nat) : Bool := r == 45 || r == 8722
def isBar (r : Nat) : Bool := r == 47 || r == 8260 || r == 8725
def isGap (r : Nat) : Bool := r == 32 || r == 9 || r == 160 || r == 8201
def isDigit (r : Nat) : Bool := decide (48 ≤ r) && decide (r ≤ 57)

/-- its kind's number: other 0, digit 1, minus 2, bar 3, gap 4, comma 5, a row's end 6 -/
def kindOf (r : Nat) : Nat :=
  if isMinus r then 2 else if isBar r then 3 else if isGap r then 4 else if r = 44 then 5 else if r = 59 ∨ r = 10 then 6 else if isDigit r then 1 else 0

/-- a digit's worth in any base; 99: it is none -/
def worth (r : Nat) : Nat :=
  if isDigit r then r - 48 else if 97 ≤ r ∧ r ≤ 122 then r - 87 else if 65 ≤ r ∧ r ≤ 90 then r - 55 else 99

def kindI (r : Int) : Int :=
  if r = 45 ∨ r = 8722 then 2 else if r = 47 ∨ r = 8260 ∨ r = 8725 then 3 else if r = 32 ∨ r = 9 ∨ r = 160 ∨ r = 8201 then 4 else if r = 44 then 5
  else if r = 59 ∨ r = 10 then 6 else if 48 ≤ r ∧ r ≤ 57 then 1 else 0

theorem kindI_nat (r : Nat) : kindI (r : Nat) = (kindOf r : Nat) := by
  unfold kindI kindOf isMinus isBar isGap isDigit
  simp only [Bool.or_eq_true, beq_iff_eq, Bool.and_eq_true, decide_eq_true_eq]
  repeat' split
  all_goals first | rfl | omega

theorem ret_i64 {a b : Int} (h : a = b) : Ending.returned (.int .i64 a) = Ending.returned (.int .i64 b) := by rw [h]
theorem ret_u32 {a b : Int} (h : a = b) : Ending.returned (.int .u32 a) = Ending.returned (.int .u32 b) := by rw [h]
theorem ret_bool {a b : Bool} (h : a = b) : Ending.returned (.bool a) = Ending.returned (.bool b) := by rw [h]

end Go.Proofs.YtoijfckollafhaaGreat

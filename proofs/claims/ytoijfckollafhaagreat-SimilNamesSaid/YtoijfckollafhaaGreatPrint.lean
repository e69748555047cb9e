/- numeral.signed, PrintInt, Based, PrintFrac; simileref02.Based, PrintFrac: at every number. -/
import Derived.Test.YtoijfckollafhaaGreatWrite
namespace Go.Proofs.YtoijfckollafhaaGreat
open Go.RowKit

/-- an integer's text in a base -/
def intS (b : Nat) (neg : Bool) (n : Nat) : List UInt8 := if neg = true ∧ n ≠ 0 then 45 :: digS b n else digS b n

theorem dig0_head (b n : Nat) (hb : 2 ≤ b) (h : n ≠ 0) : ∃ d l, dig0 b n = d :: l ∧ d ≠ 0 ∧ d < b := by
  induction n using Nat.strongRecOn with
  | ind n ih =>
    rw [dig0_pos b n hb h]
    by_cases h0 : n / b = 0
    · rw [h0, dig0_zero]
      have : n < b := by
        rcases Nat.div_eq_zero_iff.1 h0 with h1 | h1 <;> omega
      exact ⟨n % b, [], rfl, by rw [Nat.mod_eq_of_lt this]; exact h, Nat.mod_lt _ (by omega)⟩
    · obtain ⟨d, l, h1, h2, h3⟩ := ih (n / b) (Nat.div_lt_self (Nat.pos_of_ne_zero h) (by omega)) h0
      exact ⟨d, l ++ [n % b], by rw [h1]; rfl, h2, h3⟩

theorem chr_ne : ∀ d, d < 36 → d ≠ 0 → chr d ≠ 48 := by decide

theorem digS_ne (b n : Nat) (hb : 2 ≤ b) (hb2 : b ≤ 36) : digS b n = [48] ↔ n = 0 := by
  constructor
  · intro h
    rcases Nat.eq_zero_or_pos n with h0 | h0
    · exact h0
    · obtain ⟨d, l, h1, h2, h3⟩ := dig0_head b n hb (by omega)
      rw [digS, if_neg (by omega), h1] at h
      simp at h
      exact absurd h.1 (chr_ne d (by omega) h2)
  · intro h
    rw [h]; rfl

theorem digS_len (b : Nat) (xs : List Nat) (hb : 2 ≤ b) (hx : ∀ x, x ∈ xs → x < 4294967296) : (digS b (natOf xs)).length ≤ 32 * xs.length + 1 := by
  have hbig : natOf xs < 2 ^ (32 * xs.length) := by
    have := natOf_lt xs hx
    rwa [show (4294967296 : Nat) = 2 ^ 32 from rfl, ← Nat.pow_mul] at this
  unfold digS
  split
  · simp
  · rw [List.length_map]
    have := dig0_len b _ _ hb hbig
    omega

theorem Limbs.lt {lo hi : Nat} {w : World} {v : Value} {xs : List Nat} (h : Limbs lo hi w v xs) : ∀ x, x ∈ xs → x < 4294967296 := by
  obtain ⟨_, _, _, _, _, hlt, _⟩ := h.open
  exact hlt

theorem minus_str (S : ByteArray) (l : List UInt8) (h : strOf l = S) : ({ data := #[45] } : ByteArray) ++ S = strOf (45 :: l) := by
  rw [← h]
  exact strOf_append [45] l

set_option maxHeartbeats 400000 in
theorem signed_any (lo h1 : Nat) (neg : Bool) (v : Value) (xs : List Nat) (b : Nat) (w : World) (h : Limbs lo h1 w v xs) (hhi : h1 ≤ w.heap.size) (hl : xs.length ≤ 1099511627776) (hbb : 2 ≤ b) (hb36 : b ≤ 36) :
    Calls Tryz.prog 303 #[.agg #[.bool neg, v], .int .u32 (b : Nat)] w fun e w' => e = .returned (.string (strOf (intS b neg (natOf xs)))) ∧ Below w.heap.size w w' := by
  obtain ⟨hb0, b0, hsz⟩ := boxA w #[.bool neg, v] 31
  have q1 := write_any _ _ _ _ b _ (h.below hb0 hhi) hl hbb hb36
  obtain ⟨S, hS⟩ : ∃ S, strOf (digS b (natOf xs)) = S := ⟨_, rfl⟩
  rw [hS] at q1
  have Q1 := hid q1
  have hSl : S.size ≤ 281474976710656 := by
    rw [← hS, strOf_size]
    have := digS_len b xs hbb h.lt
    omega
  have hs48 : (S.toList == [48]) = decide (natOf xs = 0) := by
    rw [← hS, strOf_toList, Bool.eq_iff_iff]
    simp [digS_ne b _ hbb hb36]
  have HS := hid hS
  clear q1 hsz hS
  by_cases hz : natOf xs = 0
  · rw [show decide (natOf xs = 0) = true from decide_eq_true hz] at hs48
    have he : ∀ neg, intS b neg (natOf xs) = digS b (natOf xs) := fun neg => by simp [intS, hz]
    have HE := hid he
    clear hz he
    go_enter Tryz.func303, Tryz.ntmps303
    go_wp2_with fail
    refine Q1.out.mono ?_
    rintro e w1 ⟨rfl, hb1⟩
    obtain ⟨c0, c1, f0, f1⟩ := (b0.later hb1).two
    cases neg
    all_goals
      go_wp2
      go_ret
      rw [HE.out, HS.out]
      exact ⟨rfl, hb0.trans (hb1.mono hb0.size)⟩
  · rw [show decide (natOf xs = 0) = false from decide_eq_false hz] at hs48
    have HZ := hid hz
    clear hz
    go_enter Tryz.func303, Tryz.ntmps303
    go_wp2_with fail
    refine Q1.out.mono ?_
    rintro e w1 ⟨rfl, hb1⟩
    obtain ⟨c0, c1, f0, f1⟩ := (b0.later hb1).two
    cases neg
    · go_wp2
      go_ret
      rw [show intS b false (natOf xs) = digS b (natOf xs) from by simp [intS], HS.out]
      exact ⟨rfl, hb0.trans (hb1.mono hb0.size)⟩
    · go_wp2
      go_ret
      rw [show intS b true (natOf xs) = 45 :: digS b (natOf xs) from by simp [intS, HZ.out], ← minus_str S _ HS.out]
      exact ⟨rfl, hb0.trans (hb1.mono hb0.size)⟩

set_option maxHeartbeats 400000 in
theorem printInt_any (lo h1 : Nat) (neg : Bool) (v : Value) (xs : List Nat) (w : World) (h : Limbs lo h1 w v xs) (hhi : h1 ≤ w.heap.size) (hl : xs.length ≤ 1099511627776) :
    Calls Tryz.prog 252 #[.agg #[.bool neg, v]] w fun e w' => e = .returned (.string (strOf (intS 10 neg (natOf xs)))) ∧ Below w.heap.size w w' := by
  obtain ⟨hb0, b0, hsz⟩ := boxA w #[.bool neg, v] 31
  have q1 := signed_any _ _ neg _ _ 10 _ (h.below hb0 hhi) (by omega) hl (by decide) (by decide)
  have Q1 := hid q1
  clear q1 hsz
  go_enter Tryz.func252, Tryz.ntmps252
  go_wp2_with fail
  refine Q1.out.mono ?_
  rintro e w1 ⟨rfl, hb1⟩
  go_wp2
  go_ret
  exact ⟨rfl, hb0.trans (hb1.mono hb0.size)⟩

end Go.Proofs.YtoijfckollafhaaGreat

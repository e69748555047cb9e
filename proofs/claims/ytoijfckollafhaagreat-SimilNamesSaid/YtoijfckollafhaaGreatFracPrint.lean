/- numeral.PrintFrac, simileref02.May, PrintFrac: a fraction's text. -/
import Derived.Test.YtoijfckollafhaaGreatLaw2
namespace Go.Proofs.YtoijfckollafhaaGreat
open Go.RowKit

theorem digS_one (b n : Nat) (hb : 2 ≤ b) (hb2 : b ≤ 36) : digS b n = [49] ↔ n = 1 := by
  constructor
  · intro h
    by_cases h0 : n = 0
    · subst h0; simp [digS] at h
    · rw [digS, if_neg h0, dig0_pos b n hb h0] at h
      by_cases h1 : n / b = 0
      · rw [h1, dig0_zero] at h
        have hlt : n < b := by rcases Nat.div_eq_zero_iff.1 h1 with h2 | h2 <;> omega
        rw [Nat.mod_eq_of_lt hlt] at h
        simp only [List.nil_append, List.map_cons, List.map_nil, List.cons.injEq, and_true] at h
        have : ∀ d, d < 36 → chr d = 49 → d = 1 := by decide
        exact this n (by omega) h
      · obtain ⟨d, l, h2, _, _⟩ := dig0_head b (n / b) hb h1
        rw [h2] at h
        simp at h
  · intro h
    subst h
    rw [digS, if_neg (by decide), dig0_pos b 1 hb (by decide), Nat.div_eq_of_lt (by omega), dig0_zero, Nat.mod_eq_of_lt (by omega)]
    rfl

/-- a fraction's text -/
def fracS (n1 n2 : Bool) (X Y : Nat) : List UInt8 := intS 10 (n1 != n2) X ++ (if Y = 1 then [] else 47 :: digS 10 Y)

theorem bar_str (S T : ByteArray) (l d : List UInt8) (h : strOf l = S) (h2 : strOf d = T) : (S ++ ({ data := #[47] } : ByteArray)) ++ T = strOf (l ++ 47 :: d) := by
  rw [← h, ← h2, show ({ data := #[47] } : ByteArray) = strOf [47] from rfl, strOf_append, strOf_append]
  simp

theorem bar_str2 (S T : ByteArray) (l d : List UInt8) (h : strOf l = S) (h2 : strOf d = T) : S ++ (({ data := #[47] } : ByteArray) ++ T) = strOf (l ++ 47 :: d) := by
  rw [← h, ← h2, show ({ data := #[47] } : ByteArray) = strOf [47] from rfl, strOf_append, strOf_append]
  simp

theorem intS_len (b : Nat) (neg : Bool) (xs : List Nat) (hb : 2 ≤ b) (hx : ∀ x, x ∈ xs → x < 4294967296) : (intS b neg (natOf xs)).length ≤ 32 * xs.length + 2 := by
  have := digS_len b xs hb hx
  unfold intS
  split
  · simp; omega
  · omega

set_option maxHeartbeats 1600000 in
theorem printFrac_any (lo h1 lo2 h2 : Nat) (n1 n2 : Bool) (v p : Value) (xs ys : List Nat) (w : World) (h : Limbs lo h1 w v xs) (hhi : h1 ≤ w.heap.size) (hl : xs.length ≤ 1099511627776)
    (h' : Limbs lo2 h2 w p ys) (hhi2 : h2 ≤ w.heap.size) (hl2 : ys.length ≤ 1099511627776) :
    Calls Tryz.prog 195 #[.agg #[.bool n1, v, .bool n2, p]] w fun e w' => Below w.heap.size w w' ∧
      ((natOf ys = 0 ∧ e = .returned (.tuple #[.string ⟨#[]⟩, .int .i64 6])) ∨ (natOf ys ≠ 0 ∧ e = .returned (.tuple #[.string (strOf (fracS n1 n2 (natOf xs) (natOf ys))), .int .i64 0]))) := by
  obtain ⟨hb0, b0, hsz⟩ := boxA w #[.bool n1, v, .bool n2, p] 99
  have q1 := write_any _ _ _ _ 10 _ (h'.below hb0 hhi2) hl2 (by decide) (by decide)
  obtain ⟨D, hD⟩ : ∃ D, strOf (digS 10 (natOf ys)) = D := ⟨_, rfl⟩
  rw [hD] at q1
  have Q1 := hid q1
  have hDl : D.size ≤ 281474976710656 := by
    rw [← hD, strOf_size]
    have := digS_len 10 ys (by decide) h'.lt
    omega
  have hd48 : (D.toList == [48]) = decide (natOf ys = 0) := by
    rw [← hD, strOf_toList, Bool.eq_iff_iff]
    simp [digS_ne 10 _ (by decide) (by decide)]
  have hd49 : (D.toList == [49]) = decide (natOf ys = 1) := by
    rw [← hD, strOf_toList, Bool.eq_iff_iff]
    simp [digS_one 10 _ (by decide) (by decide)]
  have HD := hid hD
  obtain ⟨c0, c1, c2, c3⟩ := b0.four.1
  have B0 := hid b0
  clear q1 hsz hD c0 c1 c2 c3
  by_cases hz : natOf ys = 0
  · rw [show decide (natOf ys = 0) = true from decide_eq_true hz] at hd48
    have HZ := hid hz
    clear hz hd49
    obtain ⟨⟨c0, c1, c2, c3⟩, f0, f1, f2, f3⟩ := B0.out.four
    go_enter Tryz.func195, Tryz.ntmps195
    go_wp2_with fail
    refine Q1.out.mono ?_
    rintro e w1 ⟨rfl, hb1⟩
    go_wp2
    go_ret2
    exact ⟨hb0.trans (hb1.mono hb0.size), .inl ⟨HZ.out, rfl⟩⟩
  · rw [show decide (natOf ys = 0) = false from decide_eq_false hz] at hd48
    have HZ := hid hz
    obtain ⟨SN, hSN⟩ : ∃ SN, strOf (intS 10 (n1 != n2) (natOf xs)) = SN := ⟨_, rfl⟩
    have hSl : SN.size ≤ 281474976710656 := by
      rw [← hSN, strOf_size]
      have := intS_len 10 (n1 != n2) xs (by decide) h.lt
      omega
    have Q2 := hid fun w1 (hb : Below w.heap.size w w1) => printInt_any _ _ (n1 != n2) v xs w1 (h.below hb hhi) (Nat.le_trans hhi hb.size) hl
    rw [hSN] at Q2
    have HSN := hid hSN
    obtain ⟨ad, cap, rfl⟩ := h.shape
    clear hz hSN
    by_cases ho : natOf ys = 1
    · rw [show decide (natOf ys = 1) = true from decide_eq_true ho] at hd49
      have HO := hid ho
      clear ho
      obtain ⟨⟨c0, c1, c2, c3⟩, f0, f1, f2, f3⟩ := B0.out.four
      go_enter Tryz.func195, Tryz.ntmps195
      go_wp2_with fail
      refine Q1.out.mono ?_
      rintro e w1 ⟨rfl, hb1⟩
      have hA := hb0.trans (hb1.mono hb0.size)
      have b1 := B0.out.later hb1
      obtain ⟨⟨c0, c1, c2, c3⟩, f0, f1, f2, f3⟩ := b1.four
      clear hb1 Q1 b1
      have hbn := BoxIs.new w1 #[.bool (n1 != n2), .slice ad xs.length cap] 31
      have hB := hA.alloc hA.size (.cells #[.bool (n1 != n2), .slice ad xs.length cap] 31)
      obtain ⟨d0, d1, g0, g1⟩ := hbn.two
      have Q3 := hid (Q2.out _ hB)
      clear hbn
      go_wp2_with fail
      refine Q3.out.mono ?_
      rintro e w2 ⟨rfl, hb2⟩
      go_wp2
      go_ret2
      refine ⟨hB.trans (hb2.mono hB.size), .inr ⟨HZ.out, ?_⟩⟩
      rw [fracS, if_pos HO.out, List.append_nil, HSN.out]
      rfl
    · rw [show decide (natOf ys = 1) = false from decide_eq_false ho] at hd49
      have HO := hid ho
      clear ho
      obtain ⟨⟨c0, c1, c2, c3⟩, f0, f1, f2, f3⟩ := B0.out.four
      go_enter Tryz.func195, Tryz.ntmps195
      go_wp2_with fail
      refine Q1.out.mono ?_
      rintro e w1 ⟨rfl, hb1⟩
      have hA := hb0.trans (hb1.mono hb0.size)
      have b1 := B0.out.later hb1
      obtain ⟨⟨c0, c1, c2, c3⟩, f0, f1, f2, f3⟩ := b1.four
      clear hb1 Q1 b1
      have hbn := BoxIs.new w1 #[.bool (n1 != n2), .slice ad xs.length cap] 31
      have hB := hA.alloc hA.size (.cells #[.bool (n1 != n2), .slice ad xs.length cap] 31)
      obtain ⟨d0, d1, g0, g1⟩ := hbn.two
      have Q3 := hid (Q2.out _ hB)
      clear hbn
      go_wp2_with fail
      refine Q3.out.mono ?_
      rintro e w2 ⟨rfl, hb2⟩
      go_wp2
      go_ret2
      refine ⟨hB.trans (hb2.mono hB.size), .inr ⟨HZ.out, ?_⟩⟩
      rw [fracS, if_neg HO.out, ← bar_str SN D _ _ HSN.out HD.out]
      rfl

theorem intS_neg (n1 : Bool) (X : Nat) : intS 10 (!n1 && decide (X ≠ 0)) X = intS 10 (n1 != true) X := by
  unfold intS
  by_cases h : X = 0
  · simp [h]
  · cases n1 <;> simp [h]

end Go.Proofs.YtoijfckollafhaaGreat

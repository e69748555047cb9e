/- numeral.PrintFrac, simileref02.May, PrintFrac: a fraction's text. -/
import Derived.Test.YtjjidmgeladicaaLaw2
namespace Go.Proofs.Ytjjidmgeladicaa
open Go.RowKit

theorem digS_one (b n : Nat) (hb : 2 ≤ b) (hb2 : b ≤ 36) : digS b n = [49] ↔ n = 1 := by
  constructor
  · intro h
    by_cases h0 : n = 0
    · subst h0; simp [digS] at h
    · rw [digS, if_neg h0, dig0_pos b n hb h0] at h
      by_cases h1 : n / b = 0
      · rw [h1, dig0_zero] at h
        have hlt : n < b := by rcases Nat.div_eq_zero_iff.1 h1 with h2 | h2 <;> omega
        rw [Nat.mod_eq_of_lt hlt] at h
        simp only [List.nil_append, List.map_cons, List.map_nil, List.cons.injEq, and_true] at h
        have : ∀ d, d < 36 → chr d = 49 → d = 1 := by decide
        exact this n (by omega) h
      · obtain ⟨d, l, h2, _, _⟩ := dig0_head b (n / b) hb h1
        rw [h2] at h
        simp at h
  · intro h
    subst h
    rw [digS, if_neg (by decide), dig0_pos b 1 hb (by decide), Nat.div_eq_of_lt (by omega), dig0_zero, Nat.mod_eq_of_lt (by omega)]
    rfl

/-- a fraction's text -/
def fracS (n1 n2 : Bool) (X Y : Nat) : List UInt8 := intS 10 (n1 != n2) X ++ (if Y = 1 then [] else 47 :: digS 10 Y)

theorem bar_str (S T : ByteArray) (l d : List UInt8) (h : strOf l = S) (h2 : strOf d = T) : (S ++ ({ data := #[47] } : ByteArray)) ++ T = strOf (l ++ 47 :: d) := by
  rw [← h, ← h2, show ({ data := #[47] } : ByteArray) = strOf [47] from rfl, strOf_append, strOf_append]
  simp

theorem bar_str2 (S T : ByteArray) (l d : List UInt8) (h : strOf l = S) (h2 : strOf d = T) : S ++ (({ data := #[47] } : ByteArray) ++ T) = strOf (l ++ 47 :: d) := by
  rw [← h, ← h2, show ({ data := #[47] } : ByteArray) = strOf [47] from rfl, strOf_append, strOf_append]
  simp

theorem intS_len (b : Nat) (neg : Bool) (xs : List Nat) (hb : 2 ≤ b) (hx : ∀ x, x ∈ xs → x < 4294967296) : (intS b neg (natOf xs)).length ≤ 32 * xs.length + 2 := by
  have := digS_len b xs hb hx
  unfold intS
  split
  · simp; omega
  · omega

set_option maxHeartbeats 1600000 in
theorem printFrac_any (lo h1 lo2 h2 : Nat) (n1 n2 : Bool) (v p : Value) (xs ys : List Nat) (w : World) (h : Limbs lo h1 w v xs) (hhi : h1 ≤ w.heap.size) (hl : xs.length ≤ 1099511627776)
    (h' : Limbs lo2 h2 w p ys) (hhi2 : h2 ≤ w.heap.size) (hl2 : ys.length ≤ 1099511627776) :
    Calls Try.prog 30 #[.agg #[.bool n1, v, .bool n2, p]] w fun e w' => Below w.heap.size w w' ∧
      ((natOf ys = 0 ∧ e = .returned (.tuple #[.string ⟨#[]⟩, .int .i64 6])) ∨ (natOf ys ≠ 0 ∧ e = .returned (.tuple #[.string (strOf (fracS n1 n2 (natOf xs) (natOf ys))), .int .i64 0]))) := by
  obtain ⟨hb0, b0, hsz⟩ := boxA w #[.bool n1, v, .bool n2, p] 35
  have q1 := write_any _ _ _ _ 10 _ (h'.below hb0 hhi2) hl2 (by decide) (by decide)
  obtain ⟨D, hD⟩ : ∃ D, strOf (digS 10 (natOf ys)) = D := ⟨_, rfl⟩
  rw [hD] at q1
  have Q1 := hid q1
  have hDl : D.size ≤ 281474976710656 := by
    rw [← hD, strOf_size]
    have := digS_len 10 ys (by decide) h'.lt
    omega
  have hd48 : (D.toList == [48]) = decide (natOf ys = 0) := by
    rw [← hD, strOf_toList, Bool.eq_iff_iff]
    simp [digS_ne 10 _ (by decide) (by decide)]
  have hd49 : (D.toList == [49]) = decide (natOf ys = 1) := by
    rw [← hD, strOf_toList, Bool.eq_iff_iff]
    simp [digS_one 10 _ (by decide) (by decide)]
  have HD := hid hD
  obtain ⟨c0, c1, c2, c3⟩ := b0.four.1
  have B0 := hid b0
  clear q1 hsz hD c0 c1 c2 c3
  by_cases hz : natOf ys = 0
  · rw [show decide (natOf ys = 0) = true from decide_eq_true hz] at hd48
    have HZ := hid hz
    clear hz hd49
    obtain ⟨⟨c0, c1, c2, c3⟩, f0, f1, f2, f3⟩ := B0.out.four
    go_enter Try.func30, Try.ntmps30
    go_wp2_with fail
    refine Q1.out.mono ?_
    rintro e w1 ⟨rfl, hb1⟩
    go_wp2
    go_ret2
    exact ⟨hb0.trans (hb1.mono hb0.size), .inl ⟨HZ.out, rfl⟩⟩
  · rw [show decide (natOf ys = 0) = false from decide_eq_false hz] at hd48
    have HZ := hid hz
    obtain ⟨SN, hSN⟩ : ∃ SN, strOf (intS 10 (n1 != n2) (natOf xs)) = SN := ⟨_, rfl⟩
    have hSl : SN.size ≤ 281474976710656 := by
      rw [← hSN, strOf_size]
      have := intS_len 10 (n1 != n2) xs (by decide) h.lt
      omega
    have Q2 := hid fun w1 (hb : Below w.heap.size w w1) => printInt_any _ _ (n1 != n2) v xs w1 (h.below hb hhi) (Nat.le_trans hhi hb.size) hl
    rw [hSN] at Q2
    have HSN := hid hSN
    obtain ⟨ad, cap, rfl⟩ := h.shape
    clear hz hSN
    by_cases ho : natOf ys = 1
    · rw [show decide (natOf ys = 1) = true from decide_eq_true ho] at hd49
      have HO := hid ho
      clear ho
      obtain ⟨⟨c0, c1, c2, c3⟩, f0, f1, f2, f3⟩ := B0.out.four
      go_enter Try.func30, Try.ntmps30
      go_wp2_with fail
      refine Q1.out.mono ?_
      rintro e w1 ⟨rfl, hb1⟩
      have hA := hb0.trans (hb1.mono hb0.size)
      have b1 := B0.out.later hb1
      obtain ⟨⟨c0, c1, c2, c3⟩, f0, f1, f2, f3⟩ := b1.four
      clear hb1 Q1 b1
      have hbn := BoxIs.new w1 #[.bool (n1 != n2), .slice ad xs.length cap] 29
      have hB := hA.alloc hA.size (.cells #[.bool (n1 != n2), .slice ad xs.length cap] 29)
      obtain ⟨d0, d1, g0, g1⟩ := hbn.two
      have Q3 := hid (Q2.out _ hB)
      clear hbn
      go_wp2_with fail
      refine Q3.out.mono ?_
      rintro e w2 ⟨rfl, hb2⟩
      go_wp2
      go_ret2
      refine ⟨hB.trans (hb2.mono hB.size), .inr ⟨HZ.out, ?_⟩⟩
      rw [fracS, if_pos HO.out, List.append_nil, HSN.out]
      rfl
    · rw [show decide (natOf ys = 1) = false from decide_eq_false ho] at hd49
      have HO := hid ho
      clear ho
      obtain ⟨⟨c0, c1, c2, c3⟩, f0, f1, f2, f3⟩ := B0.out.four
      go_enter Try.func30, Try.ntmps30
      go_wp2_with fail
      refine Q1.out.mono ?_
      rintro e w1 ⟨rfl, hb1⟩
      have hA := hb0.trans (hb1.mono hb0.size)
      have b1 := B0.out.later hb1
      obtain ⟨⟨c0, c1, c2, c3⟩, f0, f1, f2, f3⟩ := b1.four
      clear hb1 Q1 b1
      have hbn := BoxIs.new w1 #[.bool (n1 != n2), .slice ad xs.length cap] 29
      have hB := hA.alloc hA.size (.cells #[.bool (n1 != n2), .slice ad xs.length cap] 29)
      obtain ⟨d0, d1, g0, g1⟩ := hbn.two
      have Q3 := hid (Q2.out _ hB)
      clear hbn
      go_wp2_with fail
      refine Q3.out.mono ?_
      rintro e w2 ⟨rfl, hb2⟩
      go_wp2
      go_ret2
      refine ⟨hB.trans (hb2.mono hB.size), .inr ⟨HZ.out, ?_⟩⟩
      rw [fracS, if_neg HO.out, ← bar_str SN D _ _ HSN.out HD.out]
      rfl

theorem may_any (lo h1 : Nat) (n1 n2 : Bool) (v p : Value) (ys : List Nat) (w : World) (h : Limbs lo h1 w p ys) (hhi : h1 ≤ w.heap.size) (hl : ys.length ≤ 1099511627776) :
    Calls Try.prog 59 #[.agg #[.bool n1, v, .bool n2, p]] w fun e w' => e = .returned (.bool (!decide (natOf ys = 0))) ∧ Below w.heap.size w w' := by
  obtain ⟨hb0, b0, hsz⟩ := boxA w #[.bool n1, v, .bool n2, p] 35
  have q1 := zero01_any _ _ _ _ _ (h.below hb0 hhi) (by omega)
  obtain ⟨z, hz⟩ : ∃ z, decide (natOf ys = 0) = z := ⟨_, rfl⟩
  rw [hz] at q1 ⊢
  have Q1 := hid q1
  obtain ⟨⟨c0, c1, c2, c3⟩, f0, f1, f2, f3⟩ := b0.four
  clear q1 hsz b0 hz
  go_enter Try.func59, Try.ntmps59
  go_wp2_with fail
  refine Q1.out.mono ?_
  rintro e w' ⟨rfl, rfl⟩
  go_wp2
  go_ret
  exact ⟨rfl, hb0⟩

theorem intS_neg (n1 : Bool) (X : Nat) : intS 10 (!n1 && decide (X ≠ 0)) X = intS 10 (n1 != true) X := by
  unfold intS
  by_cases h : X = 0
  · simp [h]
  · cases n1 <;> simp [h]

set_option maxHeartbeats 3200000 in
theorem printFrac02_any (lo h1 lo2 h2 : Nat) (n1 n2 : Bool) (v p : Value) (xs ys : List Nat) (w : World) (h : Limbs lo h1 w v xs) (hhi : h1 ≤ w.heap.size) (hl : xs.length ≤ 1099511627776)
    (h' : Limbs lo2 h2 w p ys) (hhi2 : h2 ≤ w.heap.size) (hl2 : ys.length ≤ 1099511627776) :
    Calls Try.prog 31 #[.agg #[.bool n1, v, .bool n2, p]] w fun e w' => Below w.heap.size w w' ∧
      ((natOf ys = 0 ∧ e = .returned (.tuple #[.string ⟨#[]⟩, .bool false])) ∨ (natOf ys ≠ 0 ∧ e = .returned (.tuple #[.string (strOf (fracS n1 n2 (natOf xs) (natOf ys))), .bool true]))) := by
  obtain ⟨hb0, b0, hsz⟩ := boxA w #[.bool n1, v, .bool n2, p] 35
  have q1 := may_any _ _ n1 n2 v p ys _ (h'.below hb0 hhi2) (Nat.le_trans hhi2 hb0.size) hl2
  have B0 := hid b0
  clear b0 hsz
  by_cases hz : natOf ys = 0
  · rw [show (!decide (natOf ys = 0)) = false by simp [hz]] at q1
    have Q1 := hid q1
    have HZ := hid hz
    clear q1 hz
    obtain ⟨⟨c0, c1, c2, c3⟩, f0, f1, f2, f3⟩ := B0.out.four
    go_enter Try.func31, Try.ntmps31
    go_wp2_with fail
    refine Q1.out.mono ?_
    rintro e w1 ⟨rfl, hb1⟩
    go_wp2
    go_ret2
    exact ⟨hb0.trans (hb1.mono hb0.size), .inl ⟨HZ.out, rfl⟩⟩
  · rw [show (!decide (natOf ys = 0)) = true by simp [hz]] at q1
    have Q1 := hid q1
    obtain ⟨D, hD⟩ : ∃ D, strOf (digS 10 (natOf ys)) = D := ⟨_, rfl⟩
    have hDl : D.size ≤ 281474976710656 := by
      rw [← hD, strOf_size]
      have := digS_len 10 ys (by decide) h'.lt
      omega
    have hd49 : (D.toList == [49]) = decide (natOf ys = 1) := by
      rw [← hD, strOf_toList, Bool.eq_iff_iff]
      simp [digS_one 10 _ (by decide) (by decide)]
    obtain ⟨SN, hSN⟩ : ∃ SN, strOf (intS 10 (n1 != n2) (natOf xs)) = SN := ⟨_, rfl⟩
    have hSl : SN.size ≤ 281474976710656 := by
      rw [← hSN, strOf_size]
      have := intS_len 10 (n1 != n2) xs (by decide) h.lt
      omega
    have QD := hid fun w1 (hb : Below w.heap.size w w1) => digits02_any _ _ p ys 10 w1 (h'.below hb hhi2) (Nat.le_trans hhi2 hb.size) (by omega) (by decide) (by decide)
    rw [hD] at QD
    have QS := hid fun w1 (hb : Below w.heap.size w w1) => sign02_any _ _ n2 p ys w1 (h'.below hb hhi2) (Nat.le_trans hhi2 hb.size) (by omega)
    rw [if_neg hz] at QS
    have HSN := hid hSN
    have HD := hid hD
    have HZ := hid hz
    obtain ⟨ad, cap, rfl⟩ := h.shape
    obtain ⟨ad2, cap2, rfl⟩ := h'.shape
    -- behind the number's text: the denominator's, and the end
    have fin : fracS n1 n2 (natOf xs) (natOf ys) = intS 10 (n1 != n2) (natOf xs) ++ (if natOf ys = 1 then [] else 47 :: digS 10 (natOf ys)) := rfl
    have FIN := hid fin
    clear q1 hz hD hSN fin
    obtain ⟨⟨c0, c1, c2, c3⟩, f0, f1, f2, f3⟩ := B0.out.four
    go_enter Try.func31, Try.ntmps31
    go_wp2_with fail
    refine Q1.out.mono ?_
    rintro e w1 ⟨rfl, hb1⟩
    have hA := hb0.trans (hb1.mono hb0.size)
    have b1 := B0.out.later hb1
    clear c0 c1 c2 c3 f0 f1 f2 f3 Q1 hb1 hb0
    obtain ⟨⟨c0, c1, c2, c3⟩, f0, f1, f2, f3⟩ := b1.four
    have hbn := BoxIs.new w1 #[.bool n1, .slice ad xs.length cap] 29
    have hB := hA.alloc hA.size (.cells #[.bool n1, .slice ad xs.length cap] 29)
    have b2 := b1.alloc (.cells #[.bool n1, .slice ad xs.length cap] 29)
    have hw : w.heap.size < w1.heap.size := b1.lt
    have hs2 : (w1.alloc (.cells #[.bool n1, .slice ad xs.length cap] 29)).heap.size = w1.heap.size + 1 := by simp
    have Q2 := hid (QS.out _ hB)
    have HBN := hid hbn
    have B2 := hid b2
    have HS2 := hid hs2
    clear QS hbn hs2 b2 hA b1 B0
    obtain ⟨⟨c0', c1', c2', c3'⟩, f0', f1', f2', f3'⟩ := B2.out.four
    go_wp2_with fail
    refine Q2.out.mono ?_
    rintro e w2 ⟨rfl, hb2⟩
    have hC := hB.trans (hb2.mono hB.size)
    have bn2 := HBN.out.later hb2
    have b02 := B2.out.later hb2
    have hw2 := hb2.size
    rw [HS2.out] at hw2
    have hne : w.heap.size ≠ w1.heap.size := by omega
    have HNE := hid hne
    clear Q2 hb2 HBN B2 hB hne c0 c1 c2 c3 f0 f1 f2 f3 c0' c1' c2' c3' f0' f1' f2' f3'
    obtain ⟨d0, d1, g0, g1⟩ := bn2.two
    cases n2
    · have Q3 := hid (based02_any _ _ n1 _ xs 10 w2 (h.below hC hhi) (Nat.le_trans hhi hC.size) hl (by decide) (by decide))
      rw [show n1 = (n1 != false) by simp, HSN.out] at Q3
      rw [show (n1 != false) = n1 by simp] at Q3
      go_wp2_with fail
      refine Q3.out.mono ?_
      rintro e w3 ⟨rfl, hb3⟩
      have hD3 := hC.trans (hb3.mono hC.size)
      have b03 := b02.later hb3
      have Q4 := hid (QD.out _ hD3)
      clear Q3 QD hb3 b02 bn2 d0 d1 g0 g1
      obtain ⟨⟨c0, c1, c2, c3⟩, f0, f1, f2, f3⟩ := b03.four
      go_wp2_with fail
      refine Q4.out.mono ?_
      rintro e w4 ⟨rfl, hb4⟩
      have hE := hD3.trans (hb4.mono hD3.size)
      clear Q4 hb4 hD3 hC b03 c0 c1 c2 c3 f0 f1 f2 f3
      by_cases ho : natOf ys = 1
      · rw [show decide (natOf ys = 1) = true from decide_eq_true ho] at hd49
        have HO := hid ho
        clear ho
        go_wp2
        go_ret2
        refine ⟨hE, .inr ⟨HZ.out, ?_⟩⟩
        rw [FIN.out, if_pos HO.out, List.append_nil, HSN.out]
        rfl
      · rw [show decide (natOf ys = 1) = false from decide_eq_false ho] at hd49
        have HO := hid ho
        clear ho
        go_wp2
        go_ret2
        refine ⟨hE, .inr ⟨HZ.out, ?_⟩⟩
        rw [FIN.out, if_neg HO.out, ← bar_str2 SN D _ _ HSN.out HD.out]
        rfl
    · have q2 := neg02_any _ _ n1 _ xs w2 (h.below hC hhi) (Nat.le_trans hhi hC.size) (by omega)
      obtain ⟨ng, hng⟩ : ∃ ng, (!n1 && decide (natOf xs ≠ 0)) = ng := ⟨_, rfl⟩
      rw [hng] at q2
      have Q3 := hid q2
      have HNG := hid hng
      have HNEG := hid (intS_neg n1 (natOf xs))
      clear q2 hng
      go_wp2_with fail
      refine Q3.out.mono ?_
      rintro e w3 ⟨r, rfl, hr, hb3⟩
      obtain ⟨ad3, cap3, rfl⟩ := hr.shape
      have hD3 := hC.trans (hb3.mono hC.size)
      have b03 := b02.later hb3
      have bn3 := bn2.later hb3
      have hs3 := hb3.size
      have hln : (toL (natOf xs)).length ≤ 1099511627776 := Nat.le_trans (toL_len_le _ xs.length (natOf_lt xs h.lt)) hl
      have HR := hid hr
      obtain ⟨X, hX⟩ : ∃ X, toL (natOf xs) = X := ⟨_, rfl⟩
      rw [hX] at hln HR ⊢
      have HX := hid hX
      obtain ⟨k1, hk1⟩ : ∃ k1, w1.heap.size = k1 := ⟨_, rfl⟩
      rw [hk1] at bn3 hw2 hw ⊢
      have HK1 := hid hk1
      have bn4 := (bn3.set 0 (.bool ng)).set 1 (.slice ad3 X.length cap3)
      have b04 := (b03.other ⟨k1, 0, none⟩ (.bool ng) (by simp; omega)).other ⟨k1, 1, none⟩ (.slice ad3 X.length cap3) (by simp; omega)
      have hF := (hD3.setCell (p := ⟨k1, 0, none⟩) (by simp; omega) (.bool ng)).setCell (p := ⟨k1, 1, none⟩) (by simp; omega) (.slice ad3 X.length cap3)
      have hlim := ((HR.out.set ⟨k1, 0, none⟩ (.bool ng) (.inl (by simp; omega))).set ⟨k1, 1, none⟩ (.slice ad3 X.length cap3) (.inl (by simp; omega)))
      clear hr hX hk1 Q3 b02 bn2 hb3 b03 d0 d1 g0 g1 HR hC
      obtain ⟨d0, d1, g0, g1⟩ := bn3.two
      simp only [List.set_cons_zero, List.set_cons_succ] at bn4
      obtain ⟨e0, e1, i0, i1⟩ := bn4.two
      have q3 := based02_any _ _ ng _ X 10 _ hlim (by simp [World.setCell]) hln (by decide) (by decide)
      rw [← HX.out, natOf_toL, ← HNG.out, HNEG.out, HSN.out, HX.out, HNG.out] at q3
      have Q5 := hid q3
      have hB4 := hid b04
      have HF := hid hF
      clear q3 bn4 hlim hD3 bn3 b04 hF
      go_wp2_with fail
      refine Q5.out.mono ?_
      rintro e w5 ⟨rfl, hb5⟩
      have hG := HF.out.trans (hb5.mono HF.out.size)
      have b05 := hB4.out.later hb5
      have Q4 := hid (QD.out _ hG)
      clear Q5 QD hb5 d0 d1 g0 g1 e0 e1 i0 i1
      obtain ⟨⟨c0, c1, c2, c3⟩, f0, f1, f2, f3⟩ := b05.four
      go_wp2_with fail
      refine Q4.out.mono ?_
      rintro e w4 ⟨rfl, hb4⟩
      have hE := hG.trans (hb4.mono hG.size)
      clear Q4 hb4 hG b05 c0 c1 c2 c3 f0 f1 f2 f3
      by_cases ho : natOf ys = 1
      · rw [show decide (natOf ys = 1) = true from decide_eq_true ho] at hd49
        have HO := hid ho
        clear ho
        go_wp2
        go_ret2
        refine ⟨hE, .inr ⟨HZ.out, ?_⟩⟩
        rw [FIN.out, if_pos HO.out, List.append_nil, HSN.out]
        rfl
      · rw [show decide (natOf ys = 1) = false from decide_eq_false ho] at hd49
        have HO := hid ho
        clear ho
        go_wp2
        go_ret2
        refine ⟨hE, .inr ⟨HZ.out, ?_⟩⟩
        rw [FIN.out, if_neg HO.out, ← bar_str2 SN D _ _ HSN.out HD.out]
        rfl
end Go.Proofs.Ytjjidmgeladicaa

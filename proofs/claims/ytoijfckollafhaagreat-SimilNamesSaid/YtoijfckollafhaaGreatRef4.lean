/- simileref01's Mul, Div: what they hand back. -/
import Derived.Test.YtoijfckollafhaaGreatRef3
import Derived.Deep.RegionWith
namespace Go.Proofs.YtoijfckollafhaaGreat
open Go.RowKit

theorem toL_lenB (n k : Nat) (h : n < 4294967296 ^ k) : (toL n).length ≤ k := toL_len_le n k h

set_option maxHeartbeats 1600000 in
theorem mul01_any (lo h1 lo2 h12 : Nat) (v v2 : Value) (xs ys : List Nat) (w : World) (h : Limbs lo h1 w v xs) (h2 : Limbs lo2 h12 w v2 ys) (hhi2 : h12 ≤ w.heap.size) (hl : xs.length ≤ 4398046511104) (hl2 : ys.length ≤ 4398046511104) :
    Calls Tryz.prog 222 #[v, v2] w fun e w' => ∃ r, e = .returned r ∧ Limbs w.heap.size w'.heap.size w' r (toL (natOf xs * natOf ys)) ∧ Below w.heap.size w w' := by
  have q1 := norm01_any _ _ _ _ _ h (by omega)
  have Q1 := hid q1
  clear q1
  go_enter Tryz.func222, Tryz.ntmps222
  go_wp2_with fail
  refine Q1.out.mono ?_
  rintro e w1 ⟨r1, rfl, hr1, hb1⟩
  have q2 := norm01_any _ _ _ _ _ (h2.below hb1 hhi2) (by omega)
  have Q2 := hid q2
  clear q2
  go_wp2_with fail
  refine Q2.out.mono ?_
  rintro e w2 ⟨r2, rfl, hr2, hb2⟩
  have hr1' := hr1.below hb2 (Nat.le_refl _)
  have hbel := hb1.trans (hb2.mono hb1.size)
  have hs := hb2.size
  clear hb2 hb1 hr1 Q1 Q2
  have hlb := toL_len ys (by obtain ⟨_, _, _, _, _, hlt, _⟩ := h2.open; exact hlt)
  have hla := toL_len xs (by obtain ⟨_, _, _, _, _, hlt, _⟩ := h.open; exact hlt)
  have hnb := natOf_toL (natOf ys)
  have hna := natOf_toL (natOf xs)
  revert hlb hla hnb hna hr1' hr2
  generalize toL (natOf ys) = bs
  generalize toL (natOf xs) = us
  generalize hY : natOf ys = Y
  generalize hX : natOf xs = X
  have HXX := hid hX
  have HYY := hid hY
  clear hX hY
  intro hr2 hr1 hlb hla hnb hna
  obtain ⟨ad, cap, rfl, hc, _, hlt, hcell⟩ := hr2.open
  have HC := hid hcell
  have HLT := hid hlt
  have HNA := hid hna
  have HNB := hid hnb
  clear hcell hlt hna hnb
  have hAlt : ∀ x, x ∈ us → x < 4294967296 := by obtain ⟨_, _, _, _, _, hlt, _⟩ := hr1.open; exact hlt
  have HALT := hid hAlt
  clear hAlt
  go_wp2
  go_loopw [5, 6] (fun vo t wr => ∃ k : Nat, t = .int .i64 ((k : Int) - 1) ∧ k ≤ bs.length ∧ Below w.heap.size w wr ∧ Below w2.heap.size w2 wr ∧ Limbs w.heap.size wr.heap.size wr vo (toL (X * natOf (bs.drop k))))
    (fun _ t _ => (intOf t + 1).toNat)
  case atStart => exact ⟨bs.length, rfl, Nat.le_refl _, hbel, Below.refl _ _, by simp [natOf, toL_zero, Limbs.nil]⟩
  case round =>
    obtain ⟨k, rfl, hk, hbr, hb2r, hO⟩ := hrel
    cases k with
    | zero =>
      have e : natOf (toL (X * natOf (bs.drop 0))) = X * Y := by rw [natOf_toL, List.drop_zero, HNB.out]
      have hol : (toL (X * natOf (bs.drop 0))).length ≤ 8796093022208 := by
        refine Nat.le_trans (toL_len_le _ (us.length + bs.length) ?_) (by omega)
        rw [← HNA.out, Nat.pow_add, List.drop_zero]
        exact Nat.mul_lt_mul'' (natOf_lt us HALT.out) (natOf_lt bs HLT.out)
      have hN := norm01_any _ _ _ _ wr hO (by omega)
      rw [e] at hN
      clear e hol hO
      go_wp2_with (go_at_call 173; refine hN.mono ?_; rintro e w' ⟨r, rfl, hr, hb⟩)
      go_ret
      rw [HXX.out, HYY.out]
      exact ⟨_, rfl, hr.wide hbr.size (Nat.le_refl _), hbr.trans (hb.mono hbr.size)⟩
    | succ m =>
      have hol : (toL (X * natOf (bs.drop (m + 1)))).length ≤ 8796093022208 := by
        refine Nat.le_trans (toL_len_le _ (us.length + bs.length) ?_) (by omega)
        rw [← HNA.out, Nat.pow_add]
        refine Nat.mul_lt_mul'' (natOf_lt us HALT.out) (Nat.lt_of_lt_of_le (natOf_lt _ fun x hx => HLT.out x (List.mem_of_mem_drop hx)) (Nat.pow_le_pow_right (by decide) (by simp)))
      obtain ⟨b, off, rfl, hlo, hhi, hcb⟩ := HC.out m (by omega)
      obtain ⟨y, hy⟩ : ∃ y, bs.getD m 0 = y := ⟨_, rfl⟩
      have hy32 : y < 4294967296 := by rw [← hy]; exact getD_lt bs HLT.out m
      rw [hy] at hcb
      have hcr := cellB hb2r hcb (Nat.le_refl _)
      have f1 : (m : Int) < (bs.length : Int) := by omega
      have e1 : natOf us * y = X * y := by rw [HNA.out]
      have hsh : ∀ W, Below wr.heap.size wr W → Calls Tryz.prog 265 #[u5, .int .u32 0] W fun e w' => ∃ r, e = .returned r ∧ Limbs W.heap.size w'.heap.size w' r (toL (4294967296 * (X * natOf (bs.drop (m + 1))))) ∧ Below W.heap.size W w' := by
        intro W hW
        have := shift01_any _ _ _ _ 0 W (hO.below hW (Nat.le_refl _)) hW.size (by omega) (by decide)
        rw [natOf_toL, Nat.zero_add] at this
        exact this
      have hsm : ∀ W, Below wr.heap.size wr W → Calls Tryz.prog 266 #[r1, .int .u32 y] W fun e w' => ∃ r, e = .returned r ∧ Limbs W.heap.size w'.heap.size w' r (toL (X * y)) ∧ Below W.heap.size W w' := by
        intro W hW
        have := small01_any _ _ _ _ y W ((hr1.below hb2r hs).below hW (Nat.le_trans hs hb2r.size)) (Nat.le_trans (Nat.le_trans hs hb2r.size) hW.size) (by omega) hy32
        rw [e1] at this
        exact this
      have hl1 : (toL (4294967296 * (X * natOf (bs.drop (m + 1))))).length ≤ 17592186044416 := by
        refine Nat.le_trans (toL_len_le _ (us.length + bs.length + 1) ?_) (by omega)
        rw [← HNA.out, Nat.pow_succ, Nat.mul_comm 4294967296]
        refine Nat.mul_lt_mul_of_pos_right ?_ (by decide)
        rw [Nat.pow_add]
        refine Nat.mul_lt_mul'' (natOf_lt us HALT.out) (Nat.lt_of_lt_of_le (natOf_lt _ fun x hx => HLT.out x (List.mem_of_mem_drop hx)) (Nat.pow_le_pow_right (by decide) (by simp)))
      have hl2 : (toL (X * y)).length ≤ 17592186044416 := by
        refine Nat.le_trans (toL_len_le _ (us.length + 1) ?_) (by omega)
        rw [← HNA.out, Nat.pow_succ]
        exact Nat.mul_lt_mul'' (natOf_lt us HALT.out) hy32
      have hfin : toL (4294967296 * (X * natOf (bs.drop (m + 1))) + X * y) = toL (X * natOf (bs.drop m)) := by
        rw [natOf_drop bs m, hy, Nat.mul_add, Nat.add_comm, ← Nat.mul_assoc, Nat.mul_comm 4294967296 X, Nat.mul_assoc]
      have hadd : ∀ (W3 W4 : World) (r3 r4 : Value), Limbs W3.heap.size W4.heap.size W4 r3 (toL (4294967296 * (X * natOf (bs.drop (m + 1))))) → ∀ W5 W6 : World, Below W4.heap.size W4 W5 → Limbs W5.heap.size W6.heap.size W6 r4 (toL (X * y)) → Below W5.heap.size W5 W6 →
          Calls Tryz.prog 219 #[r3, r4] W6 fun e w' => ∃ r, e = .returned r ∧ Limbs W6.heap.size w'.heap.size w' r (toL (X * natOf (bs.drop m))) ∧ Below W6.heap.size W6 w' := by
        intro W3 W4 r3 r4 g1 W5 W6 g2 g3 g4
        have := add01_any _ _ _ _ _ _ _ _ W6 ((g1.below g2 (Nat.le_refl _)).below g4 g2.size) g3 (Nat.le_trans g2.size g4.size) (Nat.le_refl _) hl1 hl2
        rw [natOf_toL, natOf_toL, hfin] at this
        exact this
      have HSH := hid hsh
      have HSM := hid hsm
      have HADD := hid hadd
      have HO := hid hO
      clear hcb hy e1 hsh hsm hl1 hl2 hfin hadd hO
      go_wp2
      go_region_with (first
        | (go_at_call 265; refine (HSH.out _ (Below.refl _ _).drew).mono ?_; rintro e w3 ⟨r3, rfl, hr3, hb3⟩; have hcr3 := cellB hb3 hcr (Nat.le_refl _))
        | (go_at_call 266; refine (HSM.out _ ((Below.refl _ _).drew.trans hb3)).mono ?_; rintro e w4 ⟨r4, rfl, hr4, hb4⟩)
        | (go_at_call 219; refine (HADD.out _ _ _ _ hr3 _ _ (Below.refl _ _) hr4 hb4).mono ?_; rintro e w5 ⟨r5, rfl, hr5, hb5⟩))
      all_goals
        go_wp2
        have hA := (((Below.refl wr.heap.size wr).drew.trans hb3).trans (hb4.mono hb3.size)).trans (hb5.mono (Nat.le_trans hb3.size hb4.size))
        exact ⟨⟨m, by go_num, by omega, hbr.trans (hA.mono hbr.size), hb2r.trans (hA.mono hb2r.size), hr5.wide (Nat.le_trans hbr.size (Nat.le_trans hb3.size hb4.size)) (Nat.le_refl _)⟩, by simp [intOf]⟩
end Go.Proofs.YtoijfckollafhaaGreat

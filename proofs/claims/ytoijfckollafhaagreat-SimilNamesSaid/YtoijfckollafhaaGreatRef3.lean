/- simileref01's Cmp, Sub: what they hand back. -/
import Derived.Test.YtoijfckollafhaaGreatRef2
namespace Go.Proofs.YtoijfckollafhaaGreat
open Go.RowKit

/-- -1, 0, 1 -/
def cmpN (a b : Nat) : Int := if a < b then -1 else if b < a then 1 else 0

theorem natOf_drop (xs : List Nat) (k : Nat) : natOf (xs.drop k) = xs.getD k 0 + 4294967296 * natOf (xs.drop (k + 1)) := by
  by_cases h : k < xs.length
  · rw [List.drop_eq_getElem_cons h, natOf, getD_eq xs k h]
  · rw [List.drop_of_length_le (by omega), List.drop_of_length_le (by omega), getD_out xs k (by omega)]; simp [natOf]

theorem natOf_split (xs : List Nat) (k : Nat) : natOf xs = natOf (xs.take k) + 4294967296 ^ k * natOf (xs.drop k) := by
  induction k with
  | zero => simp [natOf]
  | succ k ih =>
    rw [ih, natOf_take_succ, natOf_drop xs k, Nat.pow_succ, Nat.mul_add, Nat.mul_assoc, Nat.add_assoc]

theorem natOf_take_lt (xs : List Nat) (k : Nat) (hx : ∀ x, x ∈ xs → x < 4294967296) : natOf (xs.take k) < 4294967296 ^ k := by
  have h := natOf_lt (xs.take k) fun x h => hx x (List.mem_of_mem_take h)
  have : 4294967296 ^ (xs.take k).length ≤ 4294967296 ^ k := Nat.pow_le_pow_right (by decide) (by rw [List.length_take]; omega)
  exact Nat.lt_of_lt_of_le h this

theorem drop_lt (xs ys : List Nat) (k : Nat) (hx : ∀ x, x ∈ xs → x < 4294967296) (h : natOf (xs.drop k) < natOf (ys.drop k)) : natOf xs < natOf ys := by
  rw [natOf_split xs k, natOf_split ys k]
  have h1 := natOf_take_lt xs k hx
  generalize 4294967296 ^ k = P at *
  generalize natOf (xs.drop k) = a at *
  generalize natOf (ys.drop k) = b at *
  have : P * (a + 1) ≤ P * b := Nat.mul_le_mul_left _ h
  rw [Nat.mul_add] at this
  omega

theorem drop_step (xs ys : List Nat) (m x y : Nat) (hx : xs.getD m 0 = x) (hy : ys.getD m 0 = y) (h : natOf (xs.drop (m + 1)) = natOf (ys.drop (m + 1))) (hlt : x < y) : natOf (xs.drop m) < natOf (ys.drop m) := by
  rw [natOf_drop xs m, natOf_drop ys m, hx, hy, h]
  omega

set_option maxHeartbeats 1600000 in
theorem cmp01_any (lo h1 lo2 h12 : Nat) (v v2 : Value) (xs ys : List Nat) (w : World) (h : Limbs lo h1 w v xs) (h2 : Limbs lo2 h12 w v2 ys) (hl : xs.length ≤ 17592186044416) (hl2 : ys.length ≤ 17592186044416) :
    Calls Tryz.prog 220 #[v, v2] w fun e w' => e = .returned (.int .i64 (cmpN (natOf xs) (natOf ys))) ∧ w = w' := by
  obtain ⟨ad, cap, rfl, hc, _, hlt, _⟩ := h.open
  obtain ⟨ad2, cap2, rfl, hc2, _, hlt2, _⟩ := h2.open
  have HLT := hid hlt
  have HLT2 := hid hlt2
  clear hlt hlt2
  go_enter Tryz.func220, Tryz.ntmps220
  go_upto_if 12 with (fail)
  go_cut [5] (fun t w' => w' = w ∧ ∃ n : Nat, t = .int .i64 n ∧ xs.length ≤ n ∧ ys.length ≤ n ∧ n ≤ 17592186044416)
  case first =>
    by_cases hle : ys.length ≤ xs.length
    · go_wp2
      go_meet
      exact ⟨rfl, xs.length, rfl, by omega, by omega, by omega⟩
    · go_wp2
      go_meet
      exact ⟨rfl, ys.length, rfl, by omega, by omega, by omega⟩
  case rest =>
    obtain ⟨rfl, n, rfl, hn1, hn2, hn⟩ := hcut
    go_wp2
    go_loop [6] (fun t => ∃ k : Nat, t = .int .i64 ((k : Int) - 1) ∧ k ≤ n ∧ natOf (xs.drop k) = natOf (ys.drop k)) (fun t => (intOf t + 1).toNat)
    case atStart => exact ⟨n, rfl, Nat.le_refl _, by rw [List.drop_of_length_le hn1, List.drop_of_length_le hn2]⟩
    case round =>
      obtain ⟨k, rfl, hk, he⟩ := hrel
      have HE := hid he
      clear he
      cases k with
      | zero =>
        go_wp2
        go_ret
        have : cmpN (natOf xs) (natOf ys) = 0 := by
          have := HE.out
          simp only [List.drop_zero] at this
          rw [this]; simp [cmpN]
        rw [this]
        exact ⟨rfl, rfl⟩
      | succ m =>
        obtain ⟨x, hx⟩ : ∃ x, xs.getD m 0 = x := ⟨_, rfl⟩
        obtain ⟨y, hy⟩ : ∃ y, ys.getD m 0 = y := ⟨_, rfl⟩
        have hx32 : x < 4294967296 := by rw [← hx]; exact getD_lt xs HLT.out m
        have hy32 : y < 4294967296 := by rw [← hy]; exact getD_lt ys HLT2.out m
        have q1 := limb_any lo h1 _ xs m x wc h (by omega) hx
        have q2 := limb_any lo2 h12 _ ys m y wc h2 (by omega) hy
        have HX := hid hx
        have HY := hid hy
        have Q1 := hid q1
        have Q2 := hid q2
        clear hx hy q1 q2
        have c1 : natOf xs < natOf ys → cmpN (natOf xs) (natOf ys) = -1 := fun h => by simp [cmpN, h]
        have c2 : natOf ys < natOf xs → cmpN (natOf xs) (natOf ys) = 1 := fun h => by rw [cmpN, if_neg (by omega), if_pos h]
        have C1 := hid c1
        have C2 := hid c2
        clear c1 c2
        rcases Nat.lt_trichotomy x y with hxy | hxy | hxy
        · go_wp2_with fail
          refine Q1.out.mono ?_
          rintro e w' ⟨rfl, rfl⟩
          go_wp2_with fail
          refine Q2.out.mono ?_
          rintro e w' ⟨rfl, rfl⟩
          go_wp2
          go_ret
          rw [C1.out (drop_lt xs ys m HLT.out (drop_step xs ys m x y HX.out HY.out HE.out hxy))]
          exact ⟨rfl, rfl⟩
        · have hxy2 : x ≤ y := by omega
          have hxy3 : y ≤ x := by omega
          have HXY := hid hxy
          clear hxy
          go_wp2_with fail
          refine Q1.out.mono ?_
          rintro e w' ⟨rfl, rfl⟩
          go_wp2_with fail
          refine Q2.out.mono ?_
          rintro e w' ⟨rfl, rfl⟩
          go_wp2_with fail
          refine Q1.out.mono ?_
          rintro e w' ⟨rfl, rfl⟩
          go_wp2_with fail
          refine Q2.out.mono ?_
          rintro e w' ⟨rfl, rfl⟩
          go_wp2
          refine ⟨⟨m, by go_num, by omega, ?_⟩, by simp [intOf]⟩
          rw [natOf_drop xs m, natOf_drop ys m, HX.out, HY.out, HE.out, HXY.out]
        · go_wp2_with fail
          refine Q1.out.mono ?_
          rintro e w' ⟨rfl, rfl⟩
          go_wp2_with fail
          refine Q2.out.mono ?_
          rintro e w' ⟨rfl, rfl⟩
          go_wp2_with fail
          refine Q1.out.mono ?_
          rintro e w' ⟨rfl, rfl⟩
          go_wp2_with fail
          refine Q2.out.mono ?_
          rintro e w' ⟨rfl, rfl⟩
          go_wp2
          go_ret
          rw [C2.out (drop_lt ys xs m HLT2.out (drop_step ys xs m y x HY.out HX.out HE.out.symm hxy))]
          exact ⟨rfl, rfl⟩

theorem sub_carry (P a c s A Bv x y z : Nat) (h : A + Bv = a + P * c) (hs : s + y + c = 4294967296 + x) (hz : z = 1 - s / 4294967296) (hs2 : s < 8589934592) :
    A + P * (s % 4294967296) + (Bv + P * y) = a + P * x + P * 4294967296 * z := by
  have e : P * s + P * y + P * c = P * 4294967296 + P * x := by
    have := congrArg (P * ·) hs
    simp only [Nat.mul_add] at this
    exact this
  have e2 : P * s = P * (s % 4294967296) + P * 4294967296 * (s / 4294967296) := by
    rw [Nat.mul_assoc, ← Nat.mul_add, Nat.mod_add_div]
  generalize P * (s % 4294967296) = u at *
  rcases Nat.lt_or_ge s 4294967296 with h1 | h1
  · have h0 : s / 4294967296 = 0 := by omega
    rw [h0] at e2 hz
    subst hz
    rw [Nat.mul_zero] at e2
    rw [Nat.sub_zero, Nat.mul_one]
    generalize P * 4294967296 = PB at *
    generalize P * s = ps at *
    generalize P * y = py at *
    generalize P * c = pc at *
    generalize P * x = px at *
    omega
  · have h0 : s / 4294967296 = 1 := by omega
    rw [h0] at e2 hz
    subst hz
    rw [Nat.mul_one] at e2
    rw [Nat.sub_self, Nat.mul_zero]
    generalize P * 4294967296 = PB at *
    generalize P * s = ps at *
    generalize P * y = py at *
    generalize P * c = pc at *
    generalize P * x = px at *
    omega

set_option maxHeartbeats 1600000 in
theorem sub01_any (lo h1 lo2 h12 : Nat) (v v2 : Value) (xs ys : List Nat) (w : World) (h : Limbs lo h1 w v xs) (h2 : Limbs lo2 h12 w v2 ys) (hhi : h1 ≤ w.heap.size) (hhi2 : h12 ≤ w.heap.size) (hl : xs.length ≤ 17592186044416)
    (hle : natOf ys ≤ natOf xs) :
    Calls Tryz.prog 221 #[v, v2] w fun e w' => ∃ r, e = .returned r ∧ Limbs w.heap.size w'.heap.size w' r (toL (natOf xs - natOf ys)) ∧ Below w.heap.size w w' := by
  obtain ⟨ad, cap, rfl, hc, _, hlt, _⟩ := h.open
  obtain ⟨ad2, cap2, rfl, hc2, _, hlt2, _⟩ := h2.open
  have HLT := hid hlt
  have HLT2 := hid hlt2
  have HLE := hid hle
  clear hlt hlt2 hle
  go_enter Tryz.func221, Tryz.ntmps221
  go_wp2_with (at_make; refine wpl_make_u32 elemNat rfl _ _ rfl w.heap.size _ _ _ _ xs.length xs.length rfl rfl rfl rfl (Nat.le_refl _) (by omega) (Below.refl _ _) (Nat.le_refl _) ?_)
  intro w1 ho1 hb1 _
  go_wp2
  go_loopw [6, 14] (fun cv t wr => ∃ (i c : Nat) (cur : List Nat), t = .int .i64 i ∧ cv = .int .u64 c ∧ c ≤ 1 ∧ i ≤ xs.length ∧
      wr.ownsRow w.heap.size 208 1 (.slice (some ⟨w.heap.size, 0, none⟩) xs.length xs.length) xs.length (u32s cur) ∧ Below w.heap.size w wr ∧
      (∀ x, x ∈ cur → x < 4294967296) ∧ natOf (cur.take i) + natOf (ys.take i) = natOf (xs.take i) + 4294967296 ^ i * c) (fun _ t _ => xs.length - (intOf t).toNat)
  case atStart => exact ⟨0, 0, _, rfl, rfl, by omega, Nat.zero_le _, ho1, hb1, zeroL_lt _, by simp [natOf]⟩
  case round =>
    obtain ⟨i, c, cur, rfl, rfl, hc1, hi, hown, hbel, hcl, hval⟩ := hrel
    have HV := hid hval
    have HCL := hid hcl
    clear hval hcl ho1 hb1
    by_cases hil : i < xs.length
    · obtain ⟨x, hx⟩ : ∃ x, xs.getD i 0 = x := ⟨_, rfl⟩
      obtain ⟨y, hy⟩ : ∃ y, ys.getD i 0 = y := ⟨_, rfl⟩
      have hx32 : x < 4294967296 := by rw [← hx]; exact getD_lt xs HLT.out i
      have hy32 : y < 4294967296 := by rw [← hy]; exact getD_lt ys HLT2.out i
      have q1 := limb_any lo h1 _ xs i x wr (h.below hbel hhi) (by omega) hx
      have q2 := limb_any lo2 h12 _ ys i y wr (h2.below hbel hhi2) (by omega) hy
      have HX := hid hx
      have HY := hid hy
      have Q1 := hid q1
      have Q2 := hid q2
      obtain ⟨c1, c2⟩ := own_u32 hown i hil
      clear hx hy q1 q2
      go_wp2_with fail
      refine Q1.out.mono ?_
      rintro e w' ⟨rfl, rfl⟩
      go_wp2_with fail
      refine Q2.out.mono ?_
      rintro e w' ⟨rfl, rfl⟩
      go_wp2
      have hs := own_set hown i ((4294967296 + x - y - c) % 4294967296)
      have hln := own_len hown
      have e1 : (4294967296 + (x : Int) - y - c) = ((4294967296 + x - y - c : Nat) : Int) := by omega
      have e2 : (1 : Int) - (4294967296 + (x : Int) - y - c) / 4294967296 = ((1 - (4294967296 + x - y - c) / 4294967296 : Nat) : Int) := by omega
      refine ⟨⟨i + 1, 1 - (4294967296 + x - y - c) / 4294967296, _, by go_num, by rw [e2], by omega, by omega, by rw [e1]; simpa using hs.1, by rw [e1]; exact hbel.setCell (by exact Nat.le_refl _) _, set_lt _ _ _ HCL.out (by omega), ?_⟩, by simp [intOf]; omega⟩
      rw [set_val _ _ _ _ hln hil, natOf_take_succ xs, natOf_take_succ ys, HX.out, HY.out, Nat.pow_succ]
      exact sub_carry _ _ c (4294967296 + x - y - c) _ _ x y _ HV.out (by omega) rfl (by omega)
    · obtain rfl : i = xs.length := by omega
      have hln := own_len hown
      have hv : natOf cur = natOf xs - natOf ys := by
        have := HV.out
        rw [natOf_take_all cur _ (by omega), natOf_take_all xs _ (by omega)] at this
        have p1 := natOf_lt xs HLT.out
        have p2 := natOf_lt cur HCL.out
        have p3 := natOf_split ys xs.length
        have p4 := HLE.out
        rw [hln] at p2
        generalize 4294967296 ^ xs.length = P at *
        have z1 : natOf (ys.drop xs.length) = 0 := carry_zero P _ _ p1 (by omega)
        rw [z1, Nat.mul_zero] at p3
        have z2 : c = 0 := carry_zero P _ _ p2 (by omega)
        rw [z2, Nat.mul_zero] at this
        omega
      have hN := norm01_any _ _ _ cur wr (Limbs.ofOwn hown HCL.out) (by omega)
      rw [hv] at hN
      clear hv hln
      go_wp2_with (go_at_call 173; refine hN.mono ?_; rintro e w' ⟨r, rfl, hr, hb2⟩)
      go_ret
      exact ⟨_, rfl, hr.wide hbel.size (Nat.le_refl _), hbel.trans (hb2.mono hbel.size)⟩
end Go.Proofs.YtoijfckollafhaaGreat

/- simileref01's Add, Small, shift, Sub, Cmp: what they hand back. -/
import Derived.Test.YtoijfckollafhaaGreatRef1
import Derived.Deep.DeepCutAuto
namespace Go.Proofs.YtoijfckollafhaaGreat
open Go.RowKit

theorem natOf_append (xs ys : List Nat) : natOf (xs ++ ys) = natOf xs + 4294967296 ^ xs.length * natOf ys := by
  induction xs with
  | nil => simp [natOf]
  | cons x xs ih => simp only [List.cons_append, natOf, ih, List.length_cons, Nat.pow_succ]; rw [Nat.mul_add, Nat.add_assoc]; congr 2; rw [Nat.mul_comm (_ ^ _) 4294967296, Nat.mul_assoc]

theorem natOf_take_succ (xs : List Nat) (i : Nat) : natOf (xs.take (i + 1)) = natOf (xs.take i) + 4294967296 ^ i * xs.getD i 0 := by
  by_cases h : i < xs.length
  · rw [take_snoc xs 0 i h, natOf_snoc, List.length_take, Nat.min_eq_left (by omega)]
  · rw [List.take_of_length_le (by omega), List.take_of_length_le (by omega), getD_out xs i (by omega)]; simp

theorem natOf_take_all (xs : List Nat) (i : Nat) (h : xs.length ≤ i) : natOf (xs.take i) = natOf xs := by rw [List.take_of_length_le h]

theorem getD_lt (xs : List Nat) (h : ∀ x, x ∈ xs → x < 4294967296) (i : Nat) : xs.getD i 0 < 4294967296 := by
  by_cases hi : i < xs.length
  · exact h _ (getD_mem xs i hi)
  · rw [getD_out xs i (by omega)]; decide

/-- one step of a sum with a carry -/
theorem carry_step (P a b c s A Bv x y z : Nat) (h : A + P * c = Bv) (hs : x + y + c = s) (hz : z = s / 4294967296) (ha : a = A + P * (s % 4294967296)) (hb : b = Bv + P * x + P * y) :
    a + P * 4294967296 * z = b := by
  subst ha hb hz
  have : s = s % 4294967296 + 4294967296 * (s / 4294967296) := by omega
  have e : P * s = P * (s % 4294967296) + P * 4294967296 * (s / 4294967296) := by
    conv => lhs; rw [this]
    rw [Nat.mul_add, Nat.mul_assoc]
  have e2 : P * s = P * x + P * y + P * c := by rw [← hs, Nat.mul_add, Nat.mul_add]
  omega

theorem set_val (cur : List Nat) (n i y : Nat) (hl : cur.length = n) (hi : i < n) : natOf ((cur.set i y).take (i + 1)) = natOf (cur.take i) + 4294967296 ^ i * y := by
  rw [take_set_succ _ _ _ (by omega), natOf_snoc, List.length_take, Nat.min_eq_left (by omega)]

theorem set_lt (cur : List Nat) (i y : Nat) (h : ∀ x, x ∈ cur → x < 4294967296) (hy : y < 4294967296) : ∀ x, x ∈ cur.set i y → x < 4294967296 := by
  intro x hx
  rcases List.mem_or_eq_of_mem_set hx with h1 | h1
  · exact h x h1
  · rw [h1]; exact hy

theorem zeroL_lt (n : Nat) : ∀ x, x ∈ zeroL n → x < 4294967296 := by
  intro x hx
  rw [List.eq_of_mem_replicate hx]; decide

theorem carry_zero (P v c : Nat) (h : v < P) (hc : P * c ≤ v) : c = 0 := by
  rcases Nat.eq_zero_or_pos c with h0 | h0
  · exact h0
  · have : P * 1 ≤ P * c := Nat.mul_le_mul_left _ h0
    omega

theorem sum_lt (n : Nat) (xs ys : List Nat) (h1 : xs.length ≤ n) (h2 : ys.length ≤ n) (hx : ∀ x, x ∈ xs → x < 4294967296) (hy : ∀ x, x ∈ ys → x < 4294967296) :
    natOf xs + natOf ys < 4294967296 ^ (n + 1) := by
  have p1 := natOf_lt xs hx
  have p2 := natOf_lt ys hy
  have q1 : 4294967296 ^ xs.length ≤ 4294967296 ^ n := Nat.pow_le_pow_right (by decide) h1
  have q2 : 4294967296 ^ ys.length ≤ 4294967296 ^ n := Nat.pow_le_pow_right (by decide) h2
  rw [Nat.pow_succ]
  generalize 4294967296 ^ n = P at *
  omega

theorem prod_lt (xs : List Nat) (d : Nat) (hx : ∀ x, x ∈ xs → x < 4294967296) (hd : d < 4294967296) : natOf xs * d < 4294967296 ^ (xs.length + 1) := by
  have p1 := natOf_lt xs hx
  rw [Nat.pow_succ]
  exact Nat.mul_lt_mul'' p1 hd

set_option maxHeartbeats 800000 in
theorem add01_any (lo h1 lo2 h12 : Nat) (v v2 : Value) (xs ys : List Nat) (w : World) (h : Limbs lo h1 w v xs) (h2 : Limbs lo2 h12 w v2 ys) (hhi : h1 ≤ w.heap.size) (hhi2 : h12 ≤ w.heap.size) (hl : xs.length ≤ 17592186044416) (hl2 : ys.length ≤ 17592186044416) :
    Calls Tryz.prog 219 #[v, v2] w fun e w' => ∃ r, e = .returned r ∧ Limbs w.heap.size w'.heap.size w' r (toL (natOf xs + natOf ys)) ∧ Below w.heap.size w w' := by
  obtain ⟨ad, cap, rfl, hc, _, hlt, _⟩ := h.open
  obtain ⟨ad2, cap2, rfl, hc2, _, hlt2, _⟩ := h2.open
  have HLT := hid hlt
  have HLT2 := hid hlt2
  clear hlt hlt2
  go_enter Tryz.func219, Tryz.ntmps219
  go_upto_if 15 with (fail)
  go_cut [5] (fun t w' => w' = w ∧ ∃ n : Nat, t = .int .i64 n ∧ xs.length ≤ n ∧ ys.length ≤ n ∧ n ≤ 17592186044416)
  case first =>
    by_cases hle : ys.length ≤ xs.length
    · go_wp2
      go_meet
      exact ⟨rfl, xs.length, rfl, by omega, by omega, by omega⟩
    · go_wp2
      go_meet
      exact ⟨rfl, ys.length, rfl, by omega, by omega, by omega⟩
  case rest =>
    obtain ⟨rfl, n, rfl, hn1, hn2, hn⟩ := hcut
    go_wp2_with (at_make; refine wpl_make_u32 elemNat rfl _ _ rfl wc.heap.size _ _ _ _ (n + 1) (n + 1) rfl rfl (by omega) (by omega) (Nat.le_refl _) (by omega) (Below.refl _ _) (Nat.le_refl _) ?_)
    intro w1 ho1 hb1 _
    go_wp2
    have h3 := ho1
    go_loopw [7, 23] (fun cv t wr => ∃ (i c : Nat) (cur : List Nat), t = .int .i64 i ∧ cv = .int .u64 c ∧ c ≤ 1 ∧ i ≤ n + 1 ∧
        wr.ownsRow wc.heap.size 208 1 (.slice (some ⟨wc.heap.size, 0, none⟩) (n + 1) (n + 1)) (n + 1) (u32s cur) ∧ Below wc.heap.size wc wr ∧
        (∀ x, x ∈ cur → x < 4294967296) ∧ natOf (cur.take i) + 4294967296 ^ i * c = natOf (xs.take i) + natOf (ys.take i)) (fun _ t _ => n + 1 - (intOf t).toNat)
    case atStart => exact ⟨0, 0, _, rfl, rfl, by omega, Nat.zero_le _, ho1, hb1, zeroL_lt _, by simp [natOf]⟩
    case round =>
      obtain ⟨i, c, cur, rfl, rfl, hc1, hi, hown, hbel, hcl, hval⟩ := hrel
      have HV := hid hval
      have HCL := hid hcl
      clear hval hcl ho1 h3 hb1
      by_cases hil : i < n + 1
      · obtain ⟨x, hx⟩ : ∃ x, xs.getD i 0 = x := ⟨_, rfl⟩
        obtain ⟨y, hy⟩ : ∃ y, ys.getD i 0 = y := ⟨_, rfl⟩
        have hx32 : x < 4294967296 := by rw [← hx]; exact getD_lt xs HLT.out i
        have hy32 : y < 4294967296 := by rw [← hy]; exact getD_lt ys HLT2.out i
        have q1 := limb_any lo h1 _ xs i x wr (h.below hbel hhi) (by omega) hx
        have q2 := limb_any lo2 h12 _ ys i y wr (h2.below hbel hhi2) (by omega) hy
        have HX := hid hx
        have HY := hid hy
        have Q1 := hid q1
        have Q2 := hid q2
        obtain ⟨c1, c2⟩ := own_u32 hown i hil
        clear hx hy q1 q2
        go_wp2_with fail
        refine Q1.out.mono ?_
        rintro e w' ⟨rfl, rfl⟩
        go_wp2_with fail
        refine Q2.out.mono ?_
        rintro e w' ⟨rfl, rfl⟩
        go_wp2
        have hs := own_set hown i ((x + y + c) % 4294967296)
        have hln := own_len hown
        refine ⟨⟨i + 1, (x + y + c) / 4294967296, _, by go_num, by go_num, by omega, by omega, by simpa using hs.1, hbel.setCell (by exact Nat.le_refl _) _, set_lt _ _ _ HCL.out (by omega), ?_⟩, by simp [intOf]; omega⟩
        rw [set_val _ _ _ _ hln hil, natOf_take_succ xs, natOf_take_succ ys, HX.out, HY.out, Nat.pow_succ]
        exact carry_step _ _ _ c (x + y + c) _ _ x y _ HV.out rfl rfl rfl (by omega)
      · obtain rfl : i = n + 1 := by omega
        have hln := own_len hown
        have hv : natOf cur = natOf xs + natOf ys := by
          have := HV.out
          rw [natOf_take_all cur _ (by omega), natOf_take_all xs _ (by omega), natOf_take_all ys _ (by omega)] at this
          have hc0 : c = 0 := carry_zero _ _ c (sum_lt n xs ys hn1 hn2 HLT.out HLT2.out) (by rw [← this]; exact Nat.le_add_left _ _)
          rw [hc0, Nat.mul_zero, Nat.add_zero] at this
          exact this
        have hN := norm01_any _ _ _ cur wr (Limbs.ofOwn hown HCL.out) (by omega)
        rw [hv] at hN
        clear hv hln
        go_wp2_with (go_at_call 173; refine hN.mono ?_; rintro e w' ⟨r, rfl, hr, hb2⟩)
        go_ret
        exact ⟨_, rfl, hr.wide hbel.size (Nat.le_refl _), hbel.trans (hb2.mono hbel.size)⟩

set_option maxHeartbeats 800000 in
theorem small01_any (lo h1 : Nat) (v : Value) (xs : List Nat) (d : Nat) (w : World) (h : Limbs lo h1 w v xs) (hhi : h1 ≤ w.heap.size) (hl : xs.length ≤ 17592186044416) (hd : d < 4294967296) :
    Calls Tryz.prog 266 #[v, .int .u32 (d : Nat)] w fun e w' => ∃ r, e = .returned r ∧ Limbs w.heap.size w'.heap.size w' r (toL (natOf xs * d)) ∧ Below w.heap.size w w' := by
  obtain ⟨ad, cap, rfl, hc, _, hlt, _⟩ := h.open
  have HLT := hid hlt
  clear hlt
  go_enter Tryz.func266, Tryz.ntmps266
  go_wp2_with (at_make; refine wpl_make_u32 elemNat rfl _ _ rfl w.heap.size _ _ _ _ (xs.length + 1) (xs.length + 1) rfl rfl (by omega) (by omega) (Nat.le_refl _) (by omega) (Below.refl _ _) (Nat.le_refl _) ?_)
  intro w1 ho1 hb1 _
  go_wp2
  go_loopw [6, 15] (fun cv t wr => ∃ (i c : Nat) (cur : List Nat), t = .int .i64 i ∧ cv = .int .u64 c ∧ c < 4294967296 ∧ i ≤ xs.length + 1 ∧
      wr.ownsRow w.heap.size 208 1 (.slice (some ⟨w.heap.size, 0, none⟩) (xs.length + 1) (xs.length + 1)) (xs.length + 1) (u32s cur) ∧ Below w.heap.size w wr ∧
      (∀ x, x ∈ cur → x < 4294967296) ∧ natOf (cur.take i) + 4294967296 ^ i * c = natOf (xs.take i) * d) (fun _ t _ => xs.length + 1 - (intOf t).toNat)
  case atStart => exact ⟨0, 0, _, rfl, rfl, by omega, Nat.zero_le _, ho1, hb1, zeroL_lt _, by simp [natOf]⟩
  case round =>
    obtain ⟨i, c, cur, rfl, rfl, hc1, hi, hown, hbel, hcl, hval⟩ := hrel
    have HV := hid hval
    have HCL := hid hcl
    clear hval hcl ho1 hb1
    by_cases hil : i < xs.length + 1
    · obtain ⟨x, hx⟩ : ∃ x, xs.getD i 0 = x := ⟨_, rfl⟩
      have hx32 : x < 4294967296 := by rw [← hx]; exact getD_lt xs HLT.out i
      have hp : x * d ≤ 4294967295 * 4294967295 := Nat.mul_le_mul (by omega) (by omega)
      have q1 := limb_any lo h1 _ xs i x wr (h.below hbel hhi) (by omega) hx
      have HX := hid hx
      have Q1 := hid q1
      obtain ⟨c1, c2⟩ := own_u32 hown i hil
      clear hx q1
      go_wp2_with fail
      refine Q1.out.mono ?_
      rintro e w' ⟨rfl, rfl⟩
      go_wp2
      have hs := own_set hown i ((x * d + c) % 4294967296)
      have hln := own_len hown
      refine ⟨⟨i + 1, (x * d + c) / 4294967296, _, by go_num, by go_num, by omega, by omega, by simpa using hs.1, hbel.setCell (by exact Nat.le_refl _) _, set_lt _ _ _ HCL.out (by omega), ?_⟩, by simp [intOf]; omega⟩
      rw [set_val _ _ _ _ hln hil, natOf_take_succ xs, HX.out, Nat.pow_succ]
      refine carry_step _ _ _ c (x * d + c) _ _ (x * d) 0 _ HV.out (by omega) rfl rfl ?_
      rw [Nat.add_mul, Nat.mul_assoc, Nat.mul_zero, Nat.add_zero]
    · obtain rfl : i = xs.length + 1 := by omega
      have hln := own_len hown
      have hv : natOf cur = natOf xs * d := by
        have := HV.out
        rw [natOf_take_all cur _ (by omega), natOf_take_all xs _ (by omega)] at this
        have hc0 : c = 0 := carry_zero _ _ c (prod_lt xs d HLT.out hd) (by rw [← this]; exact Nat.le_add_left _ _)
        rw [hc0, Nat.mul_zero, Nat.add_zero] at this
        exact this
      have hN := norm01_any _ _ _ cur wr (Limbs.ofOwn hown HCL.out) (by omega)
      rw [hv] at hN
      clear hv hln
      go_wp2_with (go_at_call 173; refine hN.mono ?_; rintro e w' ⟨r, rfl, hr, hb2⟩)
      go_ret
      exact ⟨_, rfl, hr.wide hbel.size (Nat.le_refl _), hbel.trans (hb2.mono hbel.size)⟩

set_option maxHeartbeats 800000 in
theorem shift01_any (lo h1 : Nat) (v : Value) (xs : List Nat) (d : Nat) (w : World) (h : Limbs lo h1 w v xs) (hhi : h1 ≤ w.heap.size) (hl : xs.length ≤ 17592186044416) (hd : d < 4294967296) :
    Calls Tryz.prog 265 #[v, .int .u32 (d : Nat)] w fun e w' => ∃ r, e = .returned r ∧ Limbs w.heap.size w'.heap.size w' r (toL (d + 4294967296 * natOf xs)) ∧ Below w.heap.size w w' := by
  have hlt : ∀ x, x ∈ d :: xs → x < 4294967296 := by
    obtain ⟨ad, cap, rfl, hc, _, hlt, _⟩ := h.open
    intro x hx
    rcases List.mem_cons.1 hx with rfl | hx
    · exact hd
    · exact hlt x hx
  have hown : (w.alloc (.cells #[.int .u32 (d : Nat)] 208)).ownsRow w.heap.size 208 1 (.slice (some ⟨w.heap.size, 0, none⟩) 1 1) 1 (u32s [d]) :=
    World.ownsRow_lit w _ 1 (Nat.le_refl _) (by decide) rfl
  have hb1 : Below w.heap.size w (w.alloc (.cells #[.int .u32 (d : Nat)] 208)) := (Below.refl _ _).alloc (Nat.le_refl _) _
  have hL := h.below hb1 hhi
  have HLT := hid hlt
  clear hlt
  go_enter Tryz.func265, Tryz.ntmps265
  go_wp2_with (at_builtin; refine wpl_append_limbs elemNat rfl _ _ rfl w.heap.size 1 _ _ _ xs _ _ hown hL rfl rfl (by omega) hb1 hb1.size ?_)
  intro v' w1 ho1 hb2 _ _
  have hlen : (1 + xs.length) = (d :: xs).length := by simp; omega
  rw [hlen] at ho1
  have hN := norm01_any _ _ _ (d :: xs) w1 (Limbs.ofOwn ho1 HLT.out) (by simp; omega)
  clear hlen
  go_wp2_with (go_at_call 173; refine hN.mono ?_; rintro e w' ⟨r, rfl, hr, hb3⟩)
  go_ret
  exact ⟨_, rfl, hr.wide hb2.size (Nat.le_refl _), hb2.trans (hb3.mono hb2.size)⟩
end Go.Proofs.YtoijfckollafhaaGreat

/- simileref01's limb, Zero, Same, Norm, Of: what they hand back. -/
import Derived.Test.YtoijfckollafhaaGreatNat1
import Derived.BigQuiet
import Derived.Deep.QuietTactic
namespace Go.Proofs.YtoijfckollafhaaGreat
open Go.RowKit

set_option maxHeartbeats 400000 in
theorem limb_any (lo hi : Nat) (v : Value) (xs : List Nat) (k x : Nat) (w : World) (h : Limbs lo hi w v xs) (hk : k ≤ 35184372088832) (hx : xs.getD k 0 = x) :
    Calls Tryz.prog 264 #[v, .int .i64 k] w fun e w' => e = .returned (.int .u64 (x : Nat)) ∧ w = w' := by
  obtain ⟨ad, cap, rfl, hc, _, hlt, hcell⟩ := h.open
  by_cases hkl : k < xs.length
  · obtain ⟨b, off, rfl, _, _, hc1⟩ := hcell k hkl
    rw [hx] at hc1
    have hx32 : x < 4294967296 := by rw [← hx]; exact hlt _ (by simp [List.getD_eq_getElem?_getD, hkl])
    clear hcell hlt h hx
    go_enter Tryz.func264, Tryz.ntmps264
    go_wp2
    go_ret
    exact ⟨rfl, rfl⟩
  · obtain rfl : x = 0 := by rw [← hx, List.getD_eq_getElem?_getD, List.getElem?_eq_none (by omega)]; rfl
    clear hcell hlt h hx
    go_enter Tryz.func264, Tryz.ntmps264
    go_wp2
    go_ret
    exact ⟨rfl, rfl⟩

theorem natOf_zero (xs : List Nat) : natOf xs = 0 ↔ ∀ x, x ∈ xs → x = 0 := by
  induction xs with
  | nil => simp [natOf]
  | cons y ys ih => simp only [natOf, List.forall_mem_cons, ← ih]; omega

set_option maxHeartbeats 400000 in
theorem zero01_any (lo hi : Nat) (v : Value) (xs : List Nat) (w : World) (h : Limbs lo hi w v xs) (hl : xs.length ≤ 35184372088832) :
    Calls Tryz.prog 158 #[v] w fun e w' => e = .returned (.bool (decide (natOf xs = 0))) ∧ w = w' := by
  obtain ⟨ad, cap, rfl, hc, _, hlt, hcell⟩ := h.open
  clear hlt h
  have HC := hid hcell
  clear hcell
  go_enter Tryz.func158, Tryz.ntmps158
  go_wp2
  go_loop [7] (fun t => ∃ k : Nat, t = .int .i64 k ∧ k ≤ xs.length ∧ ∀ x, x ∈ xs.take k → x = 0) (fun t => xs.length - (intOf t).toNat)
  case atStart => exact ⟨0, rfl, Nat.zero_le _, by simp⟩
  case round =>
    obtain ⟨k, rfl, hk, hz⟩ := hrel
    have HZ := hid hz
    clear hz
    by_cases hkl : k < xs.length
    · obtain ⟨b, off, rfl, _, _, hc1⟩ := HC.out k hkl
      obtain ⟨x, hx⟩ : ∃ x, x = xs.getD k 0 := ⟨_, rfl⟩
      rw [← hx] at hc1
      have HX := hid hx
      clear hx
      go_wp2
      · have h1 : ((x : Int) != 0) = true := by assumption
        go_ret
        have : decide (natOf xs = 0) = false := by
          rw [decide_eq_false_iff_not, natOf_zero]
          intro h
          have := h x (by rw [HX.out]; exact getD_mem xs k hkl)
          simp [this] at h1
        rw [this]
        exact ⟨rfl, rfl⟩
      · have h1 : ((x : Int) != 0) = false := by assumption
        refine ⟨⟨k + 1, by go_num, by omega, ?_⟩, by simp [intOf]; omega⟩
        intro y hy
        rw [take_snoc xs 0 k hkl, List.mem_append] at hy
        rcases hy with hy | hy
        · exact HZ.out y hy
        · simp only [List.mem_singleton] at hy
          rw [hy, ← HX.out]
          simpa using h1
    · obtain rfl : k = xs.length := by omega
      go_wp2
      go_ret
      have : decide (natOf xs = 0) = true := by
        rw [decide_eq_true_eq, natOf_zero]
        intro x hx
        exact HZ.out x (by rw [List.take_length]; exact hx)
      rw [this]
      exact ⟨rfl, rfl⟩

set_option maxHeartbeats 400000 in
theorem same01_any (lo hi lo2 hi2 : Nat) (v v2 : Value) (xs ys : List Nat) (w : World) (h : Limbs lo hi w v xs) (h2 : Limbs lo2 hi2 w v2 ys) (hl : xs.length ≤ 35184372088832) :
    Calls Tryz.prog 214 #[v, v2] w fun e w' => e = .returned (.bool (decide (xs = ys))) ∧ Below w.heap.size w w' := by
  obtain ⟨ad, cap, rfl, hc, _, hlt, hcell⟩ := h.open
  obtain ⟨ad2, cap2, rfl, hc2, _, hlt2, hcell2⟩ := h2.open
  clear hlt h hlt2 h2
  have HC := hid hcell
  have HC2 := hid hcell2
  clear hcell hcell2
  by_cases hlen : xs.length = ys.length
  · have hb : ((xs.length : Int) != ys.length) = false := by simp [hlen]
    have HL := hid hlen
    go_enter Tryz.func214, Tryz.ntmps214
    go_wp2
    go_loopw [13] (fun t wr => ∃ k : Nat, t = .int .i64 k ∧ k ≤ xs.length ∧ Below w.heap.size w wr ∧ xs.take k = ys.take k) (fun t _ => xs.length - (intOf t).toNat)
    case atStart => exact ⟨0, rfl, Nat.zero_le _, Below.refl _ _, rfl⟩
    case round =>
      obtain ⟨k, rfl, hk, hbel, he⟩ := hrel
      have HE := hid he
      clear he hb
      by_cases hkl : k < xs.length
      · have hkl2 : k < ys.length := by omega
        obtain ⟨b, off, rfl, _, _, hc1⟩ := HC.out k hkl
        obtain ⟨b2, off2, rfl, _, _, hc12⟩ := HC2.out k hkl2
        obtain ⟨x, hx⟩ : ∃ x, x = xs.getD k 0 := ⟨_, rfl⟩
        obtain ⟨y, hy⟩ : ∃ y, y = ys.getD k 0 := ⟨_, rfl⟩
        rw [← hx] at hc1
        rw [← hy] at hc12
        have HX := hid hx
        have HY := hid hy
        have d1 := cellB hbel hc1 (Nat.le_refl _)
        have d2 := cellB hbel hc12 (Nat.le_refl _)
        clear hx hy hc1 hc12 hlen
        have f1 : (k : Int) < (xs.length : Int) := by omega
        have f2 : (k : Int) < (ys.length : Int) := by omega
        go_wp2
        go_quiet (fail)
        go_wp2
        · have h1 : ((x : Int) != (y : Int)) = true := by assumption
          go_ret
          have : decide (xs = ys) = false := by
            rw [decide_eq_false_iff_not]
            intro e
            rw [HX.out, HY.out, e] at h1
            simp at h1
          rw [this]
          exact ⟨rfl, belowN hbel _⟩
        · have h1 : ((x : Int) != (y : Int)) = false := by assumption
          refine ⟨⟨k + 1, by go_num, by omega, belowN hbel _, ?_⟩, by simp [intOf]; omega⟩
          rw [take_snoc xs 0 k hkl, take_snoc ys 0 k hkl2, HE.out, ← HX.out, ← HY.out]
          have : x = y := by
            have h2 : (x : Int) = y := by simpa using h1
            omega
          rw [this]
      · obtain rfl : k = xs.length := by omega
        go_wp2
        go_ret
        have : decide (xs = ys) = true := by
          rw [decide_eq_true_eq]
          have := HE.out
          rwa [List.take_length, HL.out, List.take_length] at this
        rw [this]
        exact ⟨rfl, hbel⟩
  · have hb : ((xs.length : Int) != ys.length) = true := by simp [bne_iff_ne]; omega
    have hd : decide (xs = ys) = false := by rw [decide_eq_false_iff_not]; intro e; exact hlen (by rw [e])
    have HD := hid hd
    clear hlen hd
    go_enter Tryz.func214, Tryz.ntmps214
    go_wp2
    go_ret
    rw [HD.out]
    exact ⟨rfl, Below.refl _ _⟩

set_option maxHeartbeats 400000 in
theorem norm01_any (lo hi : Nat) (v : Value) (xs : List Nat) (w : World) (h : Limbs lo hi w v xs) (hl : xs.length ≤ 35184372088832) :
    Calls Tryz.prog 173 #[v] w fun e w' => ∃ r, e = .returned r ∧ Limbs w.heap.size w'.heap.size w' r (toL (natOf xs)) ∧ Below w.heap.size w w' := by
  obtain ⟨ad, cap, rfl, hc, _, hlt, hcell⟩ := h.open
  have hT := trimL_toL xs hlt
  have hTlt : ∀ x, x ∈ trimL xs → x < 4294967296 := fun x h => hlt x (trimL_mem xs x h)
  have HT := hid hT
  have HTL := hid hTlt
  have HC := hid hcell
  clear hcell hT hlt h hTlt
  go_enter Tryz.func173, Tryz.ntmps173
  go_wp2
  go_loop [3] (fun t => ∃ k : Nat, t = .int .i64 k ∧ k ≤ xs.length ∧ trimL (xs.take k) = trimL xs) (fun t => (intOf t).toNat)
  case atStart => exact ⟨xs.length, rfl, Nat.le_refl _, by simp⟩
  case round =>
    obtain ⟨k, rfl, hk, ht⟩ := hrel
    have HK := hid ht
    clear ht
    by_cases hz : k ≠ 0 ∧ xs.getD (k - 1) 0 = 0
    · obtain ⟨m, rfl⟩ : ∃ m, k = m + 1 := ⟨k - 1, by omega⟩
      obtain ⟨b, off, rfl, _, _, hc1⟩ := HC.out m (by omega)
      have h0 := hz.2
      rw [show m + 1 - 1 = m from rfl] at h0
      rw [h0] at hc1
      have H0 := hid h0
      clear hz h0
      go_wp2
      refine ⟨⟨m, by go_num, by omega, ?_⟩, by simp [intOf]⟩
      rw [← HK.out, take_snoc xs 0 m (by omega), H0.out, trimL_snoc_zero]
    · have hcond : k = 0 ∨ ∃ m x b off, k = m + 1 ∧ x ≠ 0 ∧ xs.getD m 0 = x ∧ ad = some ⟨b, off, none⟩ ∧ w.cell? ⟨b, off + m, none⟩ = some (.int .u32 (x : Nat)) := by
        by_cases h0 : k = 0
        · exact .inl h0
        · obtain ⟨b, off, h1, _, _, hc1⟩ := HC.out (k - 1) (by omega)
          refine .inr ⟨k - 1, xs.getD (k - 1) 0, b, off, by omega, fun h => hz ⟨h0, h⟩, rfl, h1, hc1⟩
      have hk2 : trimL xs = xs.take k := by
        rw [← HK.out]
        rcases hcond with rfl | ⟨m, x, _, _, rfl, hx, hx2, _⟩
        · rfl
        · rw [take_snoc xs 0 m (by omega), hx2, trimL_snoc _ _ hx]
      have hlen : (trimL xs).length = k := by rw [hk2, List.length_take]; omega
      have HK2 := hid hk2
      have HLEN := hid hlen
      clear HK hk2 hlen hz
      rcases hcond with rfl | ⟨m, x, b, off, rfl, hx, hx2, rfl, hc1⟩
      · go_wp2_with (at_make; refine wpl_make_u32 elemNat rfl _ _ rfl w.heap.size _ _ _ _ 0 0 rfl rfl rfl rfl (Nat.le_refl _) (by decide) (Below.refl _ _) (Nat.le_refl _) ?_)
        intro w1 ho1 hb1 _
        go_wp2
        refine wp_loop_rounds 1 ?_
        rw [rounds_succ]
        go_wp2
        go_ret
        refine ⟨_, rfl, ?_, hb1⟩
        rw [← HT.out, HK2.out]
        exact (Limbs.ofOwn (xs := []) ho1 (by simp)).wide (Nat.le_refl _) (Nat.le_refl _)
      · have hxi : ((x : Int) == 0) = false := by rw [beq_eq_false_iff_ne]; omega
        have HX2 := hid hx2
        have HX := hid hx
        clear hx hx2
        go_wp2_with (at_make; refine wpl_make_u32 elemNat rfl _ _ rfl w.heap.size _ _ _ _ (m + 1) (m + 1) rfl rfl (by omega) (by omega) (Nat.le_refl _) (by omega) (Below.refl _ _) (Nat.le_refl _) ?_)
        intro w1 ho1 hb1 _
        clear hc1 hxi
        go_wp2
        go_loopw [5] (fun t wr => ∃ (i : Nat) (cur : List Nat), t = .int .i64 i ∧ i ≤ m + 1 ∧ wr.ownsRow w.heap.size 208 1 (.slice (some ⟨w.heap.size, 0, none⟩) (m + 1) (m + 1)) (m + 1) (u32s cur) ∧
            Below w.heap.size w wr ∧ cur.take i = xs.take i) (fun t _ => m + 1 - (intOf t).toNat)
        case atStart => exact ⟨0, _, rfl, Nat.zero_le _, ho1, hb1, rfl⟩
        case round =>
          obtain ⟨i, cur, rfl, hi, hown, hbel, hcur⟩ := hrel
          have HCUR := hid hcur
          clear hcur ho1 hb1
          by_cases hil : i < m + 1
          · obtain ⟨b', off', hba, _, _, hc1⟩ := HC.out i (by omega)
            simp only [Option.some.injEq, Addr.mk.injEq, and_true] at hba
            obtain ⟨rfl, rfl⟩ := hba
            obtain ⟨y, hy⟩ : ∃ y, y = xs.getD i 0 := ⟨_, rfl⟩
            rw [← hy] at hc1
            have d1 := cellB hbel hc1 (Nat.le_refl _)
            obtain ⟨c1, c2⟩ := own_u32 hown i hil
            have HY := hid hy
            have f1 : (i : Int) < (xs.length : Int) := by omega
            have f2 : (i : Int) < (m + 1 : Nat) := by omega
            clear hy hc1
            go_wp2
            have hs := own_set hown i y
            refine ⟨⟨i + 1, cur.set i y, by go_num, by omega, hs.1, hbel.setCell (by exact Nat.le_refl _) _, ?_⟩, by simp [intOf]; omega⟩
            have hcl := own_len hown
            rw [take_set_succ _ _ _ (by omega), HCUR.out, take_snoc xs 0 i (by omega), HY.out]
          · obtain rfl : i = m + 1 := by omega
            have hcl := own_len hown
            have he : trimL xs = cur := by rw [HK2.out, ← HCUR.out, List.take_of_length_le (by omega)]
            have HE := hid he
            clear he hcl
            go_wp2
            go_ret
            refine ⟨_, rfl, ?_, hbel⟩
            rw [← HT.out, HE.out]
            exact Limbs.ofOwn hown (by rw [← HE.out]; exact HTL.out)

set_option maxHeartbeats 400000 in
theorem of01_any (n : Nat) (w : World) (hn : n < 18446744073709551616) :
    Calls Tryz.prog 109 #[.int .u64 (n : Nat)] w fun e w' => ∃ r, e = .returned r ∧ Limbs w.heap.size w'.heap.size w' r (toL n) ∧ Below w.heap.size w w' := by
  have hv : natOf [n % 4294967296, n / 4294967296] = n := by simp only [natOf]; omega
  obtain ⟨a, ha⟩ : ∃ a, a = n % 4294967296 := ⟨_, rfl⟩
  obtain ⟨b, hb⟩ : ∃ b, b = n / 4294967296 := ⟨_, rfl⟩
  have ha2 : (n : Int) % 4294967296 = (a : Nat) := by omega
  have hb2 : (n : Int) / 4294967296 = (b : Nat) := by omega
  rw [← ha, ← hb] at hv
  have hal : a < 4294967296 := by omega
  have hbl : b < 4294967296 := by omega
  clear ha hb hn
  have HV := hid hv
  clear hv
  have hown : (w.alloc (.cells #[.int .u32 (a : Nat), .int .u32 (b : Nat)] 208)).ownsRow w.heap.size 208 1 (.slice (some ⟨w.heap.size, 0, none⟩) 2 2) 2 (u32s [a, b]) :=
    World.ownsRow_lit w _ 2 (Nat.le_refl _) (by decide) rfl
  have hb1 : Below w.heap.size w (w.alloc (.cells #[.int .u32 (a : Nat), .int .u32 (b : Nat)] 208)) := (Below.refl _ _).alloc (Nat.le_refl _) _
  have hL := Limbs.ofOwn hown (by intro x hx; simp at hx; rcases hx with rfl | rfl <;> assumption)
  have hN := norm01_any _ _ _ _ _ hL (by simp)
  rw [HV.out] at hN
  clear hown hL
  go_enter Tryz.func109, Tryz.ntmps109
  go_wp2_with (go_at_call 173; refine hN.mono ?_; rintro e w' ⟨r, rfl, hr, hb2⟩)
  go_ret
  exact ⟨_, rfl, hr.wide hb1.size (Nat.le_refl _), hb1.trans (hb2.mono hb1.size)⟩
end Go.Proofs.YtoijfckollafhaaGreat

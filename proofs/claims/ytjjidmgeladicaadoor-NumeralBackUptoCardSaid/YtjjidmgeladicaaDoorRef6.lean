/- simileref02's Norm, Sign, Neg, Of, Same, May. -/
import Derived.Test.YtjjidmgeladicaaDoorRef5
namespace Go.Proofs.YtjjidmgeladicaaDoor
open Go.RowKit

set_option maxHeartbeats 400000 in
theorem norm02_any (lo h1 : Nat) (neg : Bool) (v : Value) (xs : List Nat) (w : World) (h : Limbs lo h1 w v xs) (hhi : h1 ≤ w.heap.size) (hl : xs.length ≤ 4398046511104) :
    Calls Tryd.prog 24 #[.agg #[.bool neg, v]] w fun e w' => ∃ r, e = .returned (.agg #[.bool (neg && decide (natOf xs ≠ 0)), r]) ∧ Limbs w.heap.size w'.heap.size w' r (toL (natOf xs)) ∧ Below w.heap.size w w' := by
  obtain ⟨hb0, b0, b1, hsz⟩ := boxAB w #[.bool neg, v] #[.bool false, .slice none 0 0] 40 40
  have q1 := norm01_any _ _ _ _ _ (h.below hb0 hhi) (by omega)
  rw [toL_len_pos]
  revert q1
  generalize toL (natOf xs) = ys
  intro q1
  have Q1 := hid q1
  have HSZ := hid hsz
  clear q1 hsz
  go_enter Tryd.func24, Tryd.ntmps24
  go_wp2_with fail
  refine Q1.out.mono ?_
  rintro e w1 ⟨r1, rfl, hr1, hb1⟩
  obtain ⟨c0, c1, f0, f1⟩ := (b0.later hb1).two
  obtain ⟨d0, d1, g0, g1⟩ := (b1.later hb1).two
  have hb := hb0.trans (hb1.mono hb0.size)
  have hs := hb0.size
  clear Q1 hb1 hb0 b0 b1
  obtain ⟨ad, cap, rfl, hc, hn, hlt, hcell⟩ := hr1.open
  cases neg
  all_goals
    go_wp2
    refine bodyPost_ret (v := .agg #[.bool _, _]) (by simp [results, Tryd.results24, go_sem, d0, d1]; rfl) rfl ⟨_, rfl, ?_, ?_⟩
    · exact ((hr1.set _ _ (.inl (by simp))).set _ _ (.inl (by simp))).wide hs (by simp [World.setCell])
    · exact (hb.setCell (by simp) _).setCell (by simp) _

set_option maxHeartbeats 400000 in
theorem sign02_any (lo h1 : Nat) (neg : Bool) (v : Value) (xs : List Nat) (w : World) (h : Limbs lo h1 w v xs) (hhi : h1 ≤ w.heap.size) (hl : xs.length ≤ 4398046511104) :
    Calls Tryd.prog 54 #[.agg #[.bool neg, v]] w fun e w' => e = .returned (.int .i64 (if natOf xs = 0 then 0 else if neg then -1 else 1)) ∧ Below w.heap.size w w' := by
  obtain ⟨hb0, b0, hsz⟩ := boxA w #[.bool neg, v] 40
  have q1 := zero01_any _ _ _ _ _ (h.below hb0 hhi) (by omega)
  obtain ⟨z, hz⟩ : ∃ z, decide (natOf xs = 0) = z := ⟨_, rfl⟩
  have e : (if natOf xs = 0 then (0 : Int) else if neg then -1 else 1) = if z then 0 else if neg then -1 else 1 := by rw [← hz]; simp
  rw [hz] at q1
  rw [e]
  clear hz e
  have Q1 := hid q1
  clear q1
  go_enter Tryd.func54, Tryd.ntmps54
  go_wp2_with fail
  refine Q1.out.mono ?_
  rintro e w1 ⟨rfl, rfl⟩
  cases z <;> cases neg
  all_goals
    go_wp2
    go_ret
    exact ⟨rfl, hb0⟩

set_option maxHeartbeats 400000 in
theorem neg02_any (lo h1 : Nat) (neg : Bool) (v : Value) (xs : List Nat) (w : World) (h : Limbs lo h1 w v xs) (hhi : h1 ≤ w.heap.size) (hl : xs.length ≤ 4398046511104) :
    Calls Tryd.prog 55 #[.agg #[.bool neg, v]] w fun e w' => ∃ r, e = .returned (.agg #[.bool (!neg && decide (natOf xs ≠ 0)), r]) ∧ Limbs w.heap.size w'.heap.size w' r (toL (natOf xs)) ∧ Below w.heap.size w w' := by
  obtain ⟨hb0, b0, b1, hsz⟩ := boxAB w #[.bool neg, v] #[.bool false, .slice none 0 0] 40 40
  have q1 := norm02_any lo h1 (!neg) v xs _ (h.below hb0 hhi) (by omega) hl
  obtain ⟨ad, cap, rfl⟩ := h.shape
  have Q1 := hid q1
  have HSZ := hid hsz
  clear q1 hsz
  go_enter Tryd.func55, Tryd.ntmps55
  go_wp2_with fail
  refine Q1.out.mono ?_
  rintro e w1 ⟨r1, rfl, hr1, hb1⟩
  obtain ⟨ad2, cap2, rfl⟩ := hr1.shape
  obtain ⟨d0, d1, g0, g1⟩ := (b1.later hb1).two
  have hb := hb0.trans (hb1.mono hb0.size)
  have hs := hb0.size
  clear Q1 hb1 hb0 b0 b1
  go_wp2
  refine bodyPost_ret (v := .agg #[.bool _, _]) (by simp [results, Tryd.results55, go_sem, d0, d1]; rfl) rfl ⟨_, rfl, ?_, ?_⟩
  · exact ((hr1.set _ _ (.inl (by simp))).set _ _ (.inl (by simp))).wide hs (by simp [World.setCell])
  · exact (hb.setCell (by simp) _).setCell (by simp) _

set_option maxHeartbeats 400000 in
theorem of02_any (neg : Bool) (n : Nat) (w : World) (hn : n < 18446744073709551616) :
    Calls Tryd.prog 35 #[.bool neg, .int .u64 (n : Nat)] w fun e w' => ∃ r, e = .returned (.agg #[.bool (neg && decide (n ≠ 0)), r]) ∧ Limbs w.heap.size w'.heap.size w' r (toL n) ∧ Below w.heap.size w w' := by
  obtain ⟨hb0, b0, hsz⟩ := boxA w #[.bool false, .slice none 0 0] 40
  have Q1 := hid (of01_any n (w.alloc (.cells #[.bool false, .slice none 0 0] 40)) hn)
  have hln : (toL n).length ≤ 2 := toL_len_le n 2 (by simpa using hn)
  clear hsz hn
  go_enter Tryd.func35, Tryd.ntmps35
  go_wp2_with fail
  refine Q1.out.mono ?_
  rintro e w1 ⟨r1, rfl, hr1, hb1⟩
  have q2 := norm02_any _ _ neg r1 _ w1 hr1 (Nat.le_refl _) (by omega)
  rw [natOf_toL] at q2
  obtain ⟨ad, cap, rfl⟩ := hr1.shape
  have Q2 := hid q2
  clear q2
  go_wp2_with fail
  refine Q2.out.mono ?_
  rintro e w2 ⟨r2, rfl, hr2, hb2⟩
  obtain ⟨ad2, cap2, rfl⟩ := hr2.shape
  obtain ⟨d0, d1, g0, g1⟩ := ((b0.later hb1).later hb2).two
  have hs1 := hb1.size
  have hs0 := hb0.size
  have hb := (hb0.trans (hb1.mono hb0.size)).trans (hb2.mono (Nat.le_trans hs0 hs1))
  clear Q1 hb1 hb0 b0 Q2 hb2
  go_wp2
  refine bodyPost_ret (v := .agg #[.bool _, _]) (by simp [results, Tryd.results35, go_sem, d0, d1]; rfl) rfl ⟨_, rfl, ?_, ?_⟩
  · exact ((hr2.set _ _ (.inl (by simp at hs1; simp; omega))).set _ _ (.inl (by simp at hs1; simp; omega))).wide (Nat.le_trans hs0 hs1) (by simp [World.setCell])
  · exact (hb.setCell (by simp) _).setCell (by simp) _

set_option maxHeartbeats 400000 in
theorem same02_any (lo h1 lo2 h2 : Nat) (n1 n2 : Bool) (v v2 : Value) (xs ys : List Nat) (w : World) (h : Limbs lo h1 w v xs) (hhi : h1 ≤ w.heap.size) (hl : xs.length ≤ 4398046511104) (h' : Limbs lo2 h2 w v2 ys) (hhi2 : h2 ≤ w.heap.size) :
    Calls Tryd.prog 23 #[.agg #[.bool n1, v], .agg #[.bool n2, v2]] w fun e w' => e = .returned (.bool (decide (n1 = n2 ∧ xs = ys))) ∧ Below w.heap.size w w' := by
  obtain ⟨hb0, b0, b1, hsz⟩ := boxAB w #[.bool n1, v] #[.bool n2, v2] 40 40
  by_cases hn : n1 = n2
  · subst hn
    have q1 := same01_any _ _ _ _ _ _ _ _ _ (h.below hb0 hhi) (h'.below hb0 hhi2) (by omega)
    have e : decide (n1 = n1 ∧ xs = ys) = decide (xs = ys) := by simp
    rw [e]
    revert q1
    generalize decide (xs = ys) = b
    intro q1
    have Q1 := hid q1
    clear q1 hsz e
    go_enter Tryd.func23, Tryd.ntmps23
    go_wp2_with fail
    refine Q1.out.mono ?_
    rintro e w1 ⟨rfl, hb1⟩
    go_wp2
    go_ret
    exact ⟨rfl, hb0.trans (hb1.mono hb0.size)⟩
  · have e : decide (n1 = n2 ∧ xs = ys) = false := by simp [hn]
    rw [e]
    have hn' : (n1 == n2) = false := by simpa using hn
    clear e hn hsz
    cases n1 <;> cases n2
    all_goals first
      | (simp at hn'; done)
      | (go_enter Tryd.func23, Tryd.ntmps23
         go_wp2
         go_ret
         exact ⟨rfl, hb0⟩)
end Go.Proofs.YtjjidmgeladicaaDoor

/- numeral.Int, numeral.Frac; the law's num, same. -/
import Derived.Test.YtjjidmgeladicaaDoorPlain
namespace Go.Proofs.YtjjidmgeladicaaDoor
open Go.RowKit

set_option maxHeartbeats 800000 in
theorem frac_any (s : ByteArray) (w : World) (hs : s.size ≤ 1000000000) :
    Calls Tryd.prog 12 #[.string s] w fun e w' => Below w.heap.size w w' ∧ FracSays w w' e (readF true (runesOf s)) := by
  obtain ⟨hb0, b0, hsz⟩ := boxA w #[.bool false, .slice none 0 0, .bool false, .slice none 0 0] 42
  have q0 := read_any s true (w.alloc (.cells #[.bool false, .slice none 0 0, .bool false, .slice none 0 0] 42)) hs
  obtain ⟨⟨ng, N, M, cd⟩, hx⟩ : ∃ x, readF true (runesOf s) = x := ⟨_, rfl⟩
  rw [hx] at q0
  have q1 := hid q0
  have HX := hid hx
  clear q0 hx
  go_enter Tryd.func12, Tryd.ntmps12
  go_wp2_with fail
  refine q1.out.mono ?_
  rintro e w1 ⟨hb1, q, p, rfl, hq, hp⟩
  obtain ⟨⟨d0, d1, d2, d3⟩, g0, g1, g2, g3⟩ := (b0.later hb1).four
  obtain ⟨ad, cap, rfl⟩ := hq.shape
  obtain ⟨ad2, cap2, rfl⟩ := hp.shape
  have hbel := hb0.trans (hb1.mono hb0.size)
  have hlt : w.heap.size < (w.alloc (.cells #[.bool false, .slice none 0 0, .bool false, .slice none 0 0] 42)).heap.size := by omega
  have hk : ∀ v xs, Limbs (w.alloc (.cells #[.bool false, .slice none 0 0, .bool false, .slice none 0 0] 42)).heap.size w1.heap.size w1 v xs → ∀ (a b c d : Value), Limbs w.heap.size ((((w1.setCell ⟨w.heap.size, 0, none⟩ a).setCell ⟨w.heap.size, 1, none⟩ b).setCell ⟨w.heap.size, 2, none⟩ c).setCell ⟨w.heap.size, 3, none⟩ d).heap.size ((((w1.setCell ⟨w.heap.size, 0, none⟩ a).setCell ⟨w.heap.size, 1, none⟩ b).setCell ⟨w.heap.size, 2, none⟩ c).setCell ⟨w.heap.size, 3, none⟩ d) v xs := fun v xs h a b c d =>
    ((((h.set _ _ (.inl hlt)).set _ _ (.inl hlt)).set _ _ (.inl hlt)).set _ _ (.inl hlt)).wide hb0.size (by simp [World.setCell])
  have HK := hid hk
  clear q1 hb1 b0 hsz hk
  go_wp2
  refine bodyPost_ret (v := .tuple #[.agg #[.bool ng, .slice ad (toL N).length cap, .bool false, .slice ad2 (toL M).length cap2], .int .i64 (cd : Nat)]) (by simp [results, Tryd.results12, go_sem, d0, d1, d2, d3]) rfl ?_
  rw [HX.out]
  exact ⟨(((hbel.setCell (by simp) _).setCell (by simp) _).setCell (by simp) _).setCell (by simp) _, _, _, rfl, HK.out _ _ hq _ _ _ _, HK.out _ _ hp _ _ _ _⟩

set_option maxHeartbeats 800000 in
theorem int_any (s : ByteArray) (w : World) (hs : s.size ≤ 1000000000) :
    Calls Tryd.prog 21 #[.string s] w fun e w' => Below w.heap.size w w' ∧ IntSays w w' e ((readF false (runesOf s)).1, (readF false (runesOf s)).2.1, (readF false (runesOf s)).2.2.2) := by
  obtain ⟨hb0, b0, hsz⟩ := boxA w #[.bool false, .slice none 0 0] 40
  have q0 := read_any s false (w.alloc (.cells #[.bool false, .slice none 0 0] 40)) hs
  obtain ⟨⟨ng, N, M, cd⟩, hx⟩ : ∃ x, readF false (runesOf s) = x := ⟨_, rfl⟩
  rw [hx] at q0
  have q1 := hid q0
  have HX := hid hx
  clear q0 hx
  go_enter Tryd.func21, Tryd.ntmps21
  go_wp2_with fail
  refine q1.out.mono ?_
  rintro e w1 ⟨hb1, q, p, rfl, hq, hp⟩
  obtain ⟨ad, cap, rfl⟩ := hq.shape
  obtain ⟨ad2, cap2, rfl⟩ := hp.shape
  have hnew := (b0.later hb1).alloc (.cells #[.bool ng, .slice ad (toL N).length cap, .bool false, .slice ad2 (toL M).length cap2] 42)
  obtain ⟨d0, d1, g0, g1⟩ := hnew.two
  have hbel := (hb0.trans (hb1.mono hb0.size)).alloc (Nat.le_trans (by omega) hb1.size) (.cells #[.bool ng, .slice ad (toL N).length cap, .bool false, .slice ad2 (toL M).length cap2] 42)
  have hbx := BoxIs.new w1 #[.bool ng, .slice ad (toL N).length cap, .bool false, .slice ad2 (toL M).length cap2] 42
  obtain ⟨⟨c0, c1, c2, c3⟩, f0, f1, f2, f3⟩ := hbx.four
  have hlt : w.heap.size < (w.alloc (.cells #[.bool false, .slice none 0 0] 40)).heap.size := by omega
  have hs1 := hb1.size
  have hq9 := hq.below ((Below.refl w1.heap.size w1).alloc (Nat.le_refl _) (.cells #[.bool ng, .slice ad (toL N).length cap, .bool false, .slice ad2 (toL M).length cap2] 42)) (Nat.le_refl _)
  have HQ := hid (((hq9.set ⟨w.heap.size, 0, none⟩ (.bool ng) (.inl hlt)).set ⟨w.heap.size, 1, none⟩ (.slice ad (toL N).length cap) (.inl hlt)).wide hb0.size (Nat.le_succ _))
  clear q1 hb1 b0 hsz hnew hbx hq hp hq9
  go_wp2
  refine bodyPost_ret (v := .tuple #[.agg #[.bool ng, .slice ad (toL N).length cap], .int .i64 (cd : Nat)]) (by simp [results, Tryd.results21, go_sem, d0, d1]) rfl ?_
  rw [HX.out]
  refine ⟨(hbel.setCell (by simp) _).setCell (by simp) _, _, rfl, ?_⟩
  simpa [World.setCell] using HQ.out

theorem num_any (n : Int) (w : World) : Calls Tryd.prog 13 #[.int .i64 n] w fun e w' => e = .returned (.int .i64 n) ∧ w = w' := by
  go_enter Tryd.func13, Tryd.ntmps13
  go_wp2
  go_ret
  exact ⟨rfl, rfl⟩

/-- a fraction with its limbs -/
def IsFrac (lo hi : Nat) (w : World) (v : Value) (x : Bool × List Nat × Bool × List Nat) : Prop :=
  ∃ q p, v = .agg #[.bool x.1, q, .bool x.2.2.1, p] ∧ Limbs lo hi w q x.2.1 ∧ Limbs lo hi w p x.2.2.2

set_option maxHeartbeats 800000 in
theorem sameL_any (lo h1 lo2 h2 : Nat) (v v2 : Value) (x y : Bool × List Nat × Bool × List Nat) (w : World) (h : IsFrac lo h1 w v x) (hhi : h1 ≤ w.heap.size) (hl : x.2.1.length ≤ 4398046511104 ∧ x.2.2.2.length ≤ 4398046511104) (h' : IsFrac lo2 h2 w v2 y) (hhi2 : h2 ≤ w.heap.size) :
    Calls Tryd.prog 36 #[v, v2] w fun e w' => e = .returned (.bool (decide (x = y))) ∧ Below w.heap.size w w' := by
  obtain ⟨a, xs, b, ys⟩ := x
  obtain ⟨a', xs', b', ys'⟩ := y
  obtain ⟨q, p, rfl, hq, hp⟩ := h
  obtain ⟨q', p', rfl, hq', hp'⟩ := h'
  dsimp only at hq hp hq' hp' hl ⊢
  obtain ⟨hb0, b0, b1, hsz⟩ := boxAB w #[.bool a, q, .bool b, p] #[.bool a', q', .bool b', p'] 42 42
  have q1 := hid (same02_any _ _ _ _ a a' _ _ _ _ _ (hq.below hb0 hhi) (by omega) hl.1 (hq'.below hb0 hhi2) (by omega))
  have hs0 := hb0.size
  have q2 := hid fun w1 (hb1 : Below ((w.alloc (.cells #[.bool a, q, .bool b, p] 42)).alloc (.cells #[.bool a', q', .bool b', p'] 42)).heap.size ((w.alloc (.cells #[.bool a, q, .bool b, p] 42)).alloc (.cells #[.bool a', q', .bool b', p'] 42)) w1) => same02_any _ _ _ _ b b' _ _ _ _ w1 ((hp.below hb0 hhi).below hb1 (by omega)) (Nat.le_trans (by omega) hb1.size) hl.2 ((hp'.below hb0 hhi2).below hb1 (by omega)) (Nat.le_trans (by omega) hb1.size)
  have hdec : decide ((a, xs, b, ys) = (a', xs', b', ys')) = (decide (a = a' ∧ xs = xs') && decide (b = b' ∧ ys = ys')) := by
    rw [Bool.eq_iff_iff]
    simp [and_assoc]
  rw [hdec]
  obtain ⟨t, ht⟩ : ∃ t, decide (a = a' ∧ xs = xs') = t := ⟨_, rfl⟩
  obtain ⟨u, hu⟩ : ∃ u, decide (b = b' ∧ ys = ys') = u := ⟨_, rfl⟩
  rw [ht] at q1
  rw [hu] at q2
  rw [ht, hu]
  obtain ⟨⟨c0, c1, c2, c3⟩, f0, f1, f2, f3⟩ := b0.four
  obtain ⟨⟨d0, d1, d2, d3⟩, g0, g1, g2, g3⟩ := b1.four
  clear ht hu hdec
  go_enter Tryd.func36, Tryd.ntmps36
  go_wp2_with fail
  refine q1.out.mono ?_
  rintro e w1 ⟨rfl, hb1⟩
  have hbel := hb0.trans (hb1.mono hb0.size)
  have b01 := b0.later hb1
  have b11 := b1.later hb1
  have Q2 := hid (q2.out w1 hb1)
  clear q1 q2 b0 b1 hb0 hb1 c0 c1 c2 c3 f0 f1 f2 f3 d0 d1 d2 d3 g0 g1 g2 g3
  obtain ⟨⟨c0, c1, c2, c3⟩, f0, f1, f2, f3⟩ := b01.four
  obtain ⟨⟨d0, d1, d2, d3⟩, g0, g1, g2, g3⟩ := b11.four
  cases t
  · go_wp2
    go_ret
    exact ⟨rfl, hbel⟩
  · go_wp2_with fail
    refine Q2.out.mono ?_
    rintro e w2 ⟨rfl, hb2⟩
    have hbel2 := hbel.trans (hb2.mono hbel.size)
    go_wp2
    go_ret
    exact ⟨by simp, hbel2⟩

end Go.Proofs.YtjjidmgeladicaaDoor

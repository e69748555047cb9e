/- the law's awake: the examples of the document. -/
import Derived.Test.YtjjidmgeladicaaDoorLaw1
namespace Go.Proofs.YtjjidmgeladicaaDoor
open Go.RowKit

theorem based255 : strOf (intS 16 (true && decide (255 ≠ 0)) 255) = ⟨#[45, 102, 102]⟩ := by
  have h : dig0 16 255 = [15, 15] := by
    rw [dig0_pos 16 255 (by decide) (by decide), show (255 : Nat) / 16 = 15 from rfl, dig0_pos 16 15 (by decide) (by decide), show (15 : Nat) / 16 = 0 from rfl, dig0_zero]
    rfl
  unfold intS digS
  rw [h]
  rfl

theorem plainEx : txt ((runesOf ⟨#[226, 136, 146, 49, 226, 129, 132, 50, 194, 160, 120]⟩).map plainR) = ⟨#[45, 49, 47, 50, 32, 120]⟩ := by
  have h : runesOf ⟨#[226, 136, 146, 49, 226, 129, 132, 50, 194, 160, 120]⟩ = [8722, 49, 8260, 50, 160, 120] := by decide
  rw [h]
  rfl

set_option maxHeartbeats 1600000 in
theorem awake_any (w : World) : Calls Tryd.prog 9 #[] w fun e w' => e = .returned (.bool true) ∧ Below w.heap.size w w' := by
  have q1 := frac_any ⟨#[54, 47, 52]⟩ w (by decide)
  rw [show readF true (runesOf ⟨#[54, 47, 52]⟩) = (false, 6, 4, 0) by decide] at q1
  have Q1 := hid q1
  clear q1
  go_enter Tryd.func9, Tryd.ntmps9
  go_wp2_with fail
  refine Q1.out.mono ?_
  rintro e w1 ⟨hb1, q, p, rfl, hq, hp⟩
  obtain ⟨ad, cap, rfl⟩ := hq.shape
  obtain ⟨ad2, cap2, rfl⟩ := hp.shape
  dsimp only at hq hp ⊢
  have hbx := BoxIs.new w1 #[.bool false, .slice ad (toL 6).length cap, .bool false, .slice ad2 (toL 4).length cap2] 42
  have hb2 := hb1.alloc hb1.size (.cells #[.bool false, .slice ad (toL 6).length cap, .bool false, .slice ad2 (toL 4).length cap2] 42)
  have hq2 := hq.below ((Below.refl w1.heap.size w1).alloc (Nat.le_refl _) (.cells #[.bool false, .slice ad (toL 6).length cap, .bool false, .slice ad2 (toL 4).length cap2] 42)) (Nat.le_refl _)
  have hp2 := hp.below ((Below.refl w1.heap.size w1).alloc (Nat.le_refl _) (.cells #[.bool false, .slice ad (toL 6).length cap, .bool false, .slice ad2 (toL 4).length cap2] 42)) (Nat.le_refl _)
  have Q2 := hid (of02_any true 255 (w1.alloc (.cells #[.bool false, .slice ad (toL 6).length cap, .bool false, .slice ad2 (toL 4).length cap2] 42)) (by decide))
  have hs2 : w1.heap.size + 1 = (w1.alloc (.cells #[.bool false, .slice ad (toL 6).length cap, .bool false, .slice ad2 (toL 4).length cap2] 42)).heap.size := by simp
  clear Q1 hq hp hb1
  go_wp2_with fail
  refine Q2.out.mono ?_
  rintro e w2 ⟨r, rfl, hr, hb3⟩
  have hl255 : (toL 255).length ≤ 1099511627776 := Nat.le_trans (toL_len_le 255 1 (by decide)) (by omega)
  have q3 := based_any _ _ (true && decide (255 ≠ 0)) r _ 16 w2 hr (Nat.le_refl _) hl255 (by decide) (by decide)
  rw [natOf_toL, based255] at q3
  have Q3 := hid q3
  have bx2 := hbx.later hb3
  obtain ⟨adr, capr, rfl⟩ := hr.shape
  clear Q2 q3 hl255 hbx
  go_wp2_with fail
  refine Q3.out.mono ?_
  rintro e w3 ⟨rfl, hb4⟩
  have bx3 : BoxIs w3.drew w1.heap.size 42 [.bool false, .slice ad (toL 6).length cap, .bool false, .slice ad2 (toL 4).length cap2] := bx2.later hb4.drew
  have hs3 := hb3.size
  have hs4 := hb4.size
  rw [← hs2] at hs3
  have hbel := ((hb2.trans (hb3.mono hb2.size)).trans (hb4.mono (Nat.le_trans hb2.size hb3.size))).drew
  have hq3 := (hq2.below hb3 (by omega)).below hb4.drew (by omega)
  have hp3 := (hp2.below hb3 (by omega)).below hb4.drew (by omega)
  clear Q3 hb2 hb3 hb4 hr hq2 hp2 bx2
  have hw3 : w1.heap.size + 1 ≤ w3.drew.heap.size := Nat.le_trans (by omega) hs4
  obtain ⟨⟨c0, c1, c2, c3⟩, f0, f1, f2, f3⟩ := bx3.four
  have QO6 : Hid (∀ w, Calls Tryd.prog 35 #[.bool false, .int .u64 6] w fun e w' => ∃ r, e = .returned (.agg #[.bool false, r]) ∧ Limbs w.heap.size w'.heap.size w' r (toL 6) ∧ Below w.heap.size w w') := fun w => of02_any false 6 w (by decide)
  have QO4 : Hid (∀ w, Calls Tryd.prog 35 #[.bool false, .int .u64 4] w fun e w' => ∃ r, e = .returned (.agg #[.bool false, r]) ∧ Limbs w.heap.size w'.heap.size w' r (toL 4) ∧ Below w.heap.size w w') := fun w => of02_any false 4 w (by decide)
  have QS := hid fun (W : World) (r6 r4 : Value) (hb : Below w3.drew.heap.size w3.drew W) (hr6 : Limbs w3.drew.heap.size W.heap.size W r6 (toL 6)) (hr4 : Limbs w3.drew.heap.size W.heap.size W r4 (toL 4)) =>
    sameL_any w.heap.size w1.heap.size w3.drew.heap.size W.heap.size (.agg #[.bool false, .slice ad (toL 6).length cap, .bool false, .slice ad2 (toL 4).length cap2]) (.agg #[.bool false, r6, .bool false, r4]) (false, toL 6, false, toL 4) (false, toL 6, false, toL 4) W
      ⟨_, _, rfl, hq3.below hb (by omega), hp3.below hb (by omega)⟩ (Nat.le_trans (by omega) hb.size) ⟨Nat.le_trans (toL_len_le 6 1 (by decide)) (by omega), Nat.le_trans (toL_len_le 4 1 (by decide)) (by omega)⟩ ⟨_, _, rfl, hr6, hr4⟩ (Nat.le_refl _)
  have QP : Hid (∀ w, Calls Tryd.prog 37 #[.string ⟨#[226, 136, 146, 49, 226, 129, 132, 50, 194, 160, 120]⟩] w fun e w' => Below w.heap.size w w' ∧ e = .returned (.string ⟨#[45, 49, 47, 50, 32, 120]⟩)) := by
    intro w
    have h := plain_any ⟨#[226, 136, 146, 49, 226, 129, 132, 50, 194, 160, 120]⟩ w (by decide)
    rw [plainEx] at h
    exact h
  have HW3 := hid hbel
  have BX3 := hid bx3
  clear hq3 hp3 hbel bx3
  go_wp2_with fail
  go_region_with (first
    | (go_at_call 13; refine (num_any _ _).mono ?_; rintro e w' ⟨rfl, rfl⟩)
    | (go_at_call 35; have hmark := hb6; clear hmark; refine (QO4.out _).mono ?_; rintro e w4 ⟨r4, rfl, hr4, hb4⟩; obtain ⟨⟨c0', c1', c2', c3'⟩, f0', f1', f2', f3'⟩ := ((BX3.out.later hb6).later hb4).four)
    | (go_at_call 35; refine (QO6.out _).mono ?_; rintro e w6 ⟨r6, rfl, hr6, hb6⟩; obtain ⟨⟨c0', c1', c2', c3'⟩, f0', f1', f2', f3'⟩ := (BX3.out.later hb6).four)
    | (go_at_call 36; refine (QS.out _ r6 r4 (hb6.trans (hb4.mono hb6.size)) ((hr6.below hb4 (Nat.le_refl _)).wide (Nat.le_refl _) hb4.size) (hr4.wide hb6.size (Nat.le_refl _))).mono ?_; rintro e w5 ⟨rfl, hb5⟩)
    | (go_at_call 37; refine (QP.out _).mono ?_; rintro e w8 ⟨hb8, rfl⟩))
  all_goals
    have hA := HW3.out.trans (hb6.mono HW3.out.size)
    have hB := hA.trans (hb4.mono hA.size)
    have hC := hB.trans (hb5.mono hB.size)
    have hD := hC.trans (hb8.mono hC.size)
    clear hA hB hC
    first
      | (go_ret; exact ⟨rfl, hD⟩)
      | (go_wp2; go_ret; exact ⟨rfl, hD⟩)
end Go.Proofs.YtjjidmgeladicaaDoor

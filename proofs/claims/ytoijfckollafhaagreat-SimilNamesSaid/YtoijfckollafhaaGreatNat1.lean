/- nat.trim, nat.own, nat.Norm: what they hand back, at every slice. -/
import Derived.Test.YtoijfckollafhaaGreatBase
namespace Go.Proofs.YtoijfckollafhaaGreat
open Go.RowKit

set_option maxHeartbeats 400000 in
theorem trim_any (lo hi : Nat) (v : Value) (xs : List Nat) (w : World) (h : Limbs lo hi w v xs) (hl : xs.length ≤ 140737488355328) :
    Calls Tryz.prog 223 #[v] w fun e w' => ∃ r, e = .returned r ∧ Limbs lo hi w r (trimL xs) ∧ w = w' := by
  have h0 := h
  obtain ⟨ad, cap, rfl, hc, _, hx, hne⟩ := h
  go_enter Tryz.func223, Tryz.ntmps223
  go_wp2
  go_loop [0] (fun t => ∃ k : Nat, t = .slice ad k cap ∧ k ≤ xs.length ∧ trimL (xs.take k) = trimL xs) (fun t => match t with | .slice _ k _ => k | _ => 0)
  case atStart => exact ⟨xs.length, rfl, Nat.le_refl _, by simp⟩
  case round =>
    obtain ⟨k, rfl, hk, ht⟩ := hrel
    have HT := hid ht
    clear ht
    cases k with
    | zero => 
      go_wp2
      go_ret
      exact ⟨_, rfl, by rw [← HT.out]; exact h0.pre 0 (Nat.zero_le _), rfl⟩
    | succ m =>
      obtain ⟨b, off, rfl, hlo, hhi, hcell, _⟩ := hne (by intro h; subst h; simp at hk)
      have hcm := hcell m (by omega)
      clear hcell
      go_wp2
      · have h1 : ((xs[m]?.getD 0 : Nat) == (0 : Int)) = true := by assumption
        refine ⟨⟨m, rfl, by omega, ?_⟩, by simp⟩
        rw [← HT.out, take_snoc xs 0 m (by omega), List.getD_eq_getElem?_getD, show xs[m]?.getD 0 = 0 from by simpa using h1, trimL_snoc_zero]
      · have h1 : ((xs[m]?.getD 0 : Nat) == (0 : Int)) = false := by assumption
        go_ret
        refine ⟨_, rfl, ?_, rfl⟩
        have e : trimL xs = xs.take (m + 1) := by
          rw [← HT.out, take_snoc xs 0 m (by omega), List.getD_eq_getElem?_getD, trimL_snoc _ _ (by simpa using h1)]
        rw [e]
        exact h0.pre (m + 1) hk

theorem elemNat : Elem Tryz.prog 29 208 (.int .u32 0) 1 4 :=
  ⟨Tryz.underlying29, by kernel_rfl, rfl, by decide⟩

set_option maxHeartbeats 400000 in
theorem own_own (lo hi : Nat) (v : Value) (xs : List Nat) (w : World) (h : Limbs lo hi w v xs) (hl : xs.length ≤ 35184372088832) :
    Calls Tryz.prog 238 #[v] w fun e w' => ∃ r, e = .returned r ∧ w'.ownsRow w.heap.size 208 1 r (trimL xs).length (u32s (trimL xs)) ∧ (∀ x, x ∈ trimL xs → x < 4294967296) ∧ Below w.heap.size w w' := by
  have hle := trimL_le xs
  have hcall := trim_any lo hi v xs w h (by omega)
  revert hle hcall
  generalize trimL xs = ys
  intro hle hcall
  go_enter Tryz.func238, Tryz.ntmps238
  go_wp2_with fail
  refine hcall.mono ?_
  rintro e w' ⟨r, rfl, hr, rfl⟩
  clear hcall h
  obtain ⟨ad, cap, rfl, hc, _, hx, hne⟩ := hr
  by_cases hy : ys = []
  · subst hy
    go_wp2
    go_ret
    exact ⟨_, rfl, World.ownsRow_nil _ _ _ _, by simp, Below.refl _ _⟩
  · have hpos : 0 < ys.length := List.length_pos_iff.2 hy
    obtain ⟨b, off, rfl, hlo, hhi, hcell, _⟩ := hne hy
    clear hne
    have hml : ys.length ≤ maxLen := by unfold maxLen; omega
    have H := hid hcell
    clear hcell
    go_wp2_with (at_make; refine wpl_make elemNat rfl _ _ rfl w.heap.size _ _ _ _ ys.length ys.length rfl rfl rfl rfl (Nat.le_refl _) (by omega) hml (Below.refl _ _) (Nat.le_refl _) ?_)
    intro w1 ho1 hb1 _
    go_wp2_with (with_reducible refine wpl_copy_all elemNat rfl _ _ _ rfl w.heap.size w.heap.size ys.length ys.length cap ⟨b, off, none⟩ _ (u32s ys) rfl rfl ho1 (by simp [u32s]) ?c1 (u32s_one _) hb1 ?_)
    case c1 =>
      intro j v hj
      have hjl : j < ys.length := by
        have := (List.getElem?_eq_some_iff.1 hj).1
        simpa [u32s] using this
      have hc1 := H.out j hjl
      have hlt := World.block_lt_of_cell? w _ hc1
      rw [Addr.add_lit, hb1.cell (by exact hlt), hc1]
      rw [← hj]
      simp [u32s, List.getD_eq_getElem?_getD, hjl]
    intro w2 ho2 hb2 _
    go_wp2
    go_ret
    exact ⟨_, rfl, ho2, hx, hb2⟩

theorem own_any (lo hi : Nat) (v : Value) (xs : List Nat) (w : World) (h : Limbs lo hi w v xs) (hl : xs.length ≤ 35184372088832) :
    Calls Tryz.prog 238 #[v] w fun e w' => ∃ r, e = .returned r ∧ Limbs w.heap.size w'.heap.size w' r (trimL xs) ∧ Below w.heap.size w w' :=
  (own_own lo hi v xs w h hl).mono fun _ _ ⟨r, h1, h2, h3, h4⟩ => ⟨r, h1, Limbs.ofOwn h2 h3, h4⟩

set_option maxHeartbeats 400000 in
theorem norm_own (lo hi : Nat) (v : Value) (xs : List Nat) (w : World) (h : Limbs lo hi w v xs) (hl : xs.length ≤ 35184372088832) :
    Calls Tryz.prog 257 #[v] w fun e w' => ∃ r, e = .returned r ∧ w'.ownsRow w.heap.size 208 1 r (trimL xs).length (u32s (trimL xs)) ∧ (∀ x, x ∈ trimL xs → x < 4294967296) ∧ Below w.heap.size w w' := by
  have hcall := own_own lo hi v xs w h hl
  clear h hl
  go_enter Tryz.func257, Tryz.ntmps257
  go_wp2_with fail
  refine hcall.mono ?_
  rintro e w' ⟨r, rfl, hr, hx, hb⟩
  clear hcall
  go_wp2
  go_ret
  exact ⟨_, rfl, hr, hx, hb⟩

theorem norm_any (lo hi : Nat) (v : Value) (xs : List Nat) (w : World) (h : Limbs lo hi w v xs) (hl : xs.length ≤ 35184372088832) :
    Calls Tryz.prog 257 #[v] w fun e w' => ∃ r, e = .returned r ∧ Limbs w.heap.size w'.heap.size w' r (trimL xs) ∧ Below w.heap.size w w' :=
  (norm_own lo hi v xs w h hl).mono fun _ _ ⟨r, h1, h2, h3, h4⟩ => ⟨r, h1, Limbs.ofOwn h2 h3, h4⟩

end Go.Proofs.YtoijfckollafhaaGreat

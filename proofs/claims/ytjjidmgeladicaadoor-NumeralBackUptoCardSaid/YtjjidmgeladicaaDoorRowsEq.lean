/- similelaw02.rows, of two rows that are the same. -/
import Derived.Test.YtjjidmgeladicaaDoorPlainLaw
namespace Go.Proofs.YtjjidmgeladicaaDoor
open Go.RowKit

theorem sameX_true (lo h1 lo2 h2 : Nat) (v v2 : Value) (x : Bool × List Nat × Bool × List Nat) (w : World) (h : IsFrac lo h1 w v x) (hhi : h1 ≤ w.heap.size) (hl : x.2.1.length ≤ 4398046511104 ∧ x.2.2.2.length ≤ 4398046511104) (h' : IsFrac lo2 h2 w v2 x) (hhi2 : h2 ≤ w.heap.size) :
    Calls Tryd.prog 36 #[v, v2] w fun e w' => e = .returned (.bool true) ∧ Below w.heap.size w w' := by
  have := sameL_any lo h1 lo2 h2 v v2 x x w h hhi hl h' hhi2
  simpa using this

theorem Fracs.len {lo hi : Nat} {w : World} {v : Value} {l : List (Bool × List Nat × Bool × List Nat)} (h : Fracs lo hi w v l) (k : Nat) (hk : k < l.length) : ∃ b off cap, v = .slice (some ⟨b, off, none⟩) l.length cap ∧ l.length ≤ cap := by
  obtain ⟨b, off, cap, q, p, hv, hc, _⟩ := h.at k _ (List.getElem?_eq_getElem hk)
  exact ⟨b, off, cap, hv, hc⟩

set_option maxHeartbeats 3200000 in
theorem rows_true (lo h1 lo2 h2 : Nat) (v v2 : Value) (l : List (Bool × List Nat × Bool × List Nat)) (w : World) (h : Fracs lo h1 w v l) (hh1 : h1 ≤ w.heap.size) (h' : Fracs lo2 h2 w v2 l) (hh2 : h2 ≤ w.heap.size)
    (hl : l.length ≤ 1000000000) (hb : ∀ x, x ∈ l → x.2.1.length ≤ 4398046511104 ∧ x.2.2.2.length ≤ 4398046511104) :
    Calls Tryd.prog 15 #[v, v2] w fun e w' => e = .returned (.bool true) ∧ Below w.heap.size w w' := by
  obtain ⟨ad, cap, rfl⟩ := RowOf.shape h
  obtain ⟨ad2, cap2, rfl⟩ := RowOf.shape h'
  have HH := hid h
  have HH' := hid h'
  have HB := hid hb
  clear h h' hb
  go_enter Tryd.func15, Tryd.ntmps15
  go_wp2
  go_loopw [13] (fun t wr => ∃ k : Nat, t = .int .i64 k ∧ k ≤ l.length ∧ Below w.heap.size w wr) (fun t _ => l.length - (intOf t).toNat)
  case atStart => exact ⟨0, rfl, Nat.zero_le _, Below.refl _ _⟩
  case round =>
    obtain ⟨k, rfl, hk, hbel⟩ := hrel
    by_cases hkl : k < l.length
    · obtain ⟨x, hx⟩ : ∃ x, l[k]? = some x := ⟨_, List.getElem?_eq_getElem hkl⟩
      obtain ⟨b, off, cp, q, p, hsh, hc, _, hbh, hq, hp, c0, c1, c2, c3⟩ := (HH.out.below hbel hh1).at k x hx
      simp only [Value.slice.injEq, true_and] at hsh
      obtain ⟨rfl, rfl⟩ := hsh
      obtain ⟨b2, off2, cp2, q2, p2, hsh2, hc2, _, hbh2, hq2, hp2, d0, d1, d2, d3⟩ := (HH'.out.below hbel hh2).at k x hx
      simp only [Value.slice.injEq, true_and] at hsh2
      obtain ⟨rfl, rfl⟩ := hsh2
      have hsz := hbel.size
      have QS := hid (sameX_true _ _ _ _ (.agg #[.bool x.1, q, .bool x.2.2.1, p]) (.agg #[.bool x.1, q2, .bool x.2.2.1, p2]) x wr.drew ⟨q, p, rfl, hq, hp⟩ (Nat.le_trans hh1 hsz) (HB.out x (List.mem_of_getElem? hx)) ⟨q2, p2, rfl, hq2, hp2⟩ (Nat.le_trans hh2 hsz))
      have f1 : (k : Int) < (l.length : Int) := by omega
      have HBEL := hid hbel.drew
      clear hq hp hq2 hp2 hx hsz hbel
      go_wp2_with fail
      go_region_with ((go_at_call 36; refine QS.out.mono ?_; rintro e w5 ⟨rfl, hb5⟩))
      all_goals
        have hA := hid (HBEL.out.trans (hb5.mono HBEL.out.size))
        clear hb5
        go_wp2
        go_roundw
        case rel => exact ⟨k + 1, by go_num, by omega, hA.out⟩
        case measure => simp [intOf]; omega
    · obtain rfl : k = l.length := by omega
      go_wp2
      go_ret
      exact ⟨rfl, hbel⟩
end Go.Proofs.YtjjidmgeladicaaDoor

/- simileref01's Div: quotient and rest. -/
import Derived.Test.YtjjidmgeladicaaDoorRef4
namespace Go.Proofs.YtjjidmgeladicaaDoor
open Go.RowKit

theorem own_keep {w w' : World} {B : Nat} {e : TypeId} {size : Nat} {v : Value} {n : Nat} {xs : List Value} (h : w.ownsRow B e size v n xs) (hb : Below w.heap.size w w') : w'.ownsRow B e size v n xs := by
  refine ⟨h.1, ?_⟩
  rcases h.2 with hn | ⟨g, cap, cur, rfl, hbg, hgg, rest⟩
  · exact .inl hn
  · exact .inr ⟨g, cap, cur, rfl, hbg, (hb.block g (Array.getElem?_eq_some_iff.1 hgg).1).trans hgg, rest⟩

theorem Limbs.set {lo hi : Nat} {w : World} {v : Value} {xs : List Nat} (h : Limbs lo hi w v xs) (p : Addr) (u : Value) (hp : p.block < lo ∨ hi ≤ p.block) : Limbs lo hi (w.setCell p u) v xs :=
  h.keep fun b h1 h2 => Below.heap_setCell _ _ _ _ (by omega)

theorem or_pow (d k : Nat) (h : d % 2 ^ (k + 1) = 0) : d ||| 2 ^ k = d + 2 ^ k := by
  obtain ⟨a, ha⟩ := Nat.dvd_of_mod_eq_zero h
  rw [ha, ← Nat.two_pow_add_eq_or_of_lt (Nat.pow_lt_pow_right (by decide) (Nat.lt_succ_self k))]

theorem div_of (Y R d : Nat) (h1 : d * Y ≤ R) (h2 : R < (d + 1) * Y) : R / Y = d := by
  have hY : 0 < Y := by
    rcases Nat.eq_zero_or_pos Y with h | h
    · subst h; simp at h2
    · exact h
  exact Nat.div_eq_of_lt_le h1 h2

theorem bit_step (d j : Nat) (hj : j < 32) (hd : d < 4294967296) (hm : d % 2 ^ (j + 1) = 0) :
    d + 2 ^ j < 4294967296 ∧ bits .or .u32 (d : Nat) ((2 : Int) ^ j % 4294967296) = ((d + 2 ^ j : Nat) : Int) ∧ d % 2 ^ j = 0 ∧ (d + 2 ^ j) % 2 ^ j = 0 ∧ d + 2 ^ (j + 1) = d + 2 ^ j + 2 ^ j := by
  have hp : 2 ^ j < 4294967296 := Nat.lt_of_lt_of_le (Nat.pow_lt_pow_right (by decide) hj) (by decide)
  obtain ⟨a, ha⟩ := Nat.dvd_of_mod_eq_zero hm
  have h0 : d % 2 ^ j = 0 := by rw [ha, Nat.pow_succ, Nat.mul_assoc]; exact Nat.mul_mod_right _ _
  have hlt : d + 2 ^ j < 4294967296 := by
    obtain ⟨c, hc⟩ : ∃ c, 4294967296 = 2 ^ (j + 1) * c := ⟨2 ^ (31 - j), by rw [← Nat.pow_add, show j + 1 + (31 - j) = 32 from by omega]⟩
    have h1 : a < c := by
      rw [ha, hc] at hd
      exact Nat.lt_of_mul_lt_mul_left hd
    have h2 : 2 ^ (j + 1) * (a + 1) ≤ 2 ^ (j + 1) * c := Nat.mul_le_mul_left _ h1
    have h3 : 0 < 2 ^ j := Nat.pow_pos (by decide)
    rw [← hc, Nat.mul_add, ← ha, Nat.pow_succ] at h2
    omega
  refine ⟨hlt, ?_, h0, by rw [Nat.add_mod_right]; exact h0, by rw [Nat.pow_succ]; omega⟩
  have e : ((2 : Int) ^ j % 4294967296) = ((2 ^ j : Nat) : Int) := by
    have : ((2 ^ j : Nat) : Int) = (2 : Int) ^ j := by simp
    rw [← this]
    omega
  rw [e, u32_or_nat d _ hd hp, or_pow d j hm]

end Go.Proofs.YtjjidmgeladicaaDoor

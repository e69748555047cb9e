/- simileref02.frac, Frac: what a fraction's text says. -/
import Derived.Test.YtoijfckollafhaaGreatLaw1
namespace Go.Proofs.YtoijfckollafhaaGreat
open Go.RowKit

def notBar (r : Nat) : Bool := !isBar r
/-- ahead of the bar; behind it -/
def upper (L : List Nat) : List Nat := L.takeWhile notBar
def lower (L : List Nat) : List Nat := if (upper L).length < L.length then L.drop ((upper L).length + 1) else [49]
def upS (L : List Nat) : List Nat := if negative (upper L) then (upper L).tail else upper L
def digN (L : List Nat) : Nat := (upS L).length + (if (upper L).length < L.length then (lower L).length else 0)

/-- no digits, or others among them -/
def badB (L : List Nat) : Bool := L.isEmpty || !(L.all fun r => decide (worth r < 10))

theorem badB_iff (L : List Nat) : badB L = true ↔ L = [] ∨ ¬ AllOk 10 L := by
  unfold badB
  rw [allOk_iff, Bool.or_eq_true, List.isEmpty_iff]
  simp

/-- what a fraction's runes say: the sign, the number, the denominator, the error -/
def fracR (L : List Nat) : Bool × Nat × Nat × Nat :=
  if badB (upS L) = true then (false, 0, 0, 20)
  else if badB (lower L) = true then (false, 0, 0, 20)
  else if allNought (lower L) = true then (false, 0, 0, 20)
  else if 10000 < digN L then (false, 0, 0, 4)
  else (negative (upper L) && decide (ofDigits 10 ((upS L).map worth) ≠ 0), ofDigits 10 ((upS L).map worth), ofDigits 10 ((lower L).map worth), 0)

theorem upper_at (L : List Nat) (k : Nat) (hk : k < L.length) (h : ∀ r, r ∈ L.take k → isBar r = false) (hb : isBar (L.getD k 0) = true) : upper L = L.take k := by
  have e : L = L.take k ++ L.drop k := (List.take_append_drop k L).symm
  have e2 : L.drop k = L.getD k 0 :: L.drop (k + 1) := by rw [List.drop_eq_getElem_cons hk]; simp [List.getD, hk]
  unfold upper
  conv => lhs; rw [e, e2]
  rw [List.takeWhile_append_of_pos (fun r hr => by unfold notBar; rw [h r hr]; rfl), List.takeWhile_cons_of_neg (by unfold notBar; rw [hb]; simp), List.append_nil]

theorem upper_all (L : List Nat) (h : ∀ r, r ∈ L → isBar r = false) : upper L = L := by
  unfold upper
  have e : L = L ++ [] := (List.append_nil L).symm
  conv => lhs; rw [e]
  rw [List.takeWhile_append_of_pos (fun r hr => by unfold notBar; rw [h r hr]; rfl)]
  simp

theorem nought_snoc (D : List Nat) (k : Nat) (hk : k < D.length) : allNought (D.take (k + 1)) = (allNought (D.take k) && (D.getD k 0 == 48)) := by
  rw [take_snoc D 0 k hk]
  simp [allNought]

theorem upper_take (L : List Nat) : upper L = L.take (upper L).length := by
  have h : upper L <+: L := List.takeWhile_prefix _
  exact (List.prefix_iff_eq_take.1 h)

theorem upper_le (L : List Nat) : (upper L).length ≤ L.length := (List.takeWhile_sublist _).length_le

theorem nums_pre {k : IntKind} {lo hi : Nat} {w : World} {ad : Option Addr} {n cap : Nat} {xs : List Nat} (h : Nums k lo hi w (.slice ad n cap) xs) (m : Nat) (hm : m ≤ xs.length) : Nums k lo hi w (.slice ad m cap) (xs.take m) := by
  obtain ⟨ad', cap', hv, hc, hnn, hne⟩ := h
  simp only [Value.slice.injEq] at hv
  obtain ⟨rfl, rfl, rfl⟩ := hv
  refine ⟨ad, cap, by simp [hm], by simp; omega, hnn, fun h => ?_⟩
  have hp : xs ≠ [] := fun e => h (by rw [e]; simp)
  obtain ⟨b, off, ha, hl, hh, hcell⟩ := hne hp
  refine ⟨b, off, ha, hl, hh, fun i hi => ?_⟩
  simp only [List.length_take] at hi
  rw [hcell i (by omega)]
  have : (xs.take m).getD i 0 = xs.getD i 0 := by simp [List.getD, show i < m by omega]
  rw [this]

theorem nums_drop {k : IntKind} {lo hi : Nat} {w : World} {b off n cap : Nat} {xs : List Nat} (h : Nums k lo hi w (.slice (some ⟨b, off, none⟩) n cap) xs) (m : Nat) (_hm : m ≤ xs.length) :
    Nums k lo hi w (.slice (some (if cap = m then ⟨b, off, none⟩ else ⟨b, off + m, none⟩)) (xs.length - m) (cap - m)) (xs.drop m) := by
  obtain ⟨ad', cap', hv, hc, hnn, hne⟩ := h
  simp only [Value.slice.injEq] at hv
  obtain ⟨rfl, rfl, rfl⟩ := hv
  refine ⟨_, _, by rw [List.length_drop], by simp; omega, by simp, fun h => ?_⟩
  have hp : xs ≠ [] := fun e => h (by rw [e]; simp)
  have hml : m < xs.length := by
    rcases Nat.lt_or_ge m xs.length with h9 | h9
    · exact h9
    · exact absurd (List.drop_eq_nil_of_le h9) h
  obtain ⟨b', off', ha, hl, hh, hcell⟩ := hne hp
  simp only [Option.some.injEq, Addr.mk.injEq, and_true] at ha
  obtain ⟨rfl, rfl⟩ := ha
  refine ⟨b, off + m, by rw [if_neg (by omega)], hl, hh, fun i hi => ?_⟩
  simp only [List.length_drop] at hi
  have h9 := hcell (m + i) (by omega)
  rw [Nat.add_assoc, h9]
  have : (xs.drop m).getD i 0 = xs.getD (m + i) 0 := by simp [List.getD, List.getElem?_drop]
  rw [this]

end Go.Proofs.YtoijfckollafhaaGreat

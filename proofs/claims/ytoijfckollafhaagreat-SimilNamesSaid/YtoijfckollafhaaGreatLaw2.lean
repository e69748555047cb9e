/- The law's long, nothing, spoil. -/
import Derived.Test.YtoijfckollafhaaGreatPlain02
namespace Go.Proofs.YtoijfckollafhaaGreat
open Go.RowKit

/-! ### limbs written over -/

/-- among the blocks that were there, only those of S are written -/
structure Spoiled (S : Nat → Prop) (w w' : World) : Prop where
  os : w'.os = w.os
  tape : w'.tape = w.tape
  output : w'.output = w.output
  size : w.heap.size ≤ w'.heap.size
  block : ∀ b, b < w.heap.size → ¬ S b → w'.heap[b]? = w.heap[b]?

theorem Spoiled.refl (S : Nat → Prop) (w : World) : Spoiled S w w := ⟨rfl, rfl, rfl, Nat.le_refl _, fun _ _ _ => rfl⟩

theorem Spoiled.alloc {S : Nat → Prop} {w w' : World} (h : Spoiled S w w') (o : Obj) : Spoiled S w (w'.alloc o) :=
  ⟨h.os, h.tape, h.output, Nat.le_trans h.size (by simp), fun b hb hS => (Below.heap_alloc _ _ _ (Nat.lt_of_lt_of_le hb h.size)).trans (h.block b hb hS)⟩

theorem Spoiled.setNew {S : Nat → Prop} {w w' : World} (h : Spoiled S w w') (p : Addr) (v : Value) (hp : w.heap.size ≤ p.block) : Spoiled S w (w'.setCell p v) :=
  ⟨h.os, h.tape, h.output, by simpa [World.setCell] using h.size, fun b hb hS => (Below.heap_setCell _ _ _ _ (by omega)).trans (h.block b hb hS)⟩

theorem Spoiled.setIn {S : Nat → Prop} {w w' : World} (h : Spoiled S w w') (p : Addr) (v : Value) (hp : S p.block) : Spoiled S w (w'.setCell p v) :=
  ⟨h.os, h.tape, h.output, by simpa [World.setCell] using h.size, fun b hb hS => (Below.heap_setCell _ _ _ _ (by intro e; subst e; exact hS hp)).trans (h.block b hb hS)⟩

/-- below all that is spoilt, nothing turns -/
theorem Spoiled.below {S : Nat → Prop} {w w' : World} {B : Nat} (h : Spoiled S w w') (hB : B ≤ w.heap.size) (hS : ∀ b, S b → B ≤ b) : Below B w w' :=
  ⟨h.os, h.tape, h.output, h.size, fun b hb => h.block b (by omega) fun hs => by have := hS b hs; omega⟩

/-- a slice whose cells lie in blocks of S and may be written -/
def Loose (S : Nat → Prop) (w : World) (v : Value) : Prop :=
  ∃ ad n cap, v = .slice ad n cap ∧ n ≤ cap ∧ n ≤ 140737488355328 ∧ (0 < n → ∃ b off row T, ad = some ⟨b, off, none⟩ ∧ S b ∧ w.heap[b]? = some (.cells row T (0, 0)) ∧ off + n ≤ row.size)

theorem Loose.keep {S : Nat → Prop} {w w' : World} {v : Value} (h : Loose S w v) (hk : ∀ b, S b → b < w.heap.size → w'.heap[b]? = w.heap[b]?) : Loose S w' v := by
  obtain ⟨ad, n, cap, hv, hc, hm, hn⟩ := h
  refine ⟨ad, n, cap, hv, hc, hm, fun h => ?_⟩
  obtain ⟨b, off, row, T, ha, hs, hb, hz⟩ := hn h
  exact ⟨b, off, row, T, ha, hs, by rw [hk b hs (Array.getElem?_eq_some_iff.1 hb).1]; exact hb, hz⟩

theorem Loose.set {S : Nat → Prop} {w : World} {v : Value} (h : Loose S w v) (g i : Nat) (u : Value) : Loose S (w.setCell ⟨g, i, none⟩ u) v := by
  obtain ⟨ad, n, cap, hv, hc, hm, hn⟩ := h
  refine ⟨ad, n, cap, hv, hc, hm, fun h => ?_⟩
  obtain ⟨b, off, row, T, ha, hs, hb, hz⟩ := hn h
  by_cases hbg : b = g
  · subst hbg
    have := heap_setCell_same w b i row T u hb
    exact ⟨b, off, _, T, ha, hs, this, by simpa using hz⟩
  · exact ⟨b, off, row, T, ha, hs, by rw [Below.heap_setCell _ _ _ _ (by intro e; exact hbg e)]; exact hb, hz⟩

theorem Limbs.loose {S : Nat → Prop} {lo hi : Nat} {w : World} {v : Value} {xs : List Nat} (h : Limbs lo hi w v xs) (h0 : 0 < lo) (hS : ∀ b, lo ≤ b → b < hi → S b) (hl : xs.length ≤ 140737488355328) : Loose S w v := by
  obtain ⟨ad, cap, hv, hc, hn, hx, hne⟩ := h
  refine ⟨ad, xs.length, cap, hv, hc, hl, fun hp => ?_⟩
  obtain ⟨b, off, ha, hlb, hbh, hcell, hu⟩ := hne (by intro e; subst e; simp at hp)
  obtain ⟨row, hb⟩ := hu h0
  refine ⟨b, off, row, _, ha, hS b hlb hbh, hb, ?_⟩
  have := hcell (xs.length - 1) (by omega)
  rw [cell_of_row w b _ row _ (0, 0) hb] at this
  have := (Array.getElem?_eq_some_iff.1 this).1
  omega

theorem Loose.open {S : Nat → Prop} {w : World} {v : Value} (h : Loose S w v) : ∃ ad n cap, v = .slice ad n cap ∧ n ≤ cap ∧ n ≤ 140737488355328 ∧
    ∀ i, i < n → ∃ b off, ad = some ⟨b, off, none⟩ ∧ S b ∧ ∃ u, w.cell? ⟨b, off + i, none⟩ = some u ∧ w.frozen? ⟨b, off + i, none⟩ = false := by
  obtain ⟨ad, n, cap, hv, hc, hm, hn⟩ := h
  refine ⟨ad, n, cap, hv, hc, hm, fun i hi => ?_⟩
  obtain ⟨b, off, row, T, ha, hs, hb, hz⟩ := hn (by omega)
  refine ⟨b, off, ha, hs, row[off + i]'(by omega), ?_, frozen_of_row w b (off + i) row T hb⟩
  rw [cell_of_row w b _ row T (0, 0) hb]
  exact Array.getElem?_eq_getElem _

/-- a row of integers' cells -/
def IntRow (w : World) (g : Nat) (vs : List (Bool × Value)) : Prop :=
  ∀ i, i < vs.length → w.cell? ⟨g, i * 2, none⟩ = some (.bool (vs.getD i (false, .slice none 0 0)).1) ∧ w.cell? ⟨g, i * 2 + 1, none⟩ = some (vs.getD i (false, .slice none 0 0)).2

theorem IntRow.keep {w w' : World} {g : Nat} {vs : List (Bool × Value)} (h : IntRow w g vs) (hk : w'.heap[g]? = w.heap[g]?) : IntRow w' g vs :=
  fun i hi => ⟨(World.cell?_of_block hk).trans (h i hi).1, (World.cell?_of_block hk).trans (h i hi).2⟩

/-- where a value is laid into new memory -/
theorem boxed {B : Nat} {w0 w1 : World} (h : Below B w0 w1) (hB : B ≤ w1.heap.size) (arr : Array Value) (T : TypeId) :
    Below B w0 (w1.alloc (.cells arr T)) ∧ Below w1.heap.size w1 (w1.alloc (.cells arr T)) ∧ BoxIs (w1.alloc (.cells arr T)) w1.heap.size T arr.toList ∧ (w1.alloc (.cells arr T)).heap.size = w1.heap.size + 1 :=
  ⟨h.alloc hB _, (boxA w1 arr T).1, (boxA w1 arr T).2.1, by simp⟩

theorem badB_no (L : List Nat) (h : ¬ badB L = true) : ∀ d, d ∈ L.map worth → d < 10 := by
  intro d hd
  obtain ⟨r, hr, rfl⟩ := List.mem_map.1 hd
  rw [badB_iff] at h
  rcases Nat.lt_or_ge (worth r) 10 with h1 | h1
  · exact h1
  · exact absurd (.inr fun h2 => by have := h2 r hr; omega) h

theorem digits_len (L : List Nat) (h : ¬ badB L = true) : (toL (ofDigits 10 (L.map worth))).length ≤ L.length := by
  have := ofDigits_len 10 (L.map worth) (by decide) (badB_no L h)
  simpa using this

theorem lower_len (L : List Nat) : (lower L).length ≤ L.length + 1 := by
  unfold lower
  split
  · simp; omega
  · simp

theorem upS_len (L : List Nat) : (upS L).length ≤ L.length := by
  have h := upper_le L
  unfold upS
  split
  · simp; omega
  · exact h

theorem fracR_len (L : List Nat) : (toL (fracR L).2.1).length ≤ L.length + 1 ∧ (toL (fracR L).2.2.1).length ≤ L.length + 1 := by
  have h1 := upS_len L
  have h2 := lower_len L
  unfold fracR
  by_cases c1 : badB (upS L) = true
  · simp [c1, toL_zero]
  · by_cases c2 : badB (lower L) = true
    · simp [c1, c2, toL_zero]
    · have h3 := digits_len _ c1
      have h4 := digits_len _ c2
      rw [if_neg c1, if_neg c2]
      split
      · simp [toL_zero]
      · split
        · simp [toL_zero]
        · exact ⟨Nat.le_trans h3 (by omega), Nat.le_trans h4 (by omega)⟩

theorem chain {w w1 w2 : World} (h : Below w.heap.size w w1) (h2 : Below w1.heap.size w1 w2) : Below w.heap.size w w2 := h.trans (h2.mono h.size)

theorem intRow3 {w : World} {g : Nat} {T : TypeId} {a0 a1 a2 : Bool} {v0 v1 v2 : Value} (h : BoxIs w g T [.bool a0, v0, .bool a1, v1, .bool a2, v2]) : IntRow w g [(a0, v0), (a1, v1), (a2, v2)] := by
  intro i hi
  simp only [List.length_cons, List.length_nil] at hi
  match i, hi with
  | 0, _ => exact ⟨h.cell 0 _ rfl, h.cell 1 _ rfl⟩
  | 1, _ => exact ⟨h.cell 2 _ rfl, h.cell 3 _ rfl⟩
  | 2, _ => exact ⟨h.cell 4 _ rfl, h.cell 5 _ rfl⟩

theorem Spoiled.box {S : Nat → Prop} {w w' : World} (h : Spoiled S w w') {g : Nat} {T : TypeId} {cs : List Value} (hb : BoxIs w g T cs) (hS : ¬ S g) : BoxIs w' g T cs := hb.keep (h.block g hb.lt hS)
theorem Spoiled.limbs {S : Nat → Prop} {w w' : World} (h : Spoiled S w w') {lo hi : Nat} {v : Value} {xs : List Nat} (hx : Limbs lo hi w v xs) (hh : hi ≤ w.heap.size) (hS : ∀ b, lo ≤ b → b < hi → ¬ S b) : Limbs lo hi w' v xs :=
  hx.keep fun b h1 h2 => h.block b (by omega) (hS b h1 h2)

end Go.Proofs.YtoijfckollafhaaGreat

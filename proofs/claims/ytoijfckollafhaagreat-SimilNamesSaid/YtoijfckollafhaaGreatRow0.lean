/- Slices whose elements are of several cells, and what the call itself appends to them. Plain; no condition. -/
import Derived.Test.YtoijfckollafhaaGreatLaw1
namespace Go.Proofs.YtoijfckollafhaaGreat
open Go.RowKit

/-- a slice of l.length elements of sz cells each, all in a block from lo on, below hi: its i-th element's cells are as R says of l's i-th -/
def RowOf {α : Type} (sz : Nat) (R : World → α → List Value → Prop) (lo hi : Nat) (w : World) (v : Value) (l : List α) : Prop :=
  ∃ ad cap, v = .slice ad l.length cap ∧ l.length ≤ cap ∧ (ad = none → cap = 0) ∧
    (l ≠ [] → ∃ b off, ad = some ⟨b, off, none⟩ ∧ lo ≤ b ∧ b < hi ∧
      ∀ (i : Nat) (x : α), l[i]? = some x → ∃ cs : List Value, cs.length = sz ∧ R w x cs ∧ ∀ j, j < sz → w.cell? ⟨b, off + i * sz + j, none⟩ = cs[j]?)

theorem RowOf.nil {α : Type} {sz : Nat} {R : World → α → List Value → Prop} {lo hi : Nat} {w : World} : RowOf sz R lo hi w (.slice none 0 0) ([] : List α) :=
  ⟨none, 0, rfl, Nat.le_refl _, fun _ => rfl, fun h => absurd rfl h⟩

theorem RowOf.shape {α : Type} {sz : Nat} {R : World → α → List Value → Prop} {lo hi : Nat} {w : World} {v : Value} {l : List α} (h : RowOf sz R lo hi w v l) : ∃ ad cap, v = .slice ad l.length cap := by
  obtain ⟨ad, cap, hv, _⟩ := h
  exact ⟨ad, cap, hv⟩

theorem RowOf.keep {α : Type} {sz : Nat} {R : World → α → List Value → Prop} {lo hi : Nat} {w w' : World} {v : Value} {l : List α} (h : RowOf sz R lo hi w v l)
    (hk : ∀ b, lo ≤ b → b < hi → w'.heap[b]? = w.heap[b]?) (hR : ∀ x cs, R w x cs → R w' x cs) : RowOf sz R lo hi w' v l := by
  obtain ⟨ad, cap, hv, hc, hn, hne⟩ := h
  refine ⟨ad, cap, hv, hc, hn, fun h => ?_⟩
  obtain ⟨b, off, ha, hl, hh, hel⟩ := hne h
  refine ⟨b, off, ha, hl, hh, fun i x hx => ?_⟩
  obtain ⟨cs, h1, h2, h3⟩ := hel i x hx
  exact ⟨cs, h1, hR x cs h2, fun j hj => (World.cell?_of_block (hk b hl hh)).trans (h3 j hj)⟩

theorem RowOf.wide {α : Type} {sz : Nat} {R R' : World → α → List Value → Prop} {lo hi lo' hi' : Nat} {w : World} {v : Value} {l : List α} (h : RowOf sz R lo hi w v l)
    (h1 : lo' ≤ lo) (h2 : hi ≤ hi') (hR : ∀ x cs, R w x cs → R' w x cs) : RowOf sz R' lo' hi' w v l := by
  obtain ⟨ad, cap, hv, hc, hn, hne⟩ := h
  refine ⟨ad, cap, hv, hc, hn, fun h => ?_⟩
  obtain ⟨b, off, ha, hl, hh, hel⟩ := hne h
  refine ⟨b, off, ha, by omega, by omega, fun i x hx => ?_⟩
  obtain ⟨cs, h1, h2, h3⟩ := hel i x hx
  exact ⟨cs, h1, hR x cs h2, h3⟩

/-- the element at a place -/
theorem RowOf.at {α : Type} {sz : Nat} {R : World → α → List Value → Prop} {lo hi : Nat} {w : World} {v : Value} {l : List α} (h : RowOf sz R lo hi w v l) (i : Nat) (x : α) (hx : l[i]? = some x) :
    ∃ b off cap cs, v = .slice (some ⟨b, off, none⟩) l.length cap ∧ l.length ≤ cap ∧ lo ≤ b ∧ b < hi ∧ cs.length = sz ∧ R w x cs ∧ ∀ j, j < sz → w.cell? ⟨b, off + i * sz + j, none⟩ = cs[j]? := by
  obtain ⟨ad, cap, rfl, hc, hn, hne⟩ := h
  obtain ⟨b, off, rfl, hl, hh, hel⟩ := hne (by intro e; subst e; simp at hx)
  obtain ⟨cs, h1, h2, h3⟩ := hel i x hx
  exact ⟨b, off, cap, cs, rfl, hc, hl, hh, h1, h2, h3⟩

theorem flat_get {sz : Nat} : ∀ (cs : List (List Value)) (i j : Nat) (c : List Value), (∀ x, x ∈ cs → x.length = sz) → cs[i]? = some c → j < sz → cs.flatten[i * sz + j]? = c[j]? := by
  intro cs
  induction cs with
  | nil => intro i j c _ h; simp at h
  | cons x cs ih =>
    intro i j c hx h hj
    have h0 := hx x (List.mem_cons_self ..)
    rw [List.flatten_cons]
    cases i with
    | zero =>
      simp only [List.getElem?_cons_zero, Option.some.injEq] at h
      subst h
      rw [Nat.zero_mul, Nat.zero_add, List.getElem?_append_left (by omega)]
    | succ i =>
      simp only [List.getElem?_cons_succ] at h
      rw [List.getElem?_append_right (by rw [h0, Nat.add_mul]; omega), h0, show (i + 1) * sz + j - sz = i * sz + j by rw [Nat.add_mul]; omega]
      exact ih i j c (fun y hy => hx y (List.mem_cons_of_mem _ hy)) h hj

/-- what the call itself owns, as a slice of elements -/
theorem RowOf.ofOwn {α : Type} {sz : Nat} {R : World → α → List Value → Prop} {B n : Nat} {w : World} {e : TypeId} {v : Value} {l : List α} {cs : List (List Value)} (hsz : 0 < sz) (h : w.ownsRow B e sz v n cs.flatten)
    (hl : cs.length = l.length) (hc : ∀ x, x ∈ cs → x.length = sz) (hR : ∀ (i : Nat) (x : α) (c : List Value), l[i]? = some x → cs[i]? = some c → R w x c) : RowOf sz R B w.heap.size w v l := by
  have hlen : cs.flatten.length = cs.length * sz := by
    clear h hl hR
    induction cs with
    | nil => simp
    | cons x cs ih =>
      rw [List.flatten_cons, List.length_append, hc x (List.mem_cons_self ..), ih (fun y hy => hc y (List.mem_cons_of_mem _ hy)), List.length_cons, Nat.add_mul]
      omega
  have hn : l.length = n := by
    have := h.1
    rw [hlen, hl] at this
    exact Nat.eq_of_mul_eq_mul_right hsz this
  subst hn
  rcases h.2 with ⟨rfl, h0⟩ | ⟨g, cap, cur, rfl, hb, hg, hcap, hm, hs, ht⟩
  · obtain rfl : l = [] := List.eq_nil_of_length_eq_zero h0
    exact RowOf.nil
  · refine ⟨_, cap, rfl, by omega, (by simp), fun _ => ⟨g, 0, rfl, hb, (Array.getElem?_eq_some_iff.1 hg).1, fun i x hx => ?_⟩⟩
    have hi := (List.getElem?_eq_some_iff.1 hx).1
    have hci : cs[i]? = some (cs[i]'(by omega)) := List.getElem?_eq_getElem _
    refine ⟨cs[i]'(by omega), hc _ (List.getElem_mem _), hR i x _ hx hci, fun j hj => ?_⟩
    have h1 := flat_get cs i j _ hc hci hj
    rw [← ht, List.getElem?_take] at h1
    rw [cell_of_row w g _ cur e (0, 0) hg, Nat.zero_add]
    split at h1
    · rw [← h1]; simp
    · rename_i hnlt
      exfalso
      apply hnlt
      have : (i + 1) * sz ≤ l.length * sz := Nat.mul_le_mul_right _ hi
      rw [Nat.add_mul] at this
      omega

/-- a fraction's cells -/
def FracCells (lo hi : Nat) (w : World) (x : Bool × List Nat × Bool × List Nat) (cs : List Value) : Prop :=
  ∃ q p, cs = [.bool x.1, q, .bool x.2.2.1, p] ∧ Limbs lo hi w q x.2.1 ∧ Limbs lo hi w p x.2.2.2

theorem FracCells.keep {lo hi : Nat} {w w' : World} (hk : ∀ b, lo ≤ b → b < hi → w'.heap[b]? = w.heap[b]?) (x : Bool × List Nat × Bool × List Nat) (cs : List Value) (h : FracCells lo hi w x cs) : FracCells lo hi w' x cs := by
  obtain ⟨q, p, rfl, hq, hp⟩ := h
  exact ⟨q, p, rfl, hq.keep hk, hp.keep hk⟩

theorem FracCells.wide {lo hi lo' hi' : Nat} {w : World} (h1 : lo' ≤ lo) (h2 : hi ≤ hi') (x : Bool × List Nat × Bool × List Nat) (cs : List Value) (h : FracCells lo hi w x cs) : FracCells lo' hi' w x cs := by
  obtain ⟨q, p, rfl, hq, hp⟩ := h
  exact ⟨q, p, rfl, hq.wide h1 h2, hp.wide h1 h2⟩

/-- a slice of fractions -/
def Fracs (lo hi : Nat) (w : World) (v : Value) (l : List (Bool × List Nat × Bool × List Nat)) : Prop := RowOf 4 (FracCells lo hi) lo hi w v l

theorem Fracs.keep {lo hi : Nat} {w w' : World} {v : Value} {l : List (Bool × List Nat × Bool × List Nat)} (h : Fracs lo hi w v l) (hk : ∀ b, lo ≤ b → b < hi → w'.heap[b]? = w.heap[b]?) : Fracs lo hi w' v l :=
  RowOf.keep h hk (FracCells.keep hk)
theorem Fracs.below {lo hi B : Nat} {w w' : World} {v : Value} {l : List (Bool × List Nat × Bool × List Nat)} (h : Fracs lo hi w v l) (hb : Below B w w') (hB : hi ≤ B) : Fracs lo hi w' v l :=
  h.keep fun b _ hh => hb.block b (by omega)
theorem Fracs.wide {lo hi lo' hi' : Nat} {w : World} {v : Value} {l : List (Bool × List Nat × Bool × List Nat)} (h : Fracs lo hi w v l) (h1 : lo' ≤ lo) (h2 : hi ≤ hi') : Fracs lo' hi' w v l :=
  RowOf.wide h h1 h2 (FracCells.wide h1 h2)

theorem Fracs.at {lo hi : Nat} {w : World} {v : Value} {l : List (Bool × List Nat × Bool × List Nat)} (h : Fracs lo hi w v l) (i : Nat) (x : Bool × List Nat × Bool × List Nat) (hx : l[i]? = some x) :
    ∃ b off cap q p, v = .slice (some ⟨b, off, none⟩) l.length cap ∧ l.length ≤ cap ∧ lo ≤ b ∧ b < hi ∧ Limbs lo hi w q x.2.1 ∧ Limbs lo hi w p x.2.2.2 ∧
      w.cell? ⟨b, off + i * 4, none⟩ = some (.bool x.1) ∧ w.cell? ⟨b, off + i * 4 + 1, none⟩ = some q ∧ w.cell? ⟨b, off + i * 4 + 2, none⟩ = some (.bool x.2.2.1) ∧ w.cell? ⟨b, off + i * 4 + 3, none⟩ = some p := by
  obtain ⟨b, off, cap, cs, rfl, hc, hl, hh, _, ⟨q, p, rfl, hq, hp⟩, hcell⟩ := RowOf.at h i x hx
  exact ⟨b, off, cap, q, p, rfl, hc, hl, hh, hq, hp, hcell 0 (by decide), hcell 1 (by decide), hcell 2 (by decide), hcell 3 (by decide)⟩

/-- limbs stand while other blocks turn -/
theorem Limbs.grown {lo hi : Nat} {w w' : World} {v : Value} {xs : List Nat} {row : Option Nat} (h : Limbs lo hi w v xs) (h0 : 0 < lo) (hg : w.grownBy w' row)
    (hr : ∀ g, row = some g → ∃ c T f, w.heap[g]? = some (.cells c T f) ∧ T ≠ 208) : Limbs lo hi w' v xs := by
  obtain ⟨ad, cap, hv, hc, hn, hx, hne⟩ := h
  refine ⟨ad, cap, hv, hc, hn, hx, fun hp => ?_⟩
  obtain ⟨b, off, ha, hl, hh, hcell, hu⟩ := hne hp
  obtain ⟨cur, hb⟩ := hu h0
  have hk : w'.heap[b]? = w.heap[b]? := by
    refine hg.block b (Array.getElem?_eq_some_iff.1 hb).1 fun e => ?_
    obtain ⟨c, T, f, h1, h2⟩ := hr b e.symm
    rw [hb] at h1
    simp only [Option.some.injEq, Obj.cells.injEq] at h1
    exact h2 h1.2.1.symm
  exact ⟨b, off, ha, hl, hh, fun i hi => (World.cell?_of_block hk).trans (hcell i hi), fun _ => ⟨cur, hk.trans hb⟩⟩

end Go.Proofs.YtoijfckollafhaaGreat

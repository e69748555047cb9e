/- How rows of fractions that came in read. -/
import Derived.Test.YtjjidmgeladicaaDoorArgs
import Derived.Test.YtjjidmgeladicaaDoorPrintRow
import Derived.Deep.Slices
namespace Go.Proofs.YtjjidmgeladicaaDoor
open Go.ChangeShapes Go.WideShapes Go.ChangeAt Go.RowKit Go.Deep

/-- a row's one cell -/
def RowCell (lo hi : Nat) (w : World) (l : List (Bool × List Nat × Bool × List Nat)) (cs : List Value) : Prop := ∃ r, cs = [r] ∧ Fracs lo hi w r l

/-- a slice of rows of fractions -/
def FracRows (lo hi : Nat) (w : World) (v : Value) (m : List (List (Bool × List Nat × Bool × List Nat))) : Prop := RowOf 1 (RowCell lo hi) lo hi w v m

theorem RowCell.keep {lo hi : Nat} {w w' : World} (hk : ∀ b, lo ≤ b → b < hi → w'.heap[b]? = w.heap[b]?) (x : List (Bool × List Nat × Bool × List Nat)) (cs : List Value) (h : RowCell lo hi w x cs) : RowCell lo hi w' x cs := by
  obtain ⟨r, rfl, hr⟩ := h
  exact ⟨r, rfl, hr.keep hk⟩

theorem FracRows.keep {lo hi : Nat} {w w' : World} {v : Value} {m : List (List (Bool × List Nat × Bool × List Nat))} (h : FracRows lo hi w v m) (hk : ∀ b, lo ≤ b → b < hi → w'.heap[b]? = w.heap[b]?) : FracRows lo hi w' v m :=
  RowOf.keep h hk (RowCell.keep hk)
theorem FracRows.below {lo hi B : Nat} {w w' : World} {v : Value} {m : List (List (Bool × List Nat × Bool × List Nat))} (h : FracRows lo hi w v m) (hb : Below B w w') (hB : hi ≤ B) : FracRows lo hi w' v m :=
  h.keep fun b _ hh => hb.block b (by omega)

theorem FracRows.at {lo hi : Nat} {w : World} {v : Value} {m : List (List (Bool × List Nat × Bool × List Nat))} (h : FracRows lo hi w v m) (i : Nat) (x : List (Bool × List Nat × Bool × List Nat)) (hx : m[i]? = some x) :
    ∃ b off cap r, v = .slice (some ⟨b, off, none⟩) m.length cap ∧ m.length ≤ cap ∧ lo ≤ b ∧ b < hi ∧ Fracs lo hi w r x ∧ w.cell? ⟨b, off + i, none⟩ = some r := by
  obtain ⟨b, off, cap, cs, rfl, hc, hl, hh, _, ⟨r, rfl, hr⟩, hcell⟩ := RowOf.at h i x hx
  have := hcell 0 (by decide)
  exact ⟨b, off, cap, r, rfl, hc, hl, hh, hr, by simpa using this⟩

def bulkM (m : List (List (Bool × List Nat × Bool × List Nat))) : Nat := (m.map fun l => bulkF l + 1).sum

theorem bulkM_mem (m : List (List (Bool × List Nat × Bool × List Nat))) (x : List (Bool × List Nat × Bool × List Nat)) (h : x ∈ m) : bulkF x + 1 ≤ bulkM m := by
  induction m with
  | nil => cases h
  | cons y l ih =>
    simp only [bulkM, List.map_cons, List.sum_cons] at ih ⊢
    rcases List.mem_cons.1 h with rfl | h
    · omega
    · have := ih h; omega

theorem bulkM_len (m : List (List (Bool × List Nat × Bool × List Nat))) : m.length ≤ bulkM m := by
  induction m with
  | nil => simp
  | cons y l ih => simp only [bulkM, List.map_cons, List.sum_cons, List.length_cons] at ih ⊢; omega

theorem range_bulk {H : Type} {α : Type} (f : α → Nat) (V : Nat → α) (D : Nat → DataW H) (L : List Nat) (h : ∀ i, i ∈ L → f (V i) ≤ Rows.uptoBulk (D i)) : ((L.map V).map f).sum ≤ Rows.uptoBulkAll (L.map D) := by
  induction L with
  | nil => simp
  | cons y l ih =>
    have h1 := h y (List.mem_cons_self ..)
    have h2 := ih fun i hi => h i (List.mem_cons_of_mem _ hi)
    simp only [List.map_cons, List.sum_cons, Rows.uptoBulkAll]
    omega

theorem add_none (a : Addr) : a.add 0 = a := by
  obtain ⟨b, off, sp⟩ := a
  rfl

theorem addr_none {W : World} {a : Addr} {v : Value} (h : W.cell? a = some v) : a.spot = none := by
  obtain ⟨b, off, sp⟩ := a
  unfold World.cell? at h
  split at h
  · cases sp with
    | none => rfl
    | some _ => simp at h
  · cases h

theorem cells_rat : Tryd.prog.cellsOf 42 = 4 := by kernel_rfl
theorem cells_ratrow : Tryd.prog.cellsOf 35 = 1 := by kernel_rfl
theorem cells_bool : Tryd.prog.cellsOf 4 = 1 := by kernel_rfl
theorem cells_nat : Tryd.prog.cellsOf 38 = 1 := by kernel_rfl

/-- an integer's two cells that came in -/
theorem open_intcells {H : Type} {enc : TypeId × Value → H} {W : World} {held : Bool} {fuel : Nat} {c0 c1 : Value} {x : DataW H × List MemPlace} (h : DataW.trod enc Tryd.prog W 0 (fun _ => true) held fuel 40 [c0, c1] = some x) :
    ∃ neg xs, c0 = .bool neg ∧ Limbs 0 W.heap.size W c1 xs ∧ xs.length + 1 ≤ Rows.uptoBulk x.1 := by
  obtain ⟨y0, y1, n, rfl, _, h0, h1⟩ := trod_struct2 Tryd.underlying40 h
  simp only [cells_bool, cells_nat, List.drop_zero, List.take_succ_cons, List.take_zero, List.drop_succ_cons] at h0 h1
  obtain ⟨neg, e0, rfl⟩ := DataW.trod_bool Tryd.underlying4 h0
  obtain rfl : c0 = .bool neg := by simpa using e0
  obtain ⟨xs, hx, hl⟩ := open_limbs h1
  refine ⟨neg, xs, rfl, hx, ?_⟩
  simp only [Rows.uptoBulk, Rows.uptoBulkAll]
  omega

theorem four {α : Type} {cs : List α} (h : cs.length = 4) : ∃ a b c d, cs = [a, b, c, d] := by
  match cs, h with
  | [a, b, c, d], _ => exact ⟨a, b, c, d, rfl⟩

/-- a fraction's four cells that came in -/
theorem open_ratcells {H : Type} {enc : TypeId × Value → H} {W : World} {held : Bool} {fuel : Nat} {cs : List Value} (hl : cs.length = 4) {x : DataW H × List MemPlace} (h : DataW.trod enc Tryd.prog W 0 (fun _ => true) held fuel 42 cs = some x) :
    ∃ q : Bool × List Nat × Bool × List Nat, FracCells 0 W.heap.size W q cs ∧ q.2.1.length + q.2.2.2.length + 1 ≤ Rows.uptoBulk x.1 := by
  obtain ⟨c0, c1, c2, c3, rfl⟩ := four hl
  obtain ⟨y0, y1, n, rfl, _, h0, h1⟩ := trod_struct2 Tryd.underlying42 h
  simp only [cells_int, List.drop_zero, List.take_succ_cons, List.take_zero, List.drop_succ_cons] at h0 h1
  obtain ⟨n1, xs, rfl, hx, l1⟩ := open_intcells h0
  obtain ⟨n2, ys, rfl, hy, l2⟩ := open_intcells h1
  refine ⟨(n1, xs, n2, ys), ⟨_, _, rfl, hx, hy⟩, ?_⟩
  simp only [Rows.uptoBulk, Rows.uptoBulkAll]
  omega

/-- a row of fractions that came in -/
theorem open_rats {H : Type} {enc : TypeId × Value → H} {W : World} {held : Bool} {fuel : Nat} {v : Value} {x : DataW H × List MemPlace} (h : DataW.trod enc Tryd.prog W 0 (fun _ => true) held fuel 35 [v] = some x) :
    ∃ l, Fracs 0 W.heap.size W v l ∧ bulkF l + 1 ≤ Rows.uptoBulk x.1 := by
  rcases open_slice Tryd.underlying35 h with ⟨h1, rfl⟩ | ⟨a, len, cap, m, n, D, Pl, h1, _, hlc, _, hm, rfl, hx⟩
  · obtain rfl : v = .slice none 0 0 := by simpa using h1
    exact ⟨[], RowOf.nil, by simp [bulkF, Rows.uptoBulk]⟩
  · obtain rfl : v = .slice (some a) len cap := by simpa using h1
    rw [if_pos rfl] at hm
    subst hm
    rw [cells_rat] at hx
    obtain ⟨V, hV⟩ := choose_lt (n := len) (α := Bool × List Nat × Bool × List Nat) (p := fun i q => (∃ cs, W.cells? 0 (a.add (i * 4)) 4 = some cs ∧ cs.length = 4 ∧ FracCells 0 W.heap.size W q cs) ∧ q.2.1.length + q.2.2.2.length + 1 ≤ Rows.uptoBulk (D i)) (fun i hi => by
      obtain ⟨cs', g1, g2⟩ := hx i (by omega)
      obtain ⟨_, hlen, _⟩ := World.cells?_some g1
      obtain ⟨q, k1, k2⟩ := open_ratcells hlen g2
      exact ⟨q, ⟨cs', g1, hlen, k1⟩, k2⟩)
    refine ⟨(List.range len).map V, ⟨some a, m, by simp, by simpa using hlc, by simp, fun hne => ?_⟩, ?_⟩
    · have hpos : 0 < len := by
        rcases Nat.eq_zero_or_pos len with h0 | h0
        · subst h0; simp at hne
        · exact h0
      have hsub : a.spot = none := by
        obtain ⟨⟨cs, g1, g2, _⟩, _⟩ := hV 0 hpos
        obtain ⟨_, _, g3⟩ := World.cells?_some g1
        have g4 := g3 0 (by decide)
        have g5 : W.cell? a = cs[0]? := by rw [Nat.zero_mul, add_none, add_none] at g4; exact g4
        exact addr_none (g5.trans (List.getElem?_eq_getElem (by omega)))
      obtain ⟨b, off, sp⟩ := a
      obtain rfl : sp = none := hsub
      refine ⟨b, off, rfl, Nat.zero_le _, ?_, ?_⟩
      · obtain ⟨⟨cs, g1, g2, _⟩, _⟩ := hV 0 hpos
        obtain ⟨_, _, g3⟩ := World.cells?_some g1
        have g4 := g3 0 (by decide)
        have g5 : W.cell? ⟨b, off, none⟩ = cs[0]? := by simpa [Addr.add_lit] using g4
        exact World.block_lt_of_cell? W ⟨b, off, none⟩ (g5.trans (List.getElem?_eq_getElem (by omega)))
      · intro i q hq
        have hi : i < len := by have := (List.getElem?_eq_some_iff.1 hq).1; simpa using this
        obtain rfl : V i = q := by simpa [hi] using hq
        obtain ⟨⟨cs, g1, g2, g6⟩, _⟩ := hV i hi
        obtain ⟨_, _, g3⟩ := World.cells?_some g1
        refine ⟨cs, g2, g6, fun j hj => ?_⟩
        have g4 := g3 j (by omega)
        simpa [Addr.add_lit, Nat.add_assoc] using g4
    · have := range_bulk (fun q : Bool × List Nat × Bool × List Nat => q.2.1.length + q.2.2.2.length + 1) V D (List.range len) (fun i hi => (hV i (by simpa using hi)).2)
      simp only [Rows.uptoBulk, bulkF]
      omega

/-- rows of fractions that came in -/
theorem open_ratrows {H : Type} {enc : TypeId × Value → H} {W : World} {held : Bool} {fuel : Nat} {v : Value} {x : DataW H × List MemPlace} (h : DataW.trod enc Tryd.prog W 0 (fun _ => true) held fuel 52 [v] = some x) :
    ∃ m, FracRows 0 W.heap.size W v m ∧ bulkM m + 1 ≤ 2 * Rows.uptoBulk x.1 := by
  rcases open_slice1 Tryd.underlying52 cells_ratrow h with ⟨h1, rfl⟩ | ⟨a, len, cap, m, n, V, D, Pl, h1, _, hlc, _, hm, rfl, hx⟩
  · obtain rfl : v = .slice none 0 0 := by simpa using h1
    exact ⟨[], RowOf.nil, by simp [bulkM, Rows.uptoBulk]⟩
  · obtain rfl : v = .slice (some a) len cap := by simpa using h1
    rw [if_pos rfl] at hm
    subst hm
    obtain ⟨L, hL⟩ := choose_lt (n := len) (α := List (Bool × List Nat × Bool × List Nat)) (p := fun i l => Fracs 0 W.heap.size W (V i) l ∧ bulkF l + 1 ≤ Rows.uptoBulk (D i)) (fun i hi => by
      obtain ⟨_, g2⟩ := hx i (by omega)
      obtain ⟨l, k1, k2⟩ := open_rats g2
      exact ⟨l, k1, k2⟩)
    refine ⟨(List.range len).map L, ⟨some a, m, by simp, by simpa using hlc, by simp, fun hne => ?_⟩, ?_⟩
    · have hpos : 0 < len := by
        rcases Nat.eq_zero_or_pos len with h0 | h0
        · subst h0; simp at hne
        · exact h0
      have hsub : a.spot = none := by
        have g4 := (hx 0 (by omega)).1
        rw [add_none] at g4
        exact addr_none g4
      obtain ⟨b, off, sp⟩ := a
      obtain rfl : sp = none := hsub
      refine ⟨b, off, rfl, Nat.zero_le _, ?_, ?_⟩
      · have g4 := (hx 0 (by omega)).1
        exact World.block_lt_of_cell? W ⟨b, off, none⟩ (by simpa [Addr.add_lit] using g4)
      · intro i l hl
        have hi : i < len := by have := (List.getElem?_eq_some_iff.1 hl).1; simpa using this
        obtain rfl : L i = l := by simpa [hi] using hl
        refine ⟨[V i], rfl, ⟨V i, rfl, (hL i hi).1⟩, fun j hj => ?_⟩
        obtain rfl : j = 0 := by omega
        have g4 := (hx i (by omega)).1
        simpa [Addr.add_lit] using g4
    · have := range_bulk (fun l : List (Bool × List Nat × Bool × List Nat) => bulkF l + 1) L D (List.range len) (fun i hi => (hL i (by simpa using hi)).2)
      simp only [Rows.uptoBulk, bulkM]
      omega
end Go.Proofs.YtjjidmgeladicaaDoor

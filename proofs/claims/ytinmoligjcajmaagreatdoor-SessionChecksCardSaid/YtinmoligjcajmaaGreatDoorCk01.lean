/- Base of all walks of these claims: what a slice of limbs reads as, and that it reads on while nothing that it lies in is written. Plain definitions; no condition. -/
import Derived.Test.YtinmoligjcajmaaGreatDoorProg
import Derived.WalkKit
import Derived.WalkSpells
import Derived.WalkLawsBesides
import Derived.Laws.CopyOwn
import Derived.BigQuiet
import Derived.Deep.QuietTactic
import Derived.Deep.DeepCutAuto
import Derived.Deep.RegionWith
import Derived.Deep.LoopGhost
import Derived.Lib.OthersKept
import Derived.Deep.CutBlock
import Derived.Defers
import Derived.Recover
import Derived.Shelf.Strings.Builder1
import Derived.Shelf.Strings.Builder2
import Derived.Shelf.Strings.OnBuilder
import Derived.Shelf.Strings.Trim
import Derived.Shelf.Small.Utf8
import Derived.Shelf.Small.Bits
import Derived.Shelf.Small.Strs
import Derived.Shelf.Strings.BuilderF
import Derived.Shelf.Strings.BuilderK
import Derived.Shelf.Strings.BuilderRune
import Derived.Shelf.Utf8.AppendRunePlain
import Derived.Shelf.Utf8.RuneCount
import Derived.Shelf.Strings.Builder2Cap
import Derived.Shelf.Strconv.Itoa0
import Derived.Shelf.Strconv.Itoa1
import Derived.Shelf.LaysM
import Derived.Shelf.Strconv.Itoa2
import Derived.Shelf.Strconv.Itoa3
import Derived.Shelf.Strings.Search1
import Derived.Shelf.Strings.Search2
import Derived.Shelf.Strings.Search3
import Derived.Shelf.Strings.Cut
import Derived.Shelf.Strings.Count
import Derived.Shelf.Strings.Shaped
import Derived.Shelf.Strings.Prefix
import Derived.Shelf.Strings.Split
import Derived.Shelf.Strings.Replace
import Derived.Shelf.Strings.SplitShaped
import Derived.Shelf.Unicode.Decode
import Derived.Shelf.Strings.Runes
import Derived.Shelf.Strings.RuneCount
import Derived.Shelf.Strings.AsciiSet
import Derived.Shelf.Strings.Explode
import Derived.Shelf.Unicode.DecodeSlow
import Derived.Shelf.Unicode.DecodeAny
import Derived.Shelf.Unicode.DecodeLast
import Derived.Lib.RuneBytes
import Derived.Laws.Cover4
set_option linter.all false
set_option maxRecDepth 20000
set_option maxHeartbeats 6400000
namespace Go.Proofs.YtinmoligjcajmaaGreatDoor
open Go.RowKit

/-- a fact kept from the walk -/
theorem hid {p : Prop} (h : p) : Hid p := h

/-- the numbers of a slice of uint32, all of whose cells lie in blocks from lo on, below hi -/
def Limbs (lo hi : Nat) (w : World) (v : Value) (xs : List Nat) : Prop :=
  ∃ ad cap, v = .slice ad xs.length cap ∧ xs.length ≤ cap ∧ (ad = none → cap = 0) ∧ (∀ x, x ∈ xs → x < 4294967296) ∧
    (xs ≠ [] → ∃ b off, ad = some ⟨b, off, none⟩ ∧ lo ≤ b ∧ b < hi ∧ (∀ i, i < xs.length → w.cell? ⟨b, off + i, none⟩ = some (.int .u32 (xs.getD i 0 : Nat))) ∧
      (0 < lo → ∃ row, w.heap[b]? = some (.cells row 94 (0, 0))))

theorem Limbs.nil {lo hi : Nat} {w : World} : Limbs lo hi w (.slice none 0 0) [] :=
  ⟨none, 0, rfl, Nat.le_refl _, fun _ => rfl, (by simp), fun h => absurd rfl h⟩

theorem Limbs.keep {lo hi : Nat} {w w' : World} {v : Value} {xs : List Nat} (h : Limbs lo hi w v xs)
    (hk : ∀ b, lo ≤ b → b < hi → w'.heap[b]? = w.heap[b]?) : Limbs lo hi w' v xs := by
  obtain ⟨ad, cap, hv, hc, hn, hx, hne⟩ := h
  refine ⟨ad, cap, hv, hc, hn, hx, fun h => ?_⟩
  obtain ⟨b, off, ha, hl, hh, hcell, hu⟩ := hne h
  exact ⟨b, off, ha, hl, hh, fun i hi => (World.cell?_of_block (hk b hl hh)).trans (hcell i hi), fun h0 => by rw [hk b hl hh]; exact hu h0⟩

theorem Limbs.below {lo hi B : Nat} {w w' : World} {v : Value} {xs : List Nat} (h : Limbs lo hi w v xs)
    (hb : Below B w w') (hB : hi ≤ B) : Limbs lo hi w' v xs :=
  h.keep fun b _ hh => hb.block b (by omega)

theorem Limbs.wide {lo hi lo' hi' : Nat} {w : World} {v : Value} {xs : List Nat} (h : Limbs lo hi w v xs)
    (h1 : lo' ≤ lo) (h2 : hi ≤ hi') : Limbs lo' hi' w v xs := by
  obtain ⟨ad, cap, hv, hc, hn, hx, hne⟩ := h
  refine ⟨ad, cap, hv, hc, hn, hx, fun h => ?_⟩
  obtain ⟨b, off, ha, hl, hh, hcell, hu⟩ := hne h
  exact ⟨b, off, ha, by omega, by omega, hcell, fun h0 => hu (by omega)⟩

theorem Limbs.pre {lo hi : Nat} {w : World} {ad : Option Addr} {n cap : Nat} {xs : List Nat} (h : Limbs lo hi w (.slice ad n cap) xs) (k : Nat) (hk : k ≤ xs.length) :
    Limbs lo hi w (.slice ad k cap) (xs.take k) := by
  obtain ⟨ad', cap', hv, hc, hnn, hx, hne⟩ := h
  simp only [Value.slice.injEq] at hv
  obtain ⟨rfl, _, rfl⟩ := hv
  refine ⟨ad, cap, by rw [List.length_take, Nat.min_eq_left hk], by rw [List.length_take]; omega, hnn, fun x h => hx x (List.mem_of_mem_take h), fun h => ?_⟩
  obtain ⟨b, off, ha, hl, hh, hcell, hu⟩ := hne (by intro e; subst e; simp at h)
  refine ⟨b, off, ha, hl, hh, fun i hi => ?_, hu⟩
  rw [List.length_take] at hi
  have : (xs.take k).getD i 0 = xs.getD i 0 := by simp [List.getD_eq_getElem?_getD, show i < k by omega]
  rw [this]
  exact hcell i (by omega)

/-! ### what the call itself owns: make, append, copy, a store; and that it reads as numbers -/

/-- a slice type's element row of the table -/
structure Elem (P : Program) (t e : TypeId) (z : Value) (size bytes : Nat) : Prop where
  sl : P.underlying t = some (.slice e)
  row : (P.info? e).map (fun i => (i.zero, i.size, i.bytes)) = some (some z, size, bytes)
  zs : z.cells.size = size
  pos : 0 < size

section laws
variable {P : Program} {w w0 : World} {ops : Array Oper} {rest : List Oper} {o : Oper} {a : Act} {Q : Exit → Act → World → Prop} {t e : TypeId} {z : Value} {size bytes : Nat}

/-- append of what lies in the block made last -/
theorem wpl_append1 (E : Elem P t e z size bytes) (hg : o.guard = none) (s x : Operand) (ho : o.op = .call { callee := .builtin .append, args := #[s, x], argTypes := #[t, t] })
    (B n m c : Nat) (v : Value) (xs : List Value) (arr : Array Value) (hown : w.ownsRow B e size v n xs) (hs : a.eval s = v) (hx : a.eval x = .slice (some ⟨w.heap.size, 0, none⟩) m c)
    (hl : arr.size = m * size) (h1 : ∀ u, u ∈ arr.toList → u.oneCell' = true)
    (hb : (n + m) * bytes ≤ 140737488355328) (hm : 0 < m) (h63 : n + m ≤ maxLen) (hbl : Below B w0 w) (hB : B ≤ w.heap.size)
    (h : ∀ g' c' w', w'.ownsRow B e size (.slice (some ⟨g', 0, none⟩) (n + m) c') (n + m) (xs ++ arr.toList) → Below B w0 w' → (w.alloc (.cells arr e)).grownBy w' v.ownBlock →
      wpList P ops Q rest (a.put o.dst (.slice (some ⟨g', 0, none⟩) (n + m) c')) w') :
    wpList P ops Q (o :: rest) a (w.alloc (.cells arr e)) := by
  obtain ⟨i, hi, hz, hsz, hby⟩ := info_parts E.row
  refine wpList_append_own _ hg s x t ho B e i z size bytes E.sl hi hz hsz hby E.zs E.pos v n xs hs (hown.alloc _) ⟨w.heap.size, 0, none⟩ m c arr.toList hx (by simpa using hl) ?_ h1 h63 hb
    (by simp; omega) ?_
  · intro j u hj
    rw [Addr.add_lit]
    have := cell_of_row (w.alloc (.cells arr e)) w.heap.size (0 + j) arr e (0, 0) (heap_alloc_new w _)
    rw [this]
    simpa using hj
  · intro v' w' hown' hgr hnil
    have hsh : ∃ g' c', v' = .slice (some ⟨g', 0, none⟩) (n + m) c' := by
      rcases hown'.2 with ⟨h1, _⟩ | ⟨g', c', _, h1, _⟩
      · have := (hnil.1 h1).2
        omega
      · exact ⟨g', c', h1⟩
    obtain ⟨g', c', rfl⟩ := hsh
    refine h g' c' w' hown' ((hbl.alloc hB _).grown hgr (by simp; omega) ?_) hgr
    intro k hk
    exact ((hown.lt) k hk).1

end laws

/-- numbers as cells -/
def u32s (xs : List Nat) : List Value := xs.map fun x => .int .u32 (x : Nat)

theorem Limbs.ofOwn {B : Nat} {w : World} {v : Value} {n : Nat} {xs : List Nat} (h : w.ownsRow B 94 1 v n (u32s xs)) (hx : ∀ x, x ∈ xs → x < 4294967296) :
    Limbs B w.heap.size w v xs := by
  have hn : xs.length = n := by simpa [u32s] using h.1
  rcases h.2 with ⟨rfl, rfl⟩ | ⟨g, cap, cur, rfl, hb, hg, hc, hm, hs, ht⟩
  · obtain rfl : xs = [] := List.eq_nil_of_length_eq_zero hn
    exact Limbs.nil
  · refine ⟨_, cap, by rw [hn], by omega, (by simp), hx, fun _ => ⟨g, 0, rfl, hb, (Array.getElem?_eq_some_iff.1 hg).1, fun i hi => ?_, fun _ => ⟨cur, hg⟩⟩⟩
    rw [cell_of_row w g (0 + i) cur 94 (0, 0) hg, Nat.zero_add]
    have : (u32s xs)[i]? = some (.int .u32 (xs.getD i 0 : Nat)) := by
      simp [u32s, List.getD_eq_getElem?_getD, hi]
    rw [← this, ← ht, List.getElem?_take, if_pos (by omega)]
    simp

theorem cellB {B : Nat} {w wr : World} (hb : Below B w wr) {p : Addr} {v : Value} (hc : w.cell? p = some v) (hB : w.heap.size ≤ B) : wr.cell? p = some v :=
  (hb.cell (Nat.lt_of_lt_of_le (World.block_lt_of_cell? w p hc) hB)).trans hc

/-- a slice of limbs, taken apart: its address is none only where there is no limb -/
theorem Limbs.open {lo hi : Nat} {w : World} {v : Value} {xs : List Nat} (h : Limbs lo hi w v xs) :
    ∃ ad cap, v = .slice ad xs.length cap ∧ xs.length ≤ cap ∧ (ad = none → cap = 0) ∧ (∀ x, x ∈ xs → x < 4294967296) ∧
      (∀ i, i < xs.length → ∃ b off, ad = some ⟨b, off, none⟩ ∧ lo ≤ b ∧ b < hi ∧ w.cell? ⟨b, off + i, none⟩ = some (.int .u32 (xs.getD i 0 : Nat))) := by
  obtain ⟨ad, cap, hv, hc, hn, hx, hne⟩ := h
  refine ⟨ad, cap, hv, hc, hn, hx, fun i hi => ?_⟩
  obtain ⟨b, off, ha, hl, hh, hcell, _⟩ := hne (by intro e; subst e; simp at hi)
  exact ⟨b, off, ha, hl, hh, hcell i hi⟩

theorem belowN {B : Nat} {a w : World} (h : Below B a w) (n : Nat) : Below B a (w.drewN n) := ⟨h.os, h.tape, h.output, h.size, h.block⟩

/-- block g is a row of just these cells -/
def BoxIs (w : World) (g : Nat) (T : TypeId) (cs : List Value) : Prop := w.heap[g]? = some (.cells cs.toArray T (0, 0))

theorem BoxIs.lt {w : World} {g : Nat} {T : TypeId} {cs : List Value} (h : BoxIs w g T cs) : g < w.heap.size := (Array.getElem?_eq_some_iff.1 h).1
theorem BoxIs.cell {w : World} {g : Nat} {T : TypeId} {cs : List Value} (h : BoxIs w g T cs) (i : Nat) (v : Value) (hi : cs[i]? = some v) : w.cell? ⟨g, i, none⟩ = some v := by
  rw [cell_of_row w g i cs.toArray T (0, 0) h]; simpa using hi
theorem BoxIs.frozen {w : World} {g : Nat} {T : TypeId} {cs : List Value} (h : BoxIs w g T cs) (i : Nat) : w.frozen? ⟨g, i, none⟩ = false := frozen_of_row w g i cs.toArray T h
theorem BoxIs.keep {w w' : World} {g : Nat} {T : TypeId} {cs : List Value} (h : BoxIs w g T cs) (hk : w'.heap[g]? = w.heap[g]?) : BoxIs w' g T cs := hk.trans h
theorem BoxIs.below {B : Nat} {w w' : World} {g : Nat} {T : TypeId} {cs : List Value} (h : BoxIs w g T cs) (hb : Below B w w') (hg : g < B) : BoxIs w' g T cs := h.keep (hb.block g hg)
theorem BoxIs.later {w w' : World} {g : Nat} {T : TypeId} {cs : List Value} (h : BoxIs w g T cs) (hb : Below w.heap.size w w') : BoxIs w' g T cs := h.below hb h.lt
theorem BoxIs.new (w : World) (arr : Array Value) (T : TypeId) : BoxIs (w.alloc (.cells arr T)) w.heap.size T arr.toList := heap_alloc_new w _
theorem BoxIs.alloc {w : World} {g : Nat} {T : TypeId} {cs : List Value} (h : BoxIs w g T cs) (o : Obj) : BoxIs (w.alloc o) g T cs := h.keep (Below.heap_alloc w o g h.lt)
theorem BoxIs.set {w : World} {g : Nat} {T : TypeId} {cs : List Value} (h : BoxIs w g T cs) (i : Nat) (v : Value) : BoxIs (w.setCell ⟨g, i, none⟩ v) g T (cs.set i v) := by
  have := heap_setCell_same w g i cs.toArray T v h
  simpa [BoxIs] using this
theorem BoxIs.other {w : World} {g : Nat} {T : TypeId} {cs : List Value} (h : BoxIs w g T cs) (p : Addr) (v : Value) (hp : g ≠ p.block) : BoxIs (w.setCell p v) g T cs := h.keep (Below.heap_setCell _ _ _ _ hp)

theorem BoxIs.two {w : World} {g : Nat} {T : TypeId} {a b : Value} (h : BoxIs w g T [a, b]) :
    w.cell? ⟨g, 0, none⟩ = some a ∧ w.cell? ⟨g, 1, none⟩ = some b ∧ w.frozen? ⟨g, 0, none⟩ = false ∧ w.frozen? ⟨g, 1, none⟩ = false :=
  ⟨h.cell 0 a rfl, h.cell 1 b rfl, h.frozen 0, h.frozen 1⟩
theorem BoxIs.four {w : World} {g : Nat} {T : TypeId} {a b c d : Value} (h : BoxIs w g T [a, b, c, d]) :
    (w.cell? ⟨g, 0, none⟩ = some a ∧ w.cell? ⟨g, 1, none⟩ = some b ∧ w.cell? ⟨g, 2, none⟩ = some c ∧ w.cell? ⟨g, 3, none⟩ = some d) ∧
      w.frozen? ⟨g, 0, none⟩ = false ∧ w.frozen? ⟨g, 1, none⟩ = false ∧ w.frozen? ⟨g, 2, none⟩ = false ∧ w.frozen? ⟨g, 3, none⟩ = false :=
  ⟨⟨h.cell 0 a rfl, h.cell 1 b rfl, h.cell 2 c rfl, h.cell 3 d rfl⟩, h.frozen 0, h.frozen 1, h.frozen 2, h.frozen 3⟩
theorem BoxIs.one {w : World} {g : Nat} {T : TypeId} {a : Value} (h : BoxIs w g T [a]) : w.cell? ⟨g, 0, none⟩ = some a ∧ w.frozen? ⟨g, 0, none⟩ = false := ⟨h.cell 0 a rfl, h.frozen 0⟩

theorem boxA (w : World) (a : Array Value) (T : TypeId) : Below w.heap.size w (w.alloc (.cells a T)) ∧ BoxIs (w.alloc (.cells a T)) w.heap.size T a.toList ∧ (w.alloc (.cells a T)).heap.size = w.heap.size + 1 :=
  ⟨(Below.refl _ _).alloc (Nat.le_refl _) _, BoxIs.new _ _ _, by simp⟩

theorem Limbs.shape {lo hi : Nat} {w : World} {v : Value} {xs : List Nat} (h : Limbs lo hi w v xs) : ∃ ad cap, v = .slice ad xs.length cap := by
  obtain ⟨ad, cap, hv, _⟩ := h
  exact ⟨ad, cap, hv⟩

/-- the numbers of a slice of integers of a kind -/
def Nums (k : IntKind) (lo hi : Nat) (w : World) (v : Value) (xs : List Nat) : Prop :=
  ∃ ad cap, v = .slice ad xs.length cap ∧ xs.length ≤ cap ∧ (ad = none → cap = 0) ∧
    (xs ≠ [] → ∃ b off, ad = some ⟨b, off, none⟩ ∧ lo ≤ b ∧ b < hi ∧ ∀ i, i < xs.length → w.cell? ⟨b, off + i, none⟩ = some (.int k (xs.getD i 0 : Nat)))

def numsC (k : IntKind) (xs : List Nat) : List Value := xs.map fun x => .int k (x : Nat)

theorem Nums.nil {k : IntKind} {lo hi : Nat} {w : World} : Nums k lo hi w (.slice none 0 0) [] := ⟨none, 0, rfl, Nat.le_refl _, fun _ => rfl, fun h => absurd rfl h⟩

theorem Nums.keep {k : IntKind} {lo hi : Nat} {w w' : World} {v : Value} {xs : List Nat} (h : Nums k lo hi w v xs)
    (hk : ∀ b, lo ≤ b → b < hi → w'.heap[b]? = w.heap[b]?) : Nums k lo hi w' v xs := by
  obtain ⟨ad, cap, hv, hc, hn, hne⟩ := h
  refine ⟨ad, cap, hv, hc, hn, fun h => ?_⟩
  obtain ⟨b, off, ha, hl, hh, hcell⟩ := hne h
  exact ⟨b, off, ha, hl, hh, fun i hi => (World.cell?_of_block (hk b hl hh)).trans (hcell i hi)⟩

theorem Nums.below {k : IntKind} {lo hi B : Nat} {w w' : World} {v : Value} {xs : List Nat} (h : Nums k lo hi w v xs)
    (hb : Below B w w') (hB : hi ≤ B) : Nums k lo hi w' v xs :=
  h.keep fun b _ hh => hb.block b (by omega)

theorem Nums.set {k : IntKind} {lo hi : Nat} {w : World} {v : Value} {xs : List Nat} (h : Nums k lo hi w v xs) (p : Addr) (u : Value) (hp : p.block < lo ∨ hi ≤ p.block) : Nums k lo hi (w.setCell p u) v xs :=
  h.keep fun b h1 h2 => Below.heap_setCell _ _ _ _ (by omega)

theorem Nums.wide {k : IntKind} {lo hi lo' hi' : Nat} {w : World} {v : Value} {xs : List Nat} (h : Nums k lo hi w v xs)
    (h1 : lo' ≤ lo) (h2 : hi ≤ hi') : Nums k lo' hi' w v xs := by
  obtain ⟨ad, cap, hv, hc, hn, hne⟩ := h
  refine ⟨ad, cap, hv, hc, hn, fun h => ?_⟩
  obtain ⟨b, off, ha, hl, hh, hcell⟩ := hne h
  exact ⟨b, off, ha, by omega, by omega, hcell⟩

theorem Nums.open {k : IntKind} {lo hi : Nat} {w : World} {v : Value} {xs : List Nat} (h : Nums k lo hi w v xs) :
    ∃ ad cap, v = .slice ad xs.length cap ∧ xs.length ≤ cap ∧
      (∀ i, i < xs.length → ∃ b off, ad = some ⟨b, off, none⟩ ∧ lo ≤ b ∧ b < hi ∧ w.cell? ⟨b, off + i, none⟩ = some (.int k (xs.getD i 0 : Nat))) := by
  obtain ⟨ad, cap, hv, hc, hn, hne⟩ := h
  refine ⟨ad, cap, hv, hc, fun i hi => ?_⟩
  obtain ⟨b, off, ha, hl, hh, hcell⟩ := hne (by intro e; subst e; simp at hi)
  exact ⟨b, off, ha, hl, hh, hcell i hi⟩

/-- without its first element: the address that Go's 's[1:]' has -/
theorem Nums.tail {k : IntKind} {lo hi : Nat} {w : World} {b off cap x : Nat} {xs : List Nat} (h : Nums k lo hi w (.slice (some ⟨b, off, none⟩) (x :: xs).length cap) (x :: xs)) :
    Nums k lo hi w (.slice (some (if cap = 1 then ⟨b, off, none⟩ else ⟨b, off + 1, none⟩)) xs.length (cap - 1)) xs := by
  obtain ⟨ad, cap', hv, hc, hn, hne⟩ := h
  simp only [Value.slice.injEq] at hv
  obtain ⟨rfl, _, rfl⟩ := hv
  simp only [List.length_cons] at hc
  refine ⟨_, _, rfl, by omega, by simp, fun h => ?_⟩
  obtain ⟨b', off', ha, hl, hh, hcell⟩ := hne (by simp)
  simp only [Option.some.injEq, Addr.mk.injEq, and_true] at ha
  obtain ⟨rfl, rfl⟩ := ha
  have hp : 0 < xs.length := List.length_pos_iff.2 h
  refine ⟨b, off + 1, by rw [if_neg (by omega)], hl, hh, fun i hi => ?_⟩
  have := hcell (i + 1) (by simp; omega)
  rw [Nat.add_assoc, Nat.add_comm 1 i, this]
  simp

theorem Nums.ofOwn {k : IntKind} {B : Nat} {w : World} {e : TypeId} {v : Value} {n : Nat} {xs : List Nat} (h : w.ownsRow B e 1 v n (numsC k xs)) : Nums k B w.heap.size w v xs := by
  have hn : xs.length = n := by simpa [numsC] using h.1
  rcases h.2 with ⟨rfl, rfl⟩ | ⟨g, cap, cur, rfl, hb, hg, hc, hm, hs, ht⟩
  · obtain rfl : xs = [] := List.eq_nil_of_length_eq_zero hn
    exact Nums.nil
  · refine ⟨_, cap, by rw [hn], by omega, (by simp), fun _ => ⟨g, 0, rfl, hb, (Array.getElem?_eq_some_iff.1 hg).1, fun i hi => ?_⟩⟩
    rw [cell_of_row w g (0 + i) cur e (0, 0) hg, Nat.zero_add]
    have : (numsC k xs)[i]? = some (.int k (xs.getD i 0 : Nat)) := by
      simp [numsC, List.getD_eq_getElem?_getD, hi]
    rw [← this, ← ht, List.getElem?_take, if_pos (by omega)]
    simp

/-! ### limbs and numbers -/

/-- rows of unlike element types are unlike blocks -/
theorem own_other {w : World} {B B' : Nat} {e e' : TypeId} {s s' : Nat} {g n cap n' : Nat} {v' : Value} {xs xs' : List Value} (h : w.ownsRow B e s (.slice (some ⟨g, 0, none⟩) n cap) n xs) (h' : w.ownsRow B' e' s' v' n' xs') (hne : e ≠ e') :
    v'.ownBlock ≠ some g := by
  intro hg
  rcases h.2 with ⟨h1, _⟩ | ⟨g1, c1, cur1, h1, _, hh1, _⟩
  · simp at h1
  · simp only [Value.slice.injEq, Option.some.injEq, Addr.mk.injEq, and_true, true_and] at h1
    obtain ⟨rfl, rfl⟩ := h1
    rcases h'.2 with ⟨rfl, _⟩ | ⟨g2, c2, cur2, rfl, _, hh2, _⟩
    · simp [Value.ownBlock] at hg
    · simp [Value.ownBlock] at hg
      subst hg
      rw [hh1] at hh2
      simp at hh2
      exact hne hh2.2

theorem own_shape {w : World} {B : Nat} {e : TypeId} {s n : Nat} {v : Value} {xs : List Value} (h : w.ownsRow B e s v n xs) : ∃ ad c, v = .slice ad n c := by
  rcases h.2 with ⟨rfl, rfl⟩ | ⟨g, cap, cur, rfl, _⟩
  · exact ⟨_, _, rfl⟩
  · exact ⟨_, _, rfl⟩

end Go.Proofs.YtinmoligjcajmaaGreatDoor
/- nat.trim, nat.own, nat.Norm: what they hand back, at every slice. -/
namespace Go.Proofs.YtinmoligjcajmaaGreatDoor
open Go.RowKit

end Go.Proofs.YtinmoligjcajmaaGreatDoor
/- simileref01's limb, Zero, Same, Norm, Of: what they hand back. -/
namespace Go.Proofs.YtinmoligjcajmaaGreatDoor
open Go.RowKit

end Go.Proofs.YtinmoligjcajmaaGreatDoor
/- Limbs and the numbers that they make. Plain; no condition. -/
namespace Go.Proofs.YtinmoligjcajmaaGreatDoor
open Go.RowKit

end Go.Proofs.YtinmoligjcajmaaGreatDoor
/- simileref01's Add, Small, shift, Sub, Cmp: what they hand back. -/
namespace Go.Proofs.YtinmoligjcajmaaGreatDoor
open Go.RowKit

end Go.Proofs.YtinmoligjcajmaaGreatDoor
/- simileref01's Cmp, Sub: what they hand back. -/
namespace Go.Proofs.YtinmoligjcajmaaGreatDoor
open Go.RowKit

end Go.Proofs.YtinmoligjcajmaaGreatDoor
/- simileref01's Mul, Div: what they hand back. -/
namespace Go.Proofs.YtinmoligjcajmaaGreatDoor
open Go.RowKit

end Go.Proofs.YtinmoligjcajmaaGreatDoor
/- simileref01's Div: quotient and rest. -/
namespace Go.Proofs.YtinmoligjcajmaaGreatDoor
open Go.RowKit

theorem Limbs.set {lo hi : Nat} {w : World} {v : Value} {xs : List Nat} (h : Limbs lo hi w v xs) (p : Addr) (u : Value) (hp : p.block < lo ∨ hi ≤ p.block) : Limbs lo hi (w.setCell p u) v xs :=
  h.keep fun b h1 h2 => Below.heap_setCell _ _ _ _ (by omega)

end Go.Proofs.YtinmoligjcajmaaGreatDoor
/- simileref02's Norm, Sign, Neg, Of, Same, May. -/
namespace Go.Proofs.YtinmoligjcajmaaGreatDoor
open Go.RowKit

end Go.Proofs.YtinmoligjcajmaaGreatDoor
/- the digits of a number in a base, as text: plain; and simileref02.Digits. -/
namespace Go.Proofs.YtinmoligjcajmaaGreatDoor
open Go.RowKit

end Go.Proofs.YtinmoligjcajmaaGreatDoor
/- numeral.write: a natural number's digits in a base, at every slice of limbs. -/
namespace Go.Proofs.YtinmoligjcajmaaGreatDoor
open Go.RowKit

end Go.Proofs.YtinmoligjcajmaaGreatDoor
/- numeral.signed, PrintInt, Based, PrintFrac; simileref02.Based, PrintFrac: at every number. -/
namespace Go.Proofs.YtinmoligjcajmaaGreatDoor
open Go.RowKit

theorem Limbs.lt {lo hi : Nat} {w : World} {v : Value} {xs : List Nat} (h : Limbs lo hi w v xs) : ∀ x, x ∈ xs → x < 4294967296 := by
  obtain ⟨_, _, _, _, _, hlt, _⟩ := h.open
  exact hlt

end Go.Proofs.YtinmoligjcajmaaGreatDoor
/- the runes of a text, as Go's range over a string tells them; and what a rune is. Plain, and numeral.what, value, simileref02.digit, minus, bar, gap. -/
namespace Go.Proofs.YtinmoligjcajmaaGreatDoor
open Go.RowKit

/-- the runes of a text from a place on, as many -/
def runesF (s : ByteArray) : Nat → Nat → List Nat
  | 0, _ => []
  | f + 1, pos => if pos < s.size then (Utf8.decode s pos).1 :: runesF s f (pos + (Utf8.decode s pos).2) else []

def runesAt (s : ByteArray) (pos : Nat) : List Nat := runesF s (s.size - pos) pos

theorem decode_width (s : ByteArray) (i : Nat) : 1 ≤ (Utf8.decode s i).2 ∧ (Utf8.decode s i).2 ≤ 4 := by
  simp only [Utf8.decode]
  repeat' split
  all_goals (constructor <;> simp)

theorem decode_lt (s : ByteArray) (i : Nat) : (Utf8.decode s i).1 < 2097152 := by
  have h : ∀ k, (s.get! (i + k)).toNat < 256 := fun k => UInt8.toNat_lt _
  have h0 := h 0
  rw [Nat.add_zero] at h0
  have h1 := h 1
  have h2 := h 2
  have h3 := h 3
  simp only [Utf8.decode]
  repeat' split
  all_goals (simp only [Utf8.runeError, Nat.add_zero]; omega)

theorem runesF_succ (s : ByteArray) : ∀ f pos, s.size - pos ≤ f → runesF s (f + 1) pos = runesF s f pos := by
  intro f
  induction f with
  | zero => intro pos h; simp [runesF]; omega
  | succ f ih =>
    intro pos h
    by_cases hp : pos < s.size
    · have hw := (decode_width s pos).1
      have h1 : runesF s (f + 1 + 1) pos = (Utf8.decode s pos).1 :: runesF s (f + 1) (pos + (Utf8.decode s pos).2) := by rw [runesF, if_pos hp]
      have h2 : runesF s (f + 1) pos = (Utf8.decode s pos).1 :: runesF s f (pos + (Utf8.decode s pos).2) := by rw [runesF, if_pos hp]
      rw [h1, h2, ih _ (by omega)]
    · have h1 : runesF s (f + 1 + 1) pos = [] := by rw [runesF, if_neg hp]
      have h2 : runesF s (f + 1) pos = [] := by rw [runesF, if_neg hp]
      rw [h1, h2]

theorem runesF_more (s : ByteArray) (pos n d : Nat) (h : s.size - pos ≤ n) : runesF s (n + d) pos = runesF s n pos := by
  induction d with
  | zero => rfl
  | succ d ih => rw [← Nat.add_assoc, runesF_succ s _ _ (by omega), ih]

theorem runesAt_end (s : ByteArray) (pos : Nat) (h : ¬ pos < s.size) : runesAt s pos = [] := by
  unfold runesAt
  rw [show s.size - pos = 0 from by omega]
  rfl

theorem runesAt_step (s : ByteArray) (pos : Nat) (h : pos < s.size) : runesAt s pos = (Utf8.decode s pos).1 :: runesAt s (pos + (Utf8.decode s pos).2) := by
  unfold runesAt
  obtain ⟨m, hm⟩ : ∃ m, s.size - pos = m + 1 := ⟨s.size - pos - 1, by omega⟩
  have hw := (decode_width s pos).1
  rw [hm, runesF, if_pos h]
  obtain ⟨d, hd⟩ : ∃ d, m = (s.size - (pos + (Utf8.decode s pos).2)) + d := ⟨m - (s.size - (pos + (Utf8.decode s pos).2)), by omega⟩
  rw [hd, runesF_more s _ _ d (Nat.le_refl _)]

theorem runesAt_len (s : ByteArray) (pos : Nat) : (runesAt s pos).length ≤ s.size - pos := by
  obtain ⟨n, hn⟩ : ∃ n, s.size - pos = n := ⟨_, rfl⟩
  induction n using Nat.strongRecOn generalizing pos with
  | ind n ih =>
    by_cases h : pos < s.size
    · rw [runesAt_step s pos h]
      have hw := (decode_width s pos).1
      have := ih (s.size - (pos + (Utf8.decode s pos).2)) (by omega) (pos + (Utf8.decode s pos).2) rfl
      simp only [List.length_cons]
      omega
    · rw [runesAt_end s pos h]; simp

/-- the runes of a text -/
def runesOf (s : ByteArray) : List Nat := runesAt s 0

theorem runesAt_lt (s : ByteArray) (pos : Nat) : ∀ r, r ∈ runesAt s pos → r < 2097152 := by
  obtain ⟨n, hn⟩ : ∃ n, s.size - pos = n := ⟨_, rfl⟩
  induction n using Nat.strongRecOn generalizing pos with
  | ind n ih =>
    by_cases h : pos < s.size
    · rw [runesAt_step s pos h]
      intro r hr
      have hw := (decode_width s pos).1
      rcases List.mem_cons.1 hr with rfl | hr
      · exact decode_lt s pos
      · exact ih (s.size - (pos + (Utf8.decode s pos).2)) (by omega) _ rfl r hr
    · rw [runesAt_end s pos h]; simp

/-! ### what a rune is -/

def isMinus (r : Nat) : Bool := r == 45 || r == 8722
def isBar (r : Nat) : Bool := r == 47 || r == 8260 || r == 8725
def isGap (r : Nat) : Bool := r == 32 || r == 9 || r == 160 || r == 8201
def isDigit (r : Nat) : Bool := decide (48 ≤ r) && decide (r ≤ 57)

/-- its kind's number: other 0, digit 1, minus 2, bar 3, gap 4, comma 5, a row's end 6 -/
def kindOf (r : Nat) : Nat :=
  if isMinus r then 2 else if isBar r then 3 else if isGap r then 4 else if r = 44 then 5 else if r = 59 ∨ r = 10 then 6 else if isDigit r then 1 else 0

def kindI (r : Int) : Int :=
  if r = 45 ∨ r = 8722 then 2 else if r = 47 ∨ r = 8260 ∨ r = 8725 then 3 else if r = 32 ∨ r = 9 ∨ r = 160 ∨ r = 8201 then 4 else if r = 44 then 5
  else if r = 59 ∨ r = 10 then 6 else if 48 ≤ r ∧ r ≤ 57 then 1 else 0

theorem kindI_nat (r : Nat) : kindI (r : Nat) = (kindOf r : Nat) := by
  unfold kindI kindOf isMinus isBar isGap isDigit
  simp only [Bool.or_eq_true, beq_iff_eq, Bool.and_eq_true, decide_eq_true_eq]
  repeat' split
  all_goals first | rfl | omega

theorem ret_i64 {a b : Int} (h : a = b) : Ending.returned (.int .i64 a) = Ending.returned (.int .i64 b) := by rw [h]
theorem ret_bool {a b : Bool} (h : a = b) : Ending.returned (.bool a) = Ending.returned (.bool b) := by rw [h]

set_option maxHeartbeats 1600000 in
theorem what_int (r : Int) (w : World) :
    Calls Tryz.prog 108 #[.int .i32 r] w fun e w' => e = .returned (.int .i64 (kindI r)) ∧ w = w' := by
  go_enter Tryz.func108, Tryz.ntmps108
  go_wp2
  all_goals
    go_ret
    refine ⟨ret_i64 ?_, rfl⟩
    go_tidy
    simp only [beq_iff_eq, beq_eq_false_iff_ne] at *
    show _ = kindI r
    unfold kindI
    (repeat' split) <;> first | rfl | omega

theorem what_any (r : Nat) (w : World) :
    Calls Tryz.prog 108 #[.int .i32 (r : Nat)] w fun e w' => e = .returned (.int .i64 (kindOf r : Nat)) ∧ w = w' := by
  have := what_int (r : Int) w
  rwa [kindI_nat] at this

set_option maxHeartbeats 400000 in
theorem minus_any (r : Nat) (w : World) :
    Calls Tryz.prog 96 #[.int .i32 (r : Nat)] w fun e w' => e = .returned (.bool (isMinus r)) ∧ w = w' := by
  go_enter Tryz.func96, Tryz.ntmps96
  go_wp2
  all_goals
    go_ret
    refine ⟨ret_bool ?_, rfl⟩
    go_tidy
    try simp only [beq_iff_eq, beq_eq_false_iff_ne] at *
    show _ = isMinus r
    unfold isMinus
    rw [Bool.eq_iff_iff]
    simp
    try omega

set_option maxHeartbeats 400000 in
theorem bar_any (r : Nat) (w : World) :
    Calls Tryz.prog 80 #[.int .i32 (r : Nat)] w fun e w' => e = .returned (.bool (isBar r)) ∧ w = w' := by
  go_enter Tryz.func80, Tryz.ntmps80
  go_wp2
  all_goals
    go_ret
    refine ⟨ret_bool ?_, rfl⟩
    go_tidy
    try simp only [beq_iff_eq, beq_eq_false_iff_ne] at *
    show _ = isBar r
    unfold isBar
    rw [Bool.eq_iff_iff]
    simp
    try omega

set_option maxHeartbeats 400000 in
theorem gap_any (r : Nat) (w : World) :
    Calls Tryz.prog 79 #[.int .i32 (r : Nat)] w fun e w' => e = .returned (.bool (isGap r)) ∧ w = w' := by
  go_enter Tryz.func79, Tryz.ntmps79
  go_wp2
  all_goals
    go_ret
    refine ⟨ret_bool ?_, rfl⟩
    go_tidy
    try simp only [beq_iff_eq, beq_eq_false_iff_ne] at *
    show _ = isGap r
    unfold isGap
    rw [Bool.eq_iff_iff]
    simp
    try omega
end Go.Proofs.YtinmoligjcajmaaGreatDoor
/- numeral.runes, simileref02.Runes: the runes of a text. -/
namespace Go.Proofs.YtinmoligjcajmaaGreatDoor
open Go.RowKit

theorem elemRunes : Elem Tryz.prog 105 21 (.int .i32 0) 1 4 :=
  ⟨Tryz.underlying105, by kernel_rfl, rfl, by decide⟩

theorem iterAt_own {w : World} {B : Nat} {e : TypeId} {size n : Nat} {v : Value} {xs : List Value} (h : w.ownsRow B e size v n xs) {k : Nat} {s : ByteArray} {pos : Nat} (hk : w.heap[k]? = some (.stringIter s pos)) (pos' : Nat) :
    (w.iterAt k s pos').ownsRow B e size v n xs := by
  refine ⟨h.1, ?_⟩
  rcases h.2 with hn | ⟨g, cap, cur, rfl, hbg, hgg, rest⟩
  · exact .inl hn
  · refine .inr ⟨g, cap, cur, rfl, hbg, ?_, rest⟩
    rw [Lib.iterAt_other w k g s pos' (by intro e; subst e; rw [hgg] at hk; cases hk)]
    exact hgg

theorem grown_iter {w w' : World} {row : Option Nat} {k : Nat} {s : ByteArray} {pos : Nat} (hg : w.grownBy w' row) (hk : w.heap[k]? = some (.stringIter s pos)) (hr : ∀ g, row = some g → ∃ c T f, w.heap[g]? = some (.cells c T f)) :
    w'.heap[k]? = some (.stringIter s pos) := by
  rw [hg.block k (Array.getElem?_eq_some_iff.1 hk).1 ?_, hk]
  intro e
  obtain ⟨c, T, f, h⟩ := hr k e.symm
  rw [hk] at h
  cases h

theorem own_kind {w : World} {B : Nat} {e : TypeId} {size n : Nat} {v : Value} {xs : List Value} (h : w.ownsRow B e size v n xs) : ∀ g, v.ownBlock = some g → ∃ c T f, w.heap[g]? = some (.cells c T f) := by
  intro g hg
  rcases h.2 with ⟨rfl, _⟩ | ⟨g', cap, cur, rfl, _, hgg, _⟩
  · simp [Value.ownBlock] at hg
  · simp [Value.ownBlock] at hg
    subst hg
    exact ⟨_, _, _, hgg⟩

end Go.Proofs.YtinmoligjcajmaaGreatDoor
/- numeral.number: the digits of a base make one number. -/
namespace Go.Proofs.YtinmoligjcajmaaGreatDoor
open Go.RowKit

end Go.Proofs.YtinmoligjcajmaaGreatDoor
/- simileref02's value, all, signed, FromBase, Int: what texts say. -/
namespace Go.Proofs.YtinmoligjcajmaaGreatDoor
open Go.RowKit

/-- is there a minus ahead? -/
def negative (L : List Nat) : Bool := match L with | [] => false | r :: _ => isMinus r

end Go.Proofs.YtinmoligjcajmaaGreatDoor
/- numeral.FromBase: what a text says in a base. -/
namespace Go.Proofs.YtinmoligjcajmaaGreatDoor
open Go.RowKit

/-- the digits' runes of a text -/
def body (L : List Nat) : List Nat := if negative L then L.tail else L

theorem kindOf_minus (r : Nat) : (kindOf r = 2) ↔ isMinus r = true := by
  unfold kindOf
  constructor
  · intro h
    cases hm : isMinus r
    · rw [hm] at h
      repeat' split at h
      all_goals simp_all
    · rfl
  · intro h; rw [if_pos h]

end Go.Proofs.YtinmoligjcajmaaGreatDoor
/- numeral's reader: zeros, next, natural, integer. -/
namespace Go.Proofs.YtinmoligjcajmaaGreatDoor
open Go.RowKit

theorem grown_refl (w : World) (row : Option Nat) : w.grownBy w row := ⟨rfl, rfl, rfl, Nat.le_refl _, fun _ _ _ => rfl⟩
theorem grown_below {a b : World} {row : Option Nat} (h : Below a.heap.size a b) : a.grownBy b row := ⟨h.os, h.tape, h.output, h.size, fun i hi _ => h.block i hi⟩
theorem grown_set (w : World) (p : Addr) (v : Value) : w.grownBy (w.setCell p v) (some p.block) :=
  ⟨rfl, rfl, rfl, by simp [World.setCell], fun i _ hr => Below.heap_setCell _ _ _ _ (fun e => hr (by rw [e]))⟩
theorem below_grown {B : Nat} {a w w' : World} {g : Nat} (h : Below B a w) (hg : w.grownBy w' (some g)) (hB : B ≤ w.heap.size) (hr : B ≤ g) : Below B a w' :=
  h.grown hg hB (fun k hk => by cases hk; exact hr)
/-- a kind's rune ahead is taken -/
def ahead (k : Nat) (L : List Nat) : Bool := match L with | [] => false | r :: _ => kindOf r == k
def behind (k : Nat) (L : List Nat) : List Nat := if ahead k L then L.tail else L

end Go.Proofs.YtinmoligjcajmaaGreatDoor
/- numeral's reader: what is deferred. -/
namespace Go.Proofs.YtinmoligjcajmaaGreatDoor
open Go.RowKit

end Go.Proofs.YtinmoligjcajmaaGreatDoor
/- numeral.read: a text as a number. -/
namespace Go.Proofs.YtinmoligjcajmaaGreatDoor
open Go.RowKit

end Go.Proofs.YtinmoligjcajmaaGreatDoor
/-
  DERIVED: THE SHELF's CONTRACTS AT THIS DUMP, IN PLAIN WORDS (tools/lay-plain.mjs out of 'TryzShelf.lean', which tools/lay-shelf.mjs wrote): THE SAME DECLARATIONS UNDER THE SAME NAMES: 'import', 'namespace', 'open', 'def', 'theorem' AND NOTHING ELSE: no command of the shelf's: FOR A HAND-IN. Each laying: the table of numbers ('.._ren') and one theorem, a field a fact of the dump's own or the kernel's comparison; each contract: ONE APPLICATION.
-/
namespace Go.Proofs
open Go.Shelf
def Tryz.lays169_ren : Go.Shelf.Ren := ⟨fun | 169 => 31 | n => n, fun | 70 => 77 | 9 => 9 | 0 => 0 | 72 => 80 | 37 => 78 | 127 => 122 | 3 => 3 | 5 => 5 | n => n, fun | n => n⟩
theorem Tryz.lays169 : Go.Proofs.Lays.n169 Tryz.prog Tryz.lays169_ren := {
  mixed := by kernel_rfl
  f169 := Tryz.func31.trans (congrArg some (by kernel_rfl))
  t0 := Tryz.underlying0
  a0 := Tryz.isAgg0
  z0 := Tryz.sizeOf0
  v0 := Tryz.zeroValue0
  t3 := Tryz.underlying3
  a3 := Tryz.isAgg3
  z3 := Tryz.sizeOf3
  v3 := Tryz.zeroValue3
  t9 := Tryz.underlying9
  a9 := Tryz.isAgg9
  z9 := Tryz.sizeOf9
  v9 := Tryz.zeroValue9
  t37 := Tryz.underlying78
  a37 := Tryz.isAgg78
  z37 := Tryz.sizeOf78
  v37 := Tryz.zeroValue78
  t70 := Tryz.underlying77
  a70 := Tryz.isAgg77
  z70 := Tryz.sizeOf77
  v70 := Tryz.zeroValue77
  t72 := Tryz.underlying80
  a72 := Tryz.isAgg80
  z72 := Tryz.sizeOf80
  v72 := Tryz.zeroValue80
  t127 := Tryz.underlying122
  a127 := Tryz.isAgg122
  z127 := Tryz.sizeOf122
  v127 := Tryz.zeroValue122 }
theorem Tryz.Builder_Extra_169 : Builder.Extra Tryz.prog Tryz.lays169_ren := {
  sizeBuilder := by kernel_rfl
  liesBuilder := by kernel_rfl
  t5 := Tryz.underlying5
  a5 := Tryz.isAgg5
  z5 := Tryz.sizeOf5
  v5 := Tryz.zeroValue5
  infoByte := by kernel_rfl
  cellsByte := by kernel_rfl
  sizeByte := by kernel_rfl
  neB5 := by decide }
open Go.RowKit in
/-- (*strings.Builder).String: "String returns the accumulated string.": WHATEVER THE BUILDER HOLDS. (LAID: no walk: one application.) -/
theorem Tryz.Builder_String_any (B b : Nat) (l : List UInt8) (w : World) (h : Lib.IsBuilder 80 5 B b (Lib.byteCells l) w) (hBw : B ≤ w.heap.size) :
    Calls Tryz.prog 31 #[.pointer (some ⟨b, 0, none⟩)] w fun e w' => e = .returned (.string ⟨l.toArray⟩) ∧ Below B w w' := Any.Builder_String_any Tryz.lays169 Tryz.Builder_Extra_169 B b l w h hBw
def Tryz.lays160_ren : Go.Shelf.Ren := ⟨fun | 160 => 91 | 232 => 136 | 231 => 135 | 227 => 137 | 234 => 139 | 233 => 138 | 236 => 141 | 235 => 140 | 228 => 181 | 271 => 183 | 151 => 182 | 197 => 106 | 120 => 227 | 152 => 226 | 260 => 163 | 137 => 276 | 119 => 277 | 224 => 213 | 225 => 212 | 217 => 211 | 266 => 270 | n => n, fun | 9 => 9 | 4 => 4 | 3 => 3 | 5 => 5 | 117 => 203 | 116 => 202 | 0 => 0 | 124 => 206 | 21 => 21 | 105 => 182 | 46 => 229 | 119 => 284 | 139 => 287 | 138 => 286 | n => n, fun | 3 => 2 | 4 => 3 | n => n⟩
theorem Tryz.lays160 : Go.Proofs.Lays.n160 Tryz.prog Tryz.lays160_ren := {
  mixed := by kernel_rfl
  f119 := Tryz.func277.trans (congrArg some (by kernel_rfl))
  f120 := Tryz.func227.trans (congrArg some (by kernel_rfl))
  f137 := Tryz.func276.trans (congrArg some (by kernel_rfl))
  f151 := Tryz.func182.trans (congrArg some (by kernel_rfl))
  f152 := Tryz.func226.trans (congrArg some (by kernel_rfl))
  f160 := Tryz.func91.trans (congrArg some (by kernel_rfl))
  f197 := Tryz.func106.trans (congrArg some (by kernel_rfl))
  f217 := Tryz.func211.trans (congrArg some (by kernel_rfl))
  f224 := Tryz.func213.trans (congrArg some (by kernel_rfl))
  f225 := Tryz.func212.trans (congrArg some (by kernel_rfl))
  f227 := Tryz.func137.trans (congrArg some (by kernel_rfl))
  f228 := Tryz.func181.trans (congrArg some (by kernel_rfl))
  f231 := Tryz.func135.trans (congrArg some (by kernel_rfl))
  f232 := Tryz.func136.trans (congrArg some (by kernel_rfl))
  f233 := Tryz.func138.trans (congrArg some (by kernel_rfl))
  f234 := Tryz.func139.trans (congrArg some (by kernel_rfl))
  f235 := Tryz.func140.trans (congrArg some (by kernel_rfl))
  f236 := Tryz.func141.trans (congrArg some (by kernel_rfl))
  f260 := Tryz.func163.trans (congrArg some (by kernel_rfl))
  f266 := Tryz.func270.trans (congrArg some (by kernel_rfl))
  f271 := Tryz.func183.trans (congrArg some (by kernel_rfl))
  t0 := Tryz.underlying0
  a0 := Tryz.isAgg0
  z0 := Tryz.sizeOf0
  v0 := Tryz.zeroValue0
  t3 := Tryz.underlying3
  a3 := Tryz.isAgg3
  z3 := Tryz.sizeOf3
  v3 := Tryz.zeroValue3
  t4 := Tryz.underlying4
  a4 := Tryz.isAgg4
  z4 := Tryz.sizeOf4
  v4 := Tryz.zeroValue4
  t5 := Tryz.underlying5
  a5 := Tryz.isAgg5
  z5 := Tryz.sizeOf5
  v5 := Tryz.zeroValue5
  t9 := Tryz.underlying9
  a9 := Tryz.isAgg9
  z9 := Tryz.sizeOf9
  v9 := Tryz.zeroValue9
  t21 := Tryz.underlying21
  a21 := Tryz.isAgg21
  z21 := Tryz.sizeOf21
  v21 := Tryz.zeroValue21
  t46 := Tryz.underlying229
  a46 := Tryz.isAgg229
  z46 := Tryz.sizeOf229
  v46 := Tryz.zeroValue229
  t105 := Tryz.underlying182
  a105 := Tryz.isAgg182
  z105 := Tryz.sizeOf182
  v105 := Tryz.zeroValue182
  t116 := Tryz.underlying202
  a116 := Tryz.isAgg202
  z116 := Tryz.sizeOf202
  t117 := Tryz.underlying203
  a117 := Tryz.isAgg203
  z117 := Tryz.sizeOf203
  v117 := Tryz.zeroValue203
  t119 := Tryz.underlying284
  a119 := Tryz.isAgg284
  z119 := Tryz.sizeOf284
  t124 := Tryz.underlying206
  a124 := Tryz.isAgg206
  z124 := Tryz.sizeOf206
  v124 := Tryz.zeroValue206
  t138 := Tryz.underlying286
  a138 := Tryz.isAgg286
  z138 := Tryz.sizeOf286
  v138 := Tryz.zeroValue286
  t139 := Tryz.underlying287
  a139 := Tryz.isAgg287
  z139 := Tryz.sizeOf287
  v139 := Tryz.zeroValue287
  g3 := by kernel_rfl
  g4 := by kernel_rfl }
open Go.RowKit in
/-- strings.Trim: "Trim returns a slice of the string s with all leading and trailing Unicode code points contained in cutset removed.": AT A cutset OF ONE ASCII BYTE. THE WORLD BEHIND IT: as it was, or (where s is not empty) with ONE DRAW MORE off the tape: the statement 'return trimLeftByte(trimRightByte(s, c), c)' draws its order of evaluation. (LAID: no walk: one application.) -/
theorem Tryz.strings_Trim_one (s : ByteArray) (c : UInt8) (hc : c.toNat < 128) (w : World) (hs : s.size ≤ 9223372036854775807) :
    Calls Tryz.prog 91 #[.string s, .string ⟨#[c]⟩] w fun e w' => e = .returned (.string ⟨(Lib.trimB s.data.toList c).toArray⟩) ∧ (w' = w ∨ w' = w.drew) := Any.strings_Trim_one Tryz.lays160 s c hc w hs
def Tryz.lays242_ren : Go.Shelf.Ren := ⟨fun | 242 => 184 | 278 => 228 | n => n, fun | 37 => 78 | 21 => 21 | 51 => 94 | 4 => 4 | 5 => 5 | 46 => 229 | n => n, fun | n => n⟩
theorem Tryz.lays242 : Go.Proofs.Lays.n242 Tryz.prog Tryz.lays242_ren := {
  mixed := by kernel_rfl
  f242 := Tryz.func184.trans (congrArg some (by kernel_rfl))
  f278 := Tryz.func228.trans (congrArg some (by kernel_rfl))
  t4 := Tryz.underlying4
  a4 := Tryz.isAgg4
  z4 := Tryz.sizeOf4
  v4 := Tryz.zeroValue4
  t5 := Tryz.underlying5
  a5 := Tryz.isAgg5
  z5 := Tryz.sizeOf5
  v5 := Tryz.zeroValue5
  t21 := Tryz.underlying21
  a21 := Tryz.isAgg21
  z21 := Tryz.sizeOf21
  v21 := Tryz.zeroValue21
  t37 := Tryz.underlying78
  a37 := Tryz.isAgg78
  z37 := Tryz.sizeOf78
  v37 := Tryz.zeroValue78
  t46 := Tryz.underlying229
  a46 := Tryz.isAgg229
  z46 := Tryz.sizeOf229
  v46 := Tryz.zeroValue229
  t51 := Tryz.underlying94
  a51 := Tryz.isAgg94
  z51 := Tryz.sizeOf94
  v51 := Tryz.zeroValue94 }
open Go.RowKit in
/-- unicode/utf8.AppendRune: "AppendRune appends the UTF-8 encoding of r to the end of p and returns the extended buffer. If the rune is out of range, it appends the encoding of RuneError.": ONTO A ROW OF BYTES THAT THE CALL OWNS (its head frozen or not): EVERY int32: 'Lib.runeCells r' goes in behind what the row holds; the world: one new block (the bytes as the call's variadic argument), then what 'append' does to the row. (LAID: no walk: one application.) -/
theorem Tryz.utf8_AppendRune_plain (B : Nat) (v : Value) (n : Nat) (xs : List Value) (r : Int) (hr0 : -2147483648 ≤ r) (hr1 : r ≤ 2147483647) (w : World) (hown : w.ownsRow B 5 1 v n xs) (hlen : n + 4 ≤ 140737488355328) (hBw : B ≤ w.heap.size) :
    Calls Tryz.prog 184 #[v, .int .i32 r] w fun e w' => ∃ v', e = .returned v' ∧ w'.ownsRow B 5 1 v' (n + (Lib.runeCells r).length) (xs ++ Lib.runeCells r) ∧ ∃ o, (w.alloc o).grownBy w' v.ownBlock := Any.utf8_AppendRune_plain Tryz.lays242 (by kernel_rfl) B v n xs r hr0 hr1 w hown hlen hBw
def Tryz.lays145_ren : Go.Shelf.Ren := ⟨fun | 145 => 94 | 220 => 143 | 219 => 161 | 217 => 211 | 225 => 212 | 224 => 213 | 267 => 214 | 266 => 270 | 314 => 271 | n => n, fun | 9 => 9 | 4 => 4 | 59 => 118 | 3 => 3 | 5 => 5 | 46 => 229 | 146 => 370 | 51 => 94 | n => n, fun | 1 => 1 | n => n⟩
theorem Tryz.lays145 : Go.Proofs.Lays.n145 Tryz.prog Tryz.lays145_ren := {
  mixed := by kernel_rfl
  f145 := Tryz.func94.trans (congrArg some (by kernel_rfl))
  f217 := Tryz.func211.trans (congrArg some (by kernel_rfl))
  f219 := Tryz.func161.trans (congrArg some (by kernel_rfl))
  f220 := Tryz.func143.trans (congrArg some (by kernel_rfl))
  f224 := Tryz.func213.trans (congrArg some (by kernel_rfl))
  f225 := Tryz.func212.trans (congrArg some (by kernel_rfl))
  f266 := Tryz.func270.trans (congrArg some (by kernel_rfl))
  f267 := Tryz.func214.trans (congrArg some (by kernel_rfl))
  f314 := Tryz.func271.trans (congrArg some (by kernel_rfl))
  t3 := Tryz.underlying3
  a3 := Tryz.isAgg3
  z3 := Tryz.sizeOf3
  v3 := Tryz.zeroValue3
  t4 := Tryz.underlying4
  a4 := Tryz.isAgg4
  z4 := Tryz.sizeOf4
  v4 := Tryz.zeroValue4
  t5 := Tryz.underlying5
  a5 := Tryz.isAgg5
  z5 := Tryz.sizeOf5
  v5 := Tryz.zeroValue5
  t9 := Tryz.underlying9
  a9 := Tryz.isAgg9
  z9 := Tryz.sizeOf9
  v9 := Tryz.zeroValue9
  t46 := Tryz.underlying229
  a46 := Tryz.isAgg229
  z46 := Tryz.sizeOf229
  v46 := Tryz.zeroValue229
  t51 := Tryz.underlying94
  a51 := Tryz.isAgg94
  z51 := Tryz.sizeOf94
  v51 := Tryz.zeroValue94
  t59 := Tryz.underlying118
  a59 := Tryz.isAgg118
  z59 := Tryz.sizeOf118
  v59 := Tryz.zeroValue118
  t146 := Tryz.underlying370
  a146 := Tryz.isAgg370
  z146 := Tryz.sizeOf370
  v146 := Tryz.zeroValue370
  g1 := by kernel_rfl }
open Go.RowKit Go.Lib in
/-- strings.Cut: "Cut slices s around the first instance of sep, returning the text before and after sep. The found result reports whether sep appears in s. If sep does not appear in s, cut returns s, "", false.": IT RETURNS 'Lib.cut s sep'; the world is as it was but for the count of draws. (LAID: no walk: one application.) -/
theorem Tryz.strings_Cut (s sep : ByteArray) (m : Int) (w : World) (hs : s.size < 4294967281) (hm : w.cell? ⟨1, 0, none⟩ = some (.int .i64 m)) :
    Calls Tryz.prog 94 #[.string s, .string sep] w fun e w' => e = .returned (.tuple #[.string ⟨(Lib.cut s.data.toList sep.data.toList).1.toArray⟩, .string ⟨(Lib.cut s.data.toList sep.data.toList).2.1.toArray⟩, .bool (Lib.cut s.data.toList sep.data.toList).2.2]) ∧ ∃ n, w' = w.drewN n := Any.strings_Cut Tryz.lays145 s sep m w hs hm
def Tryz.lays99_ren : Go.Shelf.Ren := ⟨fun | 99 => 90 | 206 => 134 | n => n, fun | 9 => 9 | 4 => 4 | 3 => 3 | n => n, fun | n => n⟩
theorem Tryz.lays99 : Go.Proofs.Lays.n99 Tryz.prog Tryz.lays99_ren := {
  mixed := by kernel_rfl
  f99 := Tryz.func90.trans (congrArg some (by kernel_rfl))
  f206 := Tryz.func134.trans (congrArg some (by kernel_rfl))
  t3 := Tryz.underlying3
  a3 := Tryz.isAgg3
  z3 := Tryz.sizeOf3
  v3 := Tryz.zeroValue3
  t4 := Tryz.underlying4
  a4 := Tryz.isAgg4
  z4 := Tryz.sizeOf4
  v4 := Tryz.zeroValue4
  t9 := Tryz.underlying9
  a9 := Tryz.isAgg9
  z9 := Tryz.sizeOf9
  v9 := Tryz.zeroValue9 }
open Go.RowKit Go.Lib in
/-- strings.HasPrefix: "HasPrefix reports whether the string s begins with prefix.": IT RETURNS 'Lib.hasPrefix s prefix'; the world is as it was. (LAID: no walk: one application.) -/
theorem Tryz.strings_HasPrefix (s p : ByteArray) (w : World) :
    Calls Tryz.prog 90 #[.string s, .string p] w fun e w' => e = .returned (.bool (Lib.hasPrefix s.data.toList p.data.toList)) ∧ w' = w := Any.strings_HasPrefix Tryz.lays99 s p w
def Tryz.lays146_ren : Go.Shelf.Ren := ⟨fun | 146 => 32 | 221 => 58 | 268 => 102 | 138 => 103 | 143 => 104 | 195 => 159 | 197 => 106 | 218 => 160 | 219 => 161 | 260 => 163 | 217 => 211 | 225 => 212 | 224 => 213 | 267 => 214 | 266 => 270 | 314 => 271 | n => n, fun | 9 => 9 | 31 => 56 | 3 => 3 | 4 => 4 | 0 => 0 | 105 => 182 | 21 => 21 | 5 => 5 | 46 => 229 | 119 => 284 | 139 => 287 | 138 => 286 | 146 => 370 | 51 => 94 | n => n, fun | 1 => 1 | 3 => 2 | 4 => 3 | n => n⟩
theorem Tryz.lays146 : Go.Proofs.Lays.n146 Tryz.prog Tryz.lays146_ren := {
  mixed := by kernel_rfl
  f138 := Tryz.func103.trans (congrArg some (by kernel_rfl))
  f143 := Tryz.func104.trans (congrArg some (by kernel_rfl))
  f146 := Tryz.func32.trans (congrArg some (by kernel_rfl))
  f195 := Tryz.func159.trans (congrArg some (by kernel_rfl))
  f197 := Tryz.func106.trans (congrArg some (by kernel_rfl))
  f217 := Tryz.func211.trans (congrArg some (by kernel_rfl))
  f218 := Tryz.func160.trans (congrArg some (by kernel_rfl))
  f219 := Tryz.func161.trans (congrArg some (by kernel_rfl))
  f221 := Tryz.func58.trans (congrArg some (by kernel_rfl))
  f224 := Tryz.func213.trans (congrArg some (by kernel_rfl))
  f225 := Tryz.func212.trans (congrArg some (by kernel_rfl))
  f260 := Tryz.func163.trans (congrArg some (by kernel_rfl))
  f266 := Tryz.func270.trans (congrArg some (by kernel_rfl))
  f267 := Tryz.func214.trans (congrArg some (by kernel_rfl))
  f268 := Tryz.func102.trans (congrArg some (by kernel_rfl))
  f314 := Tryz.func271.trans (congrArg some (by kernel_rfl))
  t0 := Tryz.underlying0
  a0 := Tryz.isAgg0
  z0 := Tryz.sizeOf0
  v0 := Tryz.zeroValue0
  t3 := Tryz.underlying3
  a3 := Tryz.isAgg3
  z3 := Tryz.sizeOf3
  v3 := Tryz.zeroValue3
  t4 := Tryz.underlying4
  a4 := Tryz.isAgg4
  z4 := Tryz.sizeOf4
  v4 := Tryz.zeroValue4
  t5 := Tryz.underlying5
  a5 := Tryz.isAgg5
  z5 := Tryz.sizeOf5
  v5 := Tryz.zeroValue5
  t9 := Tryz.underlying9
  a9 := Tryz.isAgg9
  z9 := Tryz.sizeOf9
  v9 := Tryz.zeroValue9
  t21 := Tryz.underlying21
  a21 := Tryz.isAgg21
  z21 := Tryz.sizeOf21
  v21 := Tryz.zeroValue21
  t31 := Tryz.underlying56
  a31 := Tryz.isAgg56
  z31 := Tryz.sizeOf56
  v31 := Tryz.zeroValue56
  t46 := Tryz.underlying229
  a46 := Tryz.isAgg229
  z46 := Tryz.sizeOf229
  v46 := Tryz.zeroValue229
  t51 := Tryz.underlying94
  a51 := Tryz.isAgg94
  z51 := Tryz.sizeOf94
  v51 := Tryz.zeroValue94
  t105 := Tryz.underlying182
  a105 := Tryz.isAgg182
  z105 := Tryz.sizeOf182
  v105 := Tryz.zeroValue182
  t119 := Tryz.underlying284
  a119 := Tryz.isAgg284
  z119 := Tryz.sizeOf284
  t138 := Tryz.underlying286
  a138 := Tryz.isAgg286
  z138 := Tryz.sizeOf286
  v138 := Tryz.zeroValue286
  t139 := Tryz.underlying287
  a139 := Tryz.isAgg287
  z139 := Tryz.sizeOf287
  v139 := Tryz.zeroValue287
  t146 := Tryz.underlying370
  a146 := Tryz.isAgg370
  z146 := Tryz.sizeOf370
  v146 := Tryz.zeroValue370
  g1 := by kernel_rfl
  g3 := by kernel_rfl
  g4 := by kernel_rfl }
open Go.RowKit Go.Lib in
/-- strings.Split. (LAID: no walk: one application.) -/
theorem Tryz.strings_Split (s sep : ByteArray) (m : Int) (w : World) (hs : s.size < 4294967281) (hm : w.cell? ⟨1, 0, none⟩ = some (.int .i64 m)) (h1 : 1 ≤ sep.size) :
    Calls Tryz.prog 32 #[.string s, .string sep] w fun e w' =>
      e = .returned (.slice (some ⟨w.heap.size, 0, none⟩) (Lib.countB s sep + 1) (Lib.countB s sep + 1)) ∧ w' = w.alloc (.cells ((Lib.splitB sep 0 (Lib.countB s sep) s).map Value.string).toArray 9) := Any.strings_Split Tryz.lays146 (by kernel_rfl) s sep m w hs hm h1
end Go.Proofs
/- strings.Builder at this program: copyCheck, WriteRune. -/
namespace Go.Proofs.YtinmoligjcajmaaGreatDoor
open Go.RowKit

set_option maxHeartbeats 1000000 in
set_option maxRecDepth 100000 in
theorem check_used (b : Nat) (w : World) (h0 : w.cell? ⟨b, 0, none⟩ = some (.pointer (some ⟨b, 0, none⟩))) :
    Calls Tryz.prog 56 #[.pointer (some ⟨b, 0, none⟩)] w fun e w' => e = .returned (.tuple #[]) ∧ w' = w := by
  obtain ⟨j, hj, _⟩ := Option.map_eq_some_iff.1 Tryz.Builder_Extra_169.sizeBuilder
  go_enter Tryz.func56, Tryz.ntmps56
  go_wp2
  rw [Lib.run_neq_ptr_same w _ Tryz.underlying77 hj]
  go_wp2
  go_end0
  exact ⟨rfl, rfl⟩

set_option maxHeartbeats 1000000 in
set_option maxRecDepth 100000 in
theorem check_fresh (b : Nat) (w : World) (h0 : w.cell? ⟨b, 0, none⟩ = some (.pointer none)) (hsh : w.shape? b = some (80, 2)) (hfz : w.frozen? ⟨b, 0, none⟩ = false) :
    Calls Tryz.prog 56 #[.pointer (some ⟨b, 0, none⟩)] w fun e w' => e = .returned (.tuple #[]) ∧ w' = w.setCell ⟨b, 0, none⟩ (.pointer (some ⟨b, 0, none⟩)) := by
  obtain ⟨j, hj, hjs⟩ := Option.map_eq_some_iff.1 Tryz.Builder_Extra_169.sizeBuilder
  go_enter Tryz.func56, Tryz.ntmps56
  go_wp2
  have hj' : Tryz.prog.info? 80 = some j := hj
  rw [Lib.run_to_unsafe w ⟨b, 0, none⟩ Tryz.underlying77 Tryz.underlying176 hj' (by rw [hjs]; decide) hsh (Nat.zero_lt_succ 1)]
  simp only [Result.andThen]
  rw [Oper.upon_value]
  go_wp2
  rw [run_callFunc_extern Tryz.func100 (by kernel_rfl) (by kernel_rfl) (by kernel_rfl) (e := Extern.AbiNoEscape.same) (by kernel_rfl)]
  rw [Lib.run_noEscape]
  simp only [Result.andThen]
  rw [Oper.upon_value]
  go_wp2
  rw [Lib.run_from_unsafe w ⟨b, 0, none⟩ Tryz.underlying176 Tryz.underlying77 hj' hsh Tryz.Builder_Extra_169.liesBuilder]
  simp only [Result.andThen]
  rw [Oper.upon_value]
  go_wp2
  go_end0
  exact ⟨rfl, rfl⟩

theorem check_any (B b : Nat) (bs : List Value) (w : World) (h : Lib.IsBuilder 80 5 B b bs w) :
    Calls Tryz.prog 56 #[.pointer (some ⟨b, 0, none⟩)] w fun e w' => e = .returned (.tuple #[]) ∧ Lib.BuilderAt 80 5 B b (.pointer (some ⟨b, 0, none⟩)) bs w' ∧ w.grownBy w' (some b) := by
  rcases h with h | h
  · refine (check_fresh b w h.cell0 h.shape h.frozen0).mono ?_
    rintro e w' ⟨rfl, rfl⟩
    exact ⟨rfl, h.used _, grown_set _ _ _⟩
  · refine (check_used b w h.cell0).mono ?_
    rintro e w' ⟨rfl, rfl⟩
    exact ⟨rfl, h, grown_refl _ _⟩

/-- the iterators stay -/
def Iters (w w' : World) : Prop := ∀ (k : Nat) (s : ByteArray) (pos : Nat), w.heap[k]? = some (Obj.stringIter s pos) → w'.heap[k]? = some (Obj.stringIter s pos)

theorem iters_grown {w w' : World} {g : Nat} {c : Array Value} {T : TypeId} {f : Nat × Nat} (h : w.grownBy w' (some g)) (hg : w.heap[g]? = some (.cells c T f)) : Iters w w' := by
  intro k s pos hk
  rw [h.block k (Array.getElem?_eq_some_iff.1 hk).1 (fun e => by cases e; rw [hg] at hk; cases hk)]
  exact hk

set_option maxHeartbeats 4000000 in
set_option maxRecDepth 100000 in
theorem writeRune_any (B b : Nat) (bs : List Value) (r : Int) (hr0 : -2147483648 ≤ r) (hr1 : r ≤ 2147483647) (w : World) (h : Lib.IsBuilder 80 5 B b bs w) (hlen : bs.length + 4 ≤ 140737488355328) (hBw : B ≤ w.heap.size) :
    Calls Tryz.prog 142 #[.pointer (some ⟨b, 0, none⟩), .int .i32 r] w fun e w' => (∃ v, e = .returned v) ∧ Lib.BuilderAt 80 5 B b (.pointer (some ⟨b, 0, none⟩)) (bs ++ Lib.runeCells r) w' ∧ Below B w w' ∧ Iters w w' := by
  have hk4 := Lib.runeCells_le r
  have q1 := hid (check_any B b bs w h)
  have hBb : B ≤ b := by rcases h with h | h <;> exact h.1
  obtain ⟨cb, Tb, fb, hwb⟩ : ∃ c T f, w.heap[b]? = some (.cells c T f) := by
    rcases h with h | h <;> exact ⟨_, _, _, h.2.choose_spec.1⟩
  clear h
  go_enter Tryz.func142, Tryz.ntmps142
  go_wp2_with fail
  refine q1.out.mono ?_
  rintro e w1 ⟨rfl, h1, hg1⟩
  have hit1 := iters_grown hg1 hwb
  have hb1 : Below B w w1 := below_grown (Below.refl _ _) hg1 hBw hBb
  obtain ⟨hB, v, hbk, hown, hne⟩ := h1
  obtain ⟨ao, cap, rfl⟩ : ∃ ao cap, v = .slice ao bs.length cap := by
    rcases hown.2 with ⟨hv, h0⟩ | ⟨g, cap, cur, hv, _⟩
    · exact ⟨none, 0, by rw [hv, h0]⟩
    · exact ⟨_, _, hv⟩
  have c0 : w1.cell? ⟨b, 0, none⟩ = some (.pointer (some ⟨b, 0, none⟩)) := by rw [Lib.cell_of_heap hbk]; rfl
  have c1 : w1.cell? ⟨b, 1, none⟩ = some (.slice ao bs.length cap) := by rw [Lib.cell_of_heap hbk]; rfl
  have q2 := hid (Tryz.utf8_AppendRune_plain B _ bs.length bs r hr0 hr1 _ hown hlen (by have := hb1.size; omega))
  have hk9 := hid hk4
  clear q1 hk4
  go_wp2_with fail
  refine q2.out.mono ?_
  rintro e w2 ⟨v', rfl, hown', o, hgrow⟩
  have hlt : b < w1.heap.size := by
    rcases Nat.lt_or_ge b w1.heap.size with h' | h'
    · exact h'
    · simp [Array.getElem?_eq_none h'] at hbk
  have hb2 : w2.heap[b]? = some (.cells #[.pointer (some ⟨b, 0, none⟩), .slice ao bs.length cap] 80 (0, 0)) := by
    rw [hgrow.block b (by simp; omega) (fun e => hne e.symm), Lib.alloc_old w1 _ b hlt]
    exact hbk
  have d0 : w2.cell? ⟨b, 0, none⟩ = some (.pointer (some ⟨b, 0, none⟩)) := by rw [Lib.cell_of_heap hb2]; rfl
  have d1 : w2.cell? ⟨b, 1, none⟩ = some (.slice ao bs.length cap) := by rw [Lib.cell_of_heap hb2]; rfl
  have f1 : w2.frozen? ⟨b, 1, none⟩ = false := Lib.frozen_of_heap hb2 1
  have hk4 := hk9.out
  obtain ⟨g, cap', rfl⟩ : ∃ g cap', v' = .slice (some ⟨g, 0, none⟩) (bs.length + (Lib.runeCells r).length) cap' := by
    rcases hown'.2 with ⟨_, h0⟩ | ⟨g, cap', cur, hv, _⟩
    · omega
    · exact ⟨g, cap', hv⟩
  have hBF : Lib.BuilderAt 80 5 B b (.pointer (some ⟨b, 0, none⟩)) (bs ++ Lib.runeCells r) (w2.setCell ⟨b, 1, none⟩ (.slice (some ⟨g, 0, none⟩) (bs.length + (Lib.runeCells r).length) cap')) :=
    Lib.BuilderAt.put (T := 80) (e := 5) hB hb2 (bs' := bs ++ Lib.runeCells r) (by simpa using hown') (by decide)
  have hBe : Below B w (w2.setCell ⟨b, 1, none⟩ (.slice (some ⟨g, 0, none⟩) (bs.length + (Lib.runeCells r).length) cap')) :=
    ((hb1.alloc (by have := hb1.size; omega) o).grown hgrow (by have := hb1.size; simp; omega) (fun k hk => (hown.lt k hk).1)).setCell (p := ⟨b, 1, none⟩) hB _
  have hIt : Iters w (w2.setCell ⟨b, 1, none⟩ (.slice (some ⟨g, 0, none⟩) (bs.length + (Lib.runeCells r).length) cap')) := by
    intro k s pos hk
    have h1 := hit1 k s pos hk
    have hkl := (Array.getElem?_eq_some_iff.1 h1).1
    have h2 : (w1.alloc o).heap[k]? = some (.stringIter s pos) := by rw [Below.heap_alloc _ _ _ hkl]; exact h1
    have h3 : w2.heap[k]? = some (.stringIter s pos) := grown_iter hgrow h2 (own_kind (hown.alloc _))
    rw [Below.heap_setCell _ _ _ _ (fun e => by rw [e] at h3; rw [hb2] at h3; cases h3)]
    exact h3
  have HBF := hid hBF
  have HBE := hid hBe
  have HIT := hid hIt
  clear hBF hBe hIt hgrow hown' hown hit1 q2 hb1 hg1
  go_wp2
  go_ret2
  exact ⟨⟨_, rfl⟩, HBF.out, HBE.out, HIT.out⟩
end Go.Proofs.YtinmoligjcajmaaGreatDoor
/- numeral.Plain: a text with plain runes. -/
namespace Go.Proofs.YtinmoligjcajmaaGreatDoor
open Go.RowKit

/-- a rune, plain -/
def plainR (r : Nat) : Nat := if isMinus r then 45 else if isBar r then 47 else if isGap r then 32 else r
/-- runes' bytes -/
def encB (L : List Nat) : List UInt8 := L.flatMap fun (r : Nat) => Lib.encodeRune (r : Int)
def txt (L : List Nat) : ByteArray := ⟨(encB L).toArray⟩

theorem encB_snoc (L : List Nat) (r : Nat) : encB (L ++ [r]) = encB L ++ Lib.encodeRune (r : Int) := by simp [encB]

theorem encB_len (L : List Nat) : (encB L).length ≤ 4 * L.length := by
  induction L with
  | nil => simp [encB]
  | cons r L ih =>
    have h := Lib.runeCells_le (r : Int)
    rw [← Lib.byteCells_encodeRune] at h
    have : encB (r :: L) = Lib.encodeRune (r : Int) ++ encB L := by simp [encB]
    rw [this, List.length_append, List.length_cons]
    simp [Lib.byteCells] at h
    omega

theorem byteCells_append (a b : List UInt8) : Lib.byteCells (a ++ b) = Lib.byteCells a ++ Lib.byteCells b := by simp [Lib.byteCells]

theorem builder_iterAt {T e : TypeId} {B b : Nat} {bs : List Value} {w : World} (h : Lib.IsBuilder T e B b bs w) {k : Nat} {s : ByteArray} {pos : Nat} (hk : w.heap[k]? = some (.stringIter s pos)) (pos' : Nat) : Lib.IsBuilder T e B b bs (w.iterAt k s pos') := by
  have hh : ∀ p, Lib.BuilderAt T e B b p bs w → Lib.BuilderAt T e B b p bs (w.iterAt k s pos') := by
    rintro p ⟨h1, v, h2, h3, h4⟩
    refine ⟨h1, v, ?_, iterAt_own h3 hk pos', h4⟩
    rw [Lib.iterAt_other w k b s pos' (by intro e; subst e; rw [h2] at hk; cases hk)]
    exact h2
  exact h.elim (fun x => .inl (hh _ x)) (fun x => .inr (hh _ x))

theorem kindOf_bar (r : Nat) : kindOf r = 3 ↔ isMinus r = false ∧ isBar r = true := by
  unfold kindOf
  cases isMinus r <;> cases isBar r <;> simp
  all_goals repeat' split
  all_goals simp
theorem kindOf_gap (r : Nat) : kindOf r = 4 ↔ isMinus r = false ∧ isBar r = false ∧ isGap r = true := by
  unfold kindOf
  cases isMinus r <;> cases isBar r <;> cases isGap r <;> simp
  all_goals repeat' split
  all_goals simp

theorem plainR_kind (r : Nat) : plainR r = if kindOf r = 2 then 45 else if kindOf r = 3 then 47 else if kindOf r = 4 then 32 else r := by
  have h2 := kindOf_minus r
  have h3 := kindOf_bar r
  have h4 := kindOf_gap r
  unfold plainR
  by_cases c2 : kindOf r = 2
  · rw [if_pos c2, if_pos (h2.1 c2)]
  · rw [if_neg c2, if_neg (fun h => c2 (h2.2 h))]
    have m : isMinus r = false := by cases h : isMinus r; rfl; exact absurd (h2.2 h) c2
    by_cases c3 : kindOf r = 3
    · rw [if_pos c3, if_pos (h3.1 c3).2]
    · rw [if_neg c3, if_neg (fun h => c3 (h3.2 ⟨m, h⟩))]
      have b : isBar r = false := by cases h : isBar r; rfl; exact absurd (h3.2 ⟨m, h⟩) c3
      by_cases c4 : kindOf r = 4
      · rw [if_pos c4, if_pos (h4.1 c4).2.2]
      · rw [if_neg c4, if_neg (fun h => c4 (h4.2 ⟨m, b, h⟩))]

set_option maxHeartbeats 3200000 in
theorem plain_any (s : ByteArray) (w : World) (hs : s.size ≤ 1000000000) :
    Calls Tryz.prog 92 #[.string s] w fun e w' => Below w.heap.size w w' ∧ e = .returned (.string (txt ((runesOf s).map plainR))) := by
  obtain ⟨hb0, b0, hsz⟩ := boxA w #[.pointer none, .slice none 0 0] 80
  have hrl := runesAt_lt s 0
  obtain ⟨L, hL⟩ : ∃ L, runesOf s = L := ⟨_, rfl⟩
  have hL' : runesAt s 0 = L := hL
  rw [hL'] at hrl
  have HRL := hid hrl
  have HL := hid hL'
  rw [hL]
  clear hrl hL hL'
  go_enter Tryz.func92, Tryz.ntmps92
  go_wp2
  revert hb0 b0 hsz
  generalize w.alloc (.cells #[.pointer none, .slice none 0 0] 80) = W0
  intro hb0 b0 hsz
  have hk0 := World.iter_heap W0 s 0
  have hbu0 : Lib.IsBuilder 80 5 w.heap.size w.heap.size (Lib.byteCells (encB [])) (W0.iter s 0) :=
    .inl ⟨Nat.le_refl _, .slice none 0 0, b0.alloc _, by simpa [Lib.byteCells, encB] using World.ownsRow_nil _ _ _ _, by simp [Value.ownBlock]⟩
  have hbel0 : Below w.heap.size w (W0.iter s 0) := hb0.alloc hb0.size _
  rw [← hsz]
  obtain ⟨kb, hkk⟩ : ∃ kb, W0.heap.size = kb := ⟨_, rfl⟩
  obtain ⟨w2, hww⟩ : ∃ w2, W0.iter s 0 = w2 := ⟨_, rfl⟩
  have hkb : w.heap.size ≤ kb := by omega
  rw [hww] at hk0 hbu0 hbel0 ⊢
  rw [hkk] at hk0 ⊢
  clear hkk hww hsz hb0 b0
  go_loopg [5] s.size (fun gk u wr => ∃ (pos : Nat) (pre : List Nat), gk = s.size - pos ∧ wr.heap[kb]? = some (.stringIter s pos) ∧
      Lib.IsBuilder 80 5 w.heap.size w.heap.size (Lib.byteCells (encB (pre.map plainR))) wr ∧ Below w.heap.size w wr ∧ L = pre ++ runesAt s pos ∧ pre.length ≤ pos)
  case atStart => exact ⟨0, [], by omega, hk0, hbu0, hbel0, by rw [HL.out]; rfl, Nat.le_refl _⟩
  case round =>
    obtain ⟨pos, pre, hgk, hk, hbu, hbel, hru, hpl⟩ := hrel
    have HRU := hid hru
    have HGK := hid hgk
    clear hru hgk hk0 hbu0 hbel0
    by_cases hp : pos < s.size
    · have hnx := fun ty => Lib.run_next_any_at (P := Tryz.prog) wr kb s pos ty hk hp
      have hw := decode_width s pos
      obtain ⟨rn, hrn⟩ : ∃ rn, (Utf8.decode s pos).1 = rn := ⟨_, rfl⟩
      obtain ⟨wd, hwd⟩ : ∃ wd, (Utf8.decode s pos).2 = wd := ⟨_, rfl⟩
      have hst := runesAt_step s pos hp
      rw [hrn, hwd] at hst hnx
      rw [hwd] at hw
      obtain ⟨p2, hp2⟩ : ∃ p2, pos + wd = p2 := ⟨_, rfl⟩
      rw [hp2] at hnx hst
      have hlp : pos < p2 := by omega
      clear hp2
      have hbu2 := builder_iterAt hbu hk p2
      have hk2 := Lib.iterAt_heap wr kb s pos p2 hk
      have hbel2 := Lib.below_iterAt hbel hkb s p2
      have hLe : L = pre ++ rn :: runesAt s p2 := by rw [HRU.out, hst]
      have hrb : rn < 2097152 := HRL.out rn (by rw [hLe]; simp)
      have HLE := hid hLe
      have HK := hid hk2
      have Q1 := hid (what_any rn (wr.iterAt kb s p2))
      have hel := encB_len (pre.map plainR)
      rw [List.length_map] at hel
      have hPK := plainR_kind rn
      obtain ⟨pr, hpr⟩ : ∃ pr, plainR rn = pr := ⟨_, rfl⟩
      obtain ⟨kd, hkd⟩ : ∃ kd, kindOf rn = kd := ⟨_, rfl⟩
      rw [hkd] at Q1 hPK
      rw [hpr] at hPK
      have hprb : pr < 2097152 := by rw [hPK]; (repeat' split) <;> omega
      have Q2 := hid (writeRune_any w.heap.size w.heap.size _ (pr : Int) (by omega) (by omega) (wr.iterAt kb s p2) hbu2 (by simp [Lib.byteCells]; omega) hbel2.size)
      have HPR := hid hpr
      have HE : Hid (Lib.byteCells (encB (pre.map plainR)) ++ Lib.runeCells (pr : Int) = Lib.byteCells (encB ((pre ++ [rn]).map plainR))) := by
        unfold Hid
        rw [List.map_append, List.map_cons, List.map_nil, encB_snoc, byteCells_append, Lib.byteCells_encodeRune, hpr]
      clear hst hrn hwd hk2 hbu hk hbel hLe hpr hkd hel hbu2
      go_wp2_with fail
      refine Q1.out.mono ?_
      rintro e w' ⟨rfl, rfl⟩
      go_upto_block 2 with (fail)
      go_cut [5] (fun u w' => w' = wr.iterAt kb s p2 ∧ u = .int .i32 (pr : Nat))
      case first =>
        by_cases c2 : kd = 2
        · subst c2
          rw [if_pos rfl] at hPK
          subst hPK
          clear HPR Q2 HE
          go_wp2
          go_meet
          case rel => exact ⟨rfl, rfl⟩
        · rw [if_neg c2] at hPK
          have n2 : (((kd : Nat) : Int) == 2) = false := by simp; omega
          by_cases c3 : kd = 3
          · subst c3
            rw [if_pos rfl] at hPK
            subst hPK
            clear HPR Q2 HE
            go_wp2
            go_meet
            case rel => exact ⟨rfl, rfl⟩
          · rw [if_neg c3] at hPK
            have n3 : (((kd : Nat) : Int) == 3) = false := by simp; omega
            by_cases c4 : kd = 4
            · subst c4
              rw [if_pos rfl] at hPK
              subst hPK
              clear HPR Q2 HE
              go_wp2
              go_meet
              case rel => exact ⟨rfl, rfl⟩
            · rw [if_neg c4] at hPK
              have n4 : (((kd : Nat) : Int) == 4) = false := by simp; omega
              subst hPK
              clear HPR Q2 HE
              go_wp2
              go_meet
              case rel => exact ⟨rfl, rfl⟩
      case rest =>
        obtain ⟨rfl, rfl⟩ := hcut
        clear hPK Q1
        go_wp2_with fail
        refine Q2.out.mono ?_
        rintro e w3 ⟨⟨v3, rfl⟩, hbu3, hb3, hit3⟩
        rw [HE.out] at hbu3
        have hk3 := hit3 _ _ _ HK.out
        have HK3 := hid hk3
        have HBU := hid hbu3
        have hbel3 := hbel2.trans hb3
        clear Q2 hbu3 hit3 hk3 hb3
        go_wp2
        go_roundg (s.size - p2)
        case measure => have := HGK.out; omega
        case rel =>
          exact ⟨p2, pre ++ [rn], rfl, HK3.out, .inr HBU.out, hbel3, by rw [HLE.out]; simp, by simp; omega⟩
    · have hnx := fun ty => Lib.run_next_end_at (P := Tryz.prog) wr kb s pos ty hk hp
      have he := runesAt_end s pos hp
      have hpre : L = pre := by rw [HRU.out, he, List.append_nil]
      subst hpre
      clear he HRU
      have Q3 := hid (Tryz.Builder_String_any w.heap.size w.heap.size _ wr hbu hbel.size)
      go_wp2_with fail
      refine Q3.out.mono ?_
      rintro e w3 ⟨rfl, hb3⟩
      go_wp2
      go_ret
      exact ⟨hbel.trans hb3, rfl⟩
end Go.Proofs.YtinmoligjcajmaaGreatDoor
/- numeral.Int, numeral.Frac; the law's num, same. -/
namespace Go.Proofs.YtinmoligjcajmaaGreatDoor
open Go.RowKit

end Go.Proofs.YtinmoligjcajmaaGreatDoor
/- simileref02.frac, Frac: what a fraction's text says. -/
namespace Go.Proofs.YtinmoligjcajmaaGreatDoor
open Go.RowKit

end Go.Proofs.YtinmoligjcajmaaGreatDoor
/- The plain law: what numeral reads is what the document says. -/
namespace Go.Proofs.YtinmoligjcajmaaGreatDoor

end Go.Proofs.YtinmoligjcajmaaGreatDoor
/- simileref02.Plain: a text with plain runes. -/
namespace Go.Proofs.YtinmoligjcajmaaGreatDoor
open Go.RowKit

theorem utf8_nat (r : Nat) : Utf8.encode (r : Int) = ⟨(Lib.encodeRune (r : Int)).toArray⟩ := by
  unfold Lib.encodeRune
  by_cases h1 : r < 128
  · rw [Lib.encodeRuneZ_one (by omega) (by omega)]
    have hv : Utf8.valid (r : Int) = true := by simp [Utf8.valid]; omega
    unfold Utf8.encode
    simp only [hv, if_true, Int.toNat_natCast]
    rw [if_pos (by omega)]
    simp
  · by_cases h2 : r < 2048
    · rw [Lib.encodeRuneZ_two (by omega) (by omega)]
      have hv : Utf8.valid (r : Int) = true := by simp [Utf8.valid]; omega
      unfold Utf8.encode
      simp only [hv, if_true, Int.toNat_natCast]
      rw [if_neg (by omega), if_pos (by omega)]
      have e1 : (192 + (r : Int) / 64).toNat = 192 + r / 64 := by omega
      have e2 : (128 + (r : Int) % 64).toNat = 128 + r % 64 := by omega
      simp [e1, e2]
    · by_cases hs : 55296 ≤ r ∧ r ≤ 57343 ∨ 1114111 < r
      · have hv : Utf8.valid (r : Int) = false := by
          cases h : Utf8.valid (r : Int)
          · rfl
          · simp [Utf8.valid] at h; omega
        have hz : Lib.encodeRuneZ (r : Int) = [239, 191, 189] := by
          unfold Lib.encodeRuneZ
          rw [if_neg (by omega), if_neg (by omega), if_neg (by omega), if_neg (by omega)]
        rw [hz]
        unfold Utf8.encode
        simp only [hv, Bool.false_eq_true, if_false]
        decide
      · have hv : Utf8.valid (r : Int) = true := by simp [Utf8.valid]; omega
        by_cases h3 : r < 65536
        · rw [Lib.encodeRuneZ_three (by omega)]
          unfold Utf8.encode
          simp only [hv, if_true, Int.toNat_natCast]
          rw [if_neg (by omega), if_neg (by omega), if_pos (by omega)]
          have e1 : (224 + (r : Int) / 4096).toNat = 224 + r / 4096 := by omega
          have e2 : (128 + (r : Int) / 64 % 64).toNat = 128 + r / 64 % 64 := by omega
          have e3 : (128 + (r : Int) % 64).toNat = 128 + r % 64 := by omega
          simp [e1, e2, e3]
        · have hz : Lib.encodeRuneZ (r : Int) = [240 + (r : Int) / 262144, 128 + (r : Int) / 4096 % 64, 128 + (r : Int) / 64 % 64, 128 + (r : Int) % 64] := by
            unfold Lib.encodeRuneZ
            rw [if_neg (by omega), if_neg (by omega), if_neg (by omega), if_pos (by omega)]
          rw [hz]
          unfold Utf8.encode
          simp only [hv, if_true, Int.toNat_natCast]
          rw [if_neg (by omega), if_neg (by omega), if_neg (by omega)]
          have e0 : (240 + (r : Int) / 262144).toNat = 240 + r / 262144 := by omega
          have e1 : (128 + (r : Int) / 4096 % 64).toNat = 128 + r / 4096 % 64 := by omega
          have e2 : (128 + (r : Int) / 64 % 64).toNat = 128 + r / 64 % 64 := by omega
          have e3 : (128 + (r : Int) % 64).toNat = 128 + r % 64 := by omega
          simp [e0, e1, e2, e3]

theorem runesBytes_txt (L : List Nat) : runesBytes (L.map fun (r : Nat) => (r : Int)) = txt L := by
  have h : ∀ (L : List Nat) (a : List UInt8), (L.map fun (r : Nat) => (r : Int)).foldl (fun r n => r ++ Utf8.encode n) ⟨a.toArray⟩ = (⟨(a ++ encB L).toArray⟩ : ByteArray) := by
    intro L
    induction L with
    | nil => intro a; simp [encB]
    | cons r L ih =>
      intro a
      rw [List.map_cons, List.foldl_cons, utf8_nat]
      have e : (⟨a.toArray⟩ : ByteArray) ++ ⟨(Lib.encodeRune (r : Int)).toArray⟩ = ⟨(a ++ Lib.encodeRune (r : Int)).toArray⟩ := by
        apply ByteArray.ext
        simp
      rw [e, ih]
      simp [encB]
  have := h L []
  exact this

theorem runesBytes_nat (w : World) (b off n cap : Nat) (L : List Nat) (hl : n = L.length)
    (hc : ∀ i, i < L.length → w.cell? ⟨b, off + i, none⟩ = some (.int .i32 (L.getD i 0 : Nat))) :
    (convert 105 9 (.slice (some ⟨b, off, none⟩) n cap)).run Tryz.prog w = .ok (.string (txt L)) w := by
  have h := run_convert_runes (P := Tryz.prog) w 105 9 21 ⟨b, off, none⟩ n cap (L.map fun (r : Nat) => (r : Int)) (by simp [hl]) Tryz.underlying105 Tryz.underlying21 Tryz.underlying9 (by
    intro j hj
    simp only [List.length_map] at hj
    rw [Addr.add_lit, hc j hj]
    simp [List.getD_eq_getElem?_getD, hj])
  rw [h, hl, List.take_of_length_le (by simp), runesBytes_txt]

set_option maxHeartbeats 1600000 in
theorem plain02_any (s : ByteArray) (w : World) (hs : s.size ≤ 1000000000) :
    Calls Tryz.prog 51 #[.string s] w fun e w' => Below w.heap.size w w' ∧ e = .returned (.string (txt ((runesOf s).map plainR))) := by
  obtain ⟨L, hL⟩ : ∃ L, runesOf s = L := ⟨_, rfl⟩
  have hL' : runesAt s 0 = L := hL
  have HL := hid hL'
  rw [hL]
  clear hL hL'
  go_enter Tryz.func51, Tryz.ntmps51
  go_wp2
  have hk0 := World.iter_heap w s 0
  have ho2 : (w.iter s 0).ownsRow w.heap.size 21 1 (.slice none 0 0) 0 (numsC .i32 []) := World.ownsRow_nil _ _ _ _
  have hb2 : Below w.heap.size w (w.iter s 0) := (Below.refl _ _).alloc (Nat.le_refl _) _
  obtain ⟨kb, hkk⟩ : ∃ kb, w.heap.size = kb := ⟨_, rfl⟩
  obtain ⟨w2, hww⟩ : ∃ w2, w.iter s 0 = w2 := ⟨_, rfl⟩
  rw [hkk] at hk0 ⊢
  rw [hww] at hk0 ho2 hb2 ⊢
  have HKK := hid hkk
  have HWW := hid hww
  have hkb : w.heap.size ≤ kb := by rw [hkk]; exact Nat.le_refl _
  clear hkk hww
  go_loopg [3] s.size (fun gk lv wr => ∃ (pos : Nat) (pre : List Nat), gk = s.size - pos ∧ wr.heap[kb]? = some (.stringIter s pos) ∧
      wr.ownsRow w.heap.size 21 1 lv pre.length (numsC .i32 (pre.map plainR)) ∧ Below w.heap.size w wr ∧ L = pre ++ runesAt s pos ∧ pre.length ≤ pos)
  case atStart => exact ⟨0, [], by omega, hk0, ho2, hb2, by rw [HL.out]; rfl, Nat.le_refl _⟩
  case round =>
    obtain ⟨pos, pre, hgk, hk, hown, hbel, hru, hpl⟩ := hrel
    have HRU := hid hru
    have HGK := hid hgk
    clear hru hgk hk0 ho2 hb2
    by_cases hp : pos < s.size
    · have hnx := fun ty => Lib.run_next_any_at (P := Tryz.prog) wr kb s pos ty hk hp
      have hw := decode_width s pos
      obtain ⟨rn, hrn⟩ : ∃ rn, (Utf8.decode s pos).1 = rn := ⟨_, rfl⟩
      obtain ⟨wd, hwd⟩ : ∃ wd, (Utf8.decode s pos).2 = wd := ⟨_, rfl⟩
      have hst := runesAt_step s pos hp
      rw [hrn, hwd] at hst hnx
      rw [hwd] at hw
      have hown2 := iterAt_own hown hk (pos + wd)
      have hk2 := Lib.iterAt_heap wr kb s pos (pos + wd) hk
      have hbel2 := Lib.below_iterAt hbel hkb s (pos + wd)
      have HST := hid hst
      have HK := hid hk2
      have hml : pre.length + 1 ≤ 17592186044416 := by omega
      obtain ⟨pr, hpr⟩ : ∃ pr, plainR rn = pr := ⟨_, rfl⟩
      have HPR := hid hpr
      have Q1 := hid fun w => minus_any rn w
      have Q2 := hid fun w => bar_any rn w
      have Q3 := hid fun w => gap_any rn w
      unfold plainR at hpr
      clear hst hrn hwd hk2 hown hk hbel
      go_upto_block 2 with (fail)
      go_cut [5] (fun u w' => w' = wr.iterAt kb s (pos + wd) ∧ u = .int .i32 (pr : Nat))
      case first =>
        cases c2 : isMinus rn
        · rw [c2] at Q1 hpr
          cases c3 : isBar rn
          · rw [c3] at Q2 hpr
            cases c4 : isGap rn
            · rw [c4] at Q3 hpr
              simp only [Bool.false_eq_true, if_false] at hpr
              subst hpr
              clear HPR c2 c3 c4
              go_wp2_with fail
              refine (Q1.out _).mono ?_
              rintro e w' ⟨rfl, rfl⟩
              go_wp2_with fail
              refine (Q2.out _).mono ?_
              rintro e w' ⟨rfl, rfl⟩
              go_wp2_with fail
              refine (Q3.out _).mono ?_
              rintro e w' ⟨rfl, rfl⟩
              go_wp2
              go_meet
              case rel => exact ⟨rfl, rfl⟩
            · rw [c4] at Q3 hpr
              simp only [Bool.false_eq_true, if_false, if_true] at hpr
              subst hpr
              clear HPR c2 c3 c4
              go_wp2_with fail
              refine (Q1.out _).mono ?_
              rintro e w' ⟨rfl, rfl⟩
              go_wp2_with fail
              refine (Q2.out _).mono ?_
              rintro e w' ⟨rfl, rfl⟩
              go_wp2_with fail
              refine (Q3.out _).mono ?_
              rintro e w' ⟨rfl, rfl⟩
              go_wp2
              go_meet
              case rel => exact ⟨rfl, rfl⟩
          · rw [c3] at Q2 hpr
            simp only [Bool.false_eq_true, if_false, if_true] at hpr
            subst hpr
            clear HPR c2 c3
            go_wp2_with fail
            refine (Q1.out _).mono ?_
            rintro e w' ⟨rfl, rfl⟩
            go_wp2_with fail
            refine (Q2.out _).mono ?_
            rintro e w' ⟨rfl, rfl⟩
            go_wp2
            go_meet
            case rel => exact ⟨rfl, rfl⟩
        · rw [c2] at Q1 hpr
          simp only [if_true] at hpr
          subst hpr
          clear HPR c2
          go_wp2_with fail
          refine (Q1.out _).mono ?_
          rintro e w' ⟨rfl, rfl⟩
          go_wp2
          go_meet
          case rel => exact ⟨rfl, rfl⟩
      case rest =>
        obtain ⟨rfl, rfl⟩ := hcut
        clear hpr Q1 Q2 Q3
        go_wp2_with (at_builtin; go_loud (refine wpl_append1 elemRunes rfl _ _ rfl w.heap.size pre.length 1 1 _ (numsC .i32 (pre.map plainR)) _ hown2 rfl rfl rfl (by simp [Value.oneCell']) (by omega) (by decide) (by unfold maxLen; omega) hbel2 hbel2.size ?_))
        intro g6 c6 w6 ho6 hb6 hg6
        have hk6 : w6.heap[kb]? = some (.stringIter s (pos + wd)) := by
          refine grown_iter hg6 ?_ ?_
          · rw [Below.heap_alloc _ _ _ (Array.getElem?_eq_some_iff.1 HK.out).1]; exact HK.out
          · exact own_kind (hown2.alloc _)
        have HK6 := hid hk6
        clear hk6 hg6 hnx hown2
        go_wp2
        go_roundg (s.size - (pos + wd))
        case measure => have := HGK.out; omega
        case rel =>
          refine ⟨pos + wd, pre ++ [rn], rfl, HK6.out, ?_, hb6, by rw [HRU.out, HST.out]; simp, by simp; omega⟩
          simpa [numsC, HPR.out] using ho6
    · have hnx := fun ty => Lib.run_next_end_at (P := Tryz.prog) wr kb s pos ty hk hp
      have he := runesAt_end s pos hp
      have hpre : L = pre := by rw [HRU.out, he, List.append_nil]
      subst hpre
      clear he HRU
      obtain ⟨ad, cap, hsh, _, hcell⟩ := (Nums.ofOwn hown).open
      rw [List.length_map] at hsh
      subst hsh
      by_cases h0 : L = []
      · subst h0
        have hz : (.slice ad ([] : List Nat).length cap : Value) = .slice none 0 0 ∨ ∃ a, ad = some a := by
          cases ad with
          | none =>
            left
            rcases hown.2 with ⟨h1, _⟩ | ⟨g, c, cur, h1, _⟩
            · exact h1
            · simp at h1
          | some a => exact .inr ⟨a, rfl⟩
        rcases hz with hz | ⟨a, rfl⟩
        · simp only [List.length_nil, Value.slice.injEq] at hz
          obtain ⟨rfl, _, rfl⟩ := hz
          have hcv := run_convert_runes_nil (P := Tryz.prog) wr 105 9 21 0 0 Tryz.underlying105 Tryz.underlying21 Tryz.underlying9
          go_wp2
          go_ret
          exact ⟨hbel, rfl⟩
        · have hcv := run_convert_runes (P := Tryz.prog) wr 105 9 21 a 0 cap [] (by simp) Tryz.underlying105 Tryz.underlying21 Tryz.underlying9 (by intro j hj; simp at hj)
          go_wp2
          go_ret
          exact ⟨hbel, rfl⟩
      · have hpos : 0 < (L.map plainR).length := by rw [List.length_map]; exact List.length_pos_iff.2 h0
        obtain ⟨bb, off, rfl, _, _, _⟩ := hcell 0 hpos
        have hcv := runesBytes_nat wr bb off L.length cap (L.map plainR) (by simp) (by
          intro i hi
          obtain ⟨b', o', he, _, _, hc⟩ := hcell i hi
          simp only [Option.some.injEq, Addr.mk.injEq, and_true] at he
          obtain ⟨rfl, rfl⟩ := he
          exact hc)
        clear hcell hown
        go_wp2
        go_ret
        exact ⟨hbel, rfl⟩
end Go.Proofs.YtinmoligjcajmaaGreatDoor

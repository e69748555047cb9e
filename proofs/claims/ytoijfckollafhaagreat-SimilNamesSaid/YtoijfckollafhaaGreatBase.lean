/- Base of all walks of these claims: what a slice of limbs reads as, and that it reads on while nothing that it lies in is written. Plain definitions; no condition. -/
import Derived.Test.YtoijfckollafhaaGreatRows
import Derived.WalkKit
import Derived.WalkSpells
import Derived.WalkLawsBesides
import Derived.Laws.CopyOwn
namespace Go.Proofs.YtoijfckollafhaaGreat
open Go.RowKit

/-- a fact kept from the walk -/
theorem hid {p : Prop} (h : p) : Hid p := h

/-- the numbers of a slice of uint32, all of whose cells lie in blocks from lo on, below hi -/
def Limbs (lo hi : Nat) (w : World) (v : Value) (xs : List Nat) : Prop :=
  ∃ ad cap, v = .slice ad xs.length cap ∧ xs.length ≤ cap ∧ (ad = none → cap = 0) ∧ (∀ x, x ∈ xs → x < 4294967296) ∧
    (xs ≠ [] → ∃ b off, ad = some ⟨b, off, none⟩ ∧ lo ≤ b ∧ b < hi ∧ (∀ i, i < xs.length → w.cell? ⟨b, off + i, none⟩ = some (.int .u32 (xs.getD i 0 : Nat))) ∧
      (0 < lo → ∃ row, w.heap[b]? = some (.cells row 208 (0, 0))))

theorem Limbs.nil {lo hi : Nat} {w : World} : Limbs lo hi w (.slice none 0 0) [] :=
  ⟨none, 0, rfl, Nat.le_refl _, fun _ => rfl, (by simp), fun h => absurd rfl h⟩

theorem Limbs.keep {lo hi : Nat} {w w' : World} {v : Value} {xs : List Nat} (h : Limbs lo hi w v xs)
    (hk : ∀ b, lo ≤ b → b < hi → w'.heap[b]? = w.heap[b]?) : Limbs lo hi w' v xs := by
  obtain ⟨ad, cap, hv, hc, hn, hx, hne⟩ := h
  refine ⟨ad, cap, hv, hc, hn, hx, fun h => ?_⟩
  obtain ⟨b, off, ha, hl, hh, hcell, hu⟩ := hne h
  exact ⟨b, off, ha, hl, hh, fun i hi => (World.cell?_of_block (hk b hl hh)).trans (hcell i hi), fun h0 => by rw [hk b hl hh]; exact hu h0⟩

theorem Limbs.below {lo hi B : Nat} {w w' : World} {v : Value} {xs : List Nat} (h : Limbs lo hi w v xs)
    (hb : Below B w w') (hB : hi ≤ B) : Limbs lo hi w' v xs :=
  h.keep fun b _ hh => hb.block b (by omega)

theorem Limbs.wide {lo hi lo' hi' : Nat} {w : World} {v : Value} {xs : List Nat} (h : Limbs lo hi w v xs)
    (h1 : lo' ≤ lo) (h2 : hi ≤ hi') : Limbs lo' hi' w v xs := by
  obtain ⟨ad, cap, hv, hc, hn, hx, hne⟩ := h
  refine ⟨ad, cap, hv, hc, hn, hx, fun h => ?_⟩
  obtain ⟨b, off, ha, hl, hh, hcell, hu⟩ := hne h
  exact ⟨b, off, ha, by omega, by omega, hcell, fun h0 => hu (by omega)⟩

theorem Limbs.pre {lo hi : Nat} {w : World} {ad : Option Addr} {n cap : Nat} {xs : List Nat} (h : Limbs lo hi w (.slice ad n cap) xs) (k : Nat) (hk : k ≤ xs.length) :
    Limbs lo hi w (.slice ad k cap) (xs.take k) := by
  obtain ⟨ad', cap', hv, hc, hnn, hx, hne⟩ := h
  simp only [Value.slice.injEq] at hv
  obtain ⟨rfl, _, rfl⟩ := hv
  refine ⟨ad, cap, by rw [List.length_take, Nat.min_eq_left hk], by rw [List.length_take]; omega, hnn, fun x h => hx x (List.mem_of_mem_take h), fun h => ?_⟩
  obtain ⟨b, off, ha, hl, hh, hcell, hu⟩ := hne (by intro e; subst e; simp at h)
  refine ⟨b, off, ha, hl, hh, fun i hi => ?_, hu⟩
  rw [List.length_take] at hi
  have : (xs.take k).getD i 0 = xs.getD i 0 := by simp [List.getD_eq_getElem?_getD, show i < k by omega]
  rw [this]
  exact hcell i (by omega)

/-- without noughts at the end -/
def trimL (xs : List Nat) : List Nat := (xs.reverse.dropWhile (· == 0)).reverse

theorem trimL_snoc_zero (xs : List Nat) : trimL (xs ++ [0]) = trimL xs := by simp [trimL]
theorem trimL_snoc (xs : List Nat) (x : Nat) (h : x ≠ 0) : trimL (xs ++ [x]) = xs ++ [x] := by simp [trimL, h]
theorem trimL_nil : trimL [] = [] := rfl

theorem take_snoc {α : Type} (xs : List α) (d : α) (m : Nat) (h : m < xs.length) : xs.take (m + 1) = xs.take m ++ [xs.getD m d] := by
  rw [List.take_succ_eq_append_getElem h]; simp [List.getD_eq_getElem?_getD, h]

theorem trimL_le (xs : List Nat) : (trimL xs).length ≤ xs.length := by
  have := (List.dropWhile_sublist (l := xs.reverse) (· == 0)).length_le
  simpa [trimL] using this

theorem trimL_mem (xs : List Nat) (x : Nat) (h : x ∈ trimL xs) : x ∈ xs := by
  have := (List.dropWhile_sublist (l := xs.reverse) (· == 0)).mem (by simpa [trimL] using h)
  simpa using this

/-! ### what the call itself owns: make, append, copy, a store; and that it reads as numbers -/

/-- a slice type's element row of the table -/
structure Elem (P : Program) (t e : TypeId) (z : Value) (size bytes : Nat) : Prop where
  sl : P.underlying t = some (.slice e)
  row : (P.info? e).map (fun i => (i.zero, i.size, i.bytes)) = some (some z, size, bytes)
  zs : z.cells.size = size
  pos : 0 < size

section laws
variable {P : Program} {w w0 : World} {ops : Array Oper} {rest : List Oper} {o : Oper} {a : Act} {Q : Exit → Act → World → Prop} {t e : TypeId} {z : Value} {size bytes : Nat}

theorem wpl_make (E : Elem P t e z size bytes) (hg : o.guard = none) (l c : Operand) (hop : o.op = .makeSlice t l c)
    (B : Nat) (L C : Int) (kl kc : IntKind) (n k : Nat) (hl : a.eval l = .int kl L) (hc : a.eval c = .int kc C) (hL : L = (n : Int)) (hC : C = (k : Int)) (hnk : n ≤ k)
    (hb : bytes * k ≤ 281474976710656) (h63 : k ≤ maxLen) (hbl : Below B w0 w) (hB : B ≤ w.heap.size)
    (h : ∀ w', w'.ownsRow B e size (.slice (some ⟨w.heap.size, 0, none⟩) n k) n ((madeCells z.cells (k * size)).toList.take (n * size)) → Below B w0 w' → w.grownBy w' none →
      wpList P ops Q rest (a.put o.dst (.slice (some ⟨w.heap.size, 0, none⟩) n k)) w') :
    wpList P ops Q (o :: rest) a w := by
  refine wpList_plain hg fun K hK => ?_
  obtain ⟨i, hi, hz, hs, hby⟩ := info_parts E.row
  subst hL hC
  have h63' : (k : Int) ≤ 9223372036854775807 := by
    have h := h63
    simp [maxLen] at h
    omega
  have hb' : (i.bytes : Int) * (k : Int) ≤ 281474976710656 := by
    subst hby
    have h : ((i.bytes * k : Nat) : Int) ≤ 281474976710656 := by omega
    rwa [Int.natCast_mul] at h
  have hr := run_make (P := P) w t e i z E.sl hi hz kl kc n k (by omega) (by omega) hb' h63'
  simp only [Int.toNat_natCast, hs] at hr
  unfold Oper.wp
  simp [execOp, hop, hl, hc, hr, Result.andThen]
  refine hK _ _ (h _ ⟨?_, .inr ⟨w.heap.size, k, _, rfl, hB, heap_alloc_new w _, hnk, h63, size_madeCells _ _, rfl⟩⟩ (hbl.alloc hB _) (World.grownBy_alloc w _ none))
  rw [List.length_take, Array.length_toList, size_madeCells, Nat.min_eq_left (Nat.mul_le_mul_right _ hnk)]

/-- append of what lies in the block made last -/
theorem wpl_append1 (E : Elem P t e z size bytes) (hg : o.guard = none) (s x : Operand) (ho : o.op = .call { callee := .builtin .append, args := #[s, x], argTypes := #[t, t] })
    (B n m c : Nat) (v : Value) (xs : List Value) (arr : Array Value) (hown : w.ownsRow B e size v n xs) (hs : a.eval s = v) (hx : a.eval x = .slice (some ⟨w.heap.size, 0, none⟩) m c)
    (hl : arr.size = m * size) (h1 : ∀ u, u ∈ arr.toList → u.oneCell' = true)
    (hb : (n + m) * bytes ≤ 140737488355328) (hm : 0 < m) (h63 : n + m ≤ maxLen) (hbl : Below B w0 w) (hB : B ≤ w.heap.size)
    (h : ∀ g' c' w', w'.ownsRow B e size (.slice (some ⟨g', 0, none⟩) (n + m) c') (n + m) (xs ++ arr.toList) → Below B w0 w' → (w.alloc (.cells arr e)).grownBy w' v.ownBlock →
      wpList P ops Q rest (a.put o.dst (.slice (some ⟨g', 0, none⟩) (n + m) c')) w') :
    wpList P ops Q (o :: rest) a (w.alloc (.cells arr e)) := by
  obtain ⟨i, hi, hz, hsz, hby⟩ := info_parts E.row
  refine wpList_append_own _ hg s x t ho B e i z size bytes E.sl hi hz hsz hby E.zs E.pos v n xs hs (hown.alloc _) ⟨w.heap.size, 0, none⟩ m c arr.toList hx (by simpa using hl) ?_ h1 h63 hb
    (by simp; omega) ?_
  · intro j u hj
    rw [Addr.add_lit]
    have := cell_of_row (w.alloc (.cells arr e)) w.heap.size (0 + j) arr e (0, 0) (heap_alloc_new w _)
    rw [this]
    simpa using hj
  · intro v' w' hown' hgr hnil
    have hsh : ∃ g' c', v' = .slice (some ⟨g', 0, none⟩) (n + m) c' := by
      rcases hown'.2 with ⟨h1, _⟩ | ⟨g', c', _, h1, _⟩
      · have := (hnil.1 h1).2
        omega
      · exact ⟨g', c', h1⟩
    obtain ⟨g', c', rfl⟩ := hsh
    refine h g' c' w' hown' ((hbl.alloc hB _).grown hgr (by simp; omega) ?_) hgr
    intro k hk
    exact ((hown.lt) k hk).1

/-- copy over the whole of a slice that the call made -/
theorem wpl_copy_all (E : Elem P t e z 1 bytes) (hg : o.guard = none) (d s : Operand) (sT : TypeId) (ho : o.op = .call { callee := .builtin .copy, args := #[d, s], argTypes := #[t, sT] })
    (B g n cap sCap : Nat) (ad : Addr) (xs cs : List Value) (hd : a.eval d = .slice (some ⟨g, 0, none⟩) n cap) (hs : a.eval s = .slice (some ad) n sCap)
    (hown : w.ownsRow B e 1 (.slice (some ⟨g, 0, none⟩) n cap) n xs) (hcs : cs.length = n) (hsrc : ∀ j v, cs[j]? = some v → w.cell? (ad.add j) = some v) (h1 : ∀ v, v ∈ cs → v.oneCell' = true)
    (hbl : Below B w0 w)
    (h : ∀ w', w'.ownsRow B e 1 (.slice (some ⟨g, 0, none⟩) n cap) n cs → Below B w0 w' → w.grownBy w' (some g) → wpList P ops Q rest (a.put o.dst (goInt n)) w') :
    wpList P ops Q (o :: rest) a w := by
  have hBg : B ≤ g := (hown.lt g rfl).1
  obtain ⟨i, hi, hz, hsz, hby⟩ := info_parts E.row
  rcases hown.2 with ⟨h', _⟩ | ⟨g', cap', cur, h', hbg, hgg, hnc, hcm, hcs', htake⟩
  · simp at h'
  · simp only [Value.slice.injEq, Option.some.injEq, Addr.mk.injEq, and_true, true_and] at h'
    obtain ⟨rfl, rfl⟩ := h'
    have hf : (0 : Nat) + cs.length ≤ cur.size := by rw [hcs', hcs]; omega
    refine wpList_copy_own hg d s t sT ho e E.sl (by simp [hi, hsz]) g 0 n cap ad n sCap hd hs cur e hgg cs (by simp [hcs]) hsrc hf h1 ?_
    rw [hcs]
    refine h _ ⟨by simpa using hcs, .inr ⟨g, cap, _, rfl, hbg, setRow_heap w g cur _ e _ hgg, hnc, hcm, ?_, ?_⟩⟩ (below_setRow hbl hBg _)
      ⟨rfl, rfl, rfl, by simp [World.setRow], fun k _ hk => setRow_other w g k _ (fun e => hk (by simp [e]))⟩
    · simp; omega
    · simp [← hcs]
end laws

/-- numbers as cells -/
def u32s (xs : List Nat) : List Value := xs.map fun x => .int .u32 (x : Nat)

theorem u32s_one (xs : List Nat) : ∀ v, v ∈ u32s xs → v.oneCell' = true := by
  intro v hv
  obtain ⟨x, _, rfl⟩ := List.mem_map.1 hv
  rfl

theorem Limbs.ofOwn {B : Nat} {w : World} {v : Value} {n : Nat} {xs : List Nat} (h : w.ownsRow B 208 1 v n (u32s xs)) (hx : ∀ x, x ∈ xs → x < 4294967296) :
    Limbs B w.heap.size w v xs := by
  have hn : xs.length = n := by simpa [u32s] using h.1
  rcases h.2 with ⟨rfl, rfl⟩ | ⟨g, cap, cur, rfl, hb, hg, hc, hm, hs, ht⟩
  · obtain rfl : xs = [] := List.eq_nil_of_length_eq_zero hn
    exact Limbs.nil
  · refine ⟨_, cap, by rw [hn], by omega, (by simp), hx, fun _ => ⟨g, 0, rfl, hb, (Array.getElem?_eq_some_iff.1 hg).1, fun i hi => ?_, fun _ => ⟨cur, hg⟩⟩⟩
    rw [cell_of_row w g (0 + i) cur 208 (0, 0) hg, Nat.zero_add]
    have : (u32s xs)[i]? = some (.int .u32 (xs.getD i 0 : Nat)) := by
      simp [u32s, List.getD_eq_getElem?_getD, hi]
    rw [← this, ← ht, List.getElem?_take, if_pos (by omega)]
    simp

theorem own_u32 {B : Nat} {w : World} {e : TypeId} {g n cap : Nat} {xs : List Nat} (h : w.ownsRow B e 1 (.slice (some ⟨g, 0, none⟩) n cap) n (u32s xs)) (i : Nat) (hi : i < n) :
    w.cell? ⟨g, i, none⟩ = some (.int .u32 (xs.getD i 0 : Nat)) ∧ w.frozen? ⟨g, i, none⟩ = false := by
  have hn : xs.length = n := by simpa [u32s] using h.1
  refine ⟨?_, h.frozenAt i⟩
  rw [h.cellAt i (by omega)]
  simp [u32s, List.getD_eq_getElem?_getD, show i < xs.length by omega]

/-- n noughts -/
def zeroL (n : Nat) : List Nat := List.replicate n 0
theorem zeroL_len (n : Nat) : (zeroL n).length = n := by simp [zeroL]
theorem zeroL_getD (n k : Nat) : (zeroL n).getD k 0 = 0 := by simp [zeroL, List.getD_eq_getElem?_getD, List.getElem?_replicate]; split <;> rfl

theorem wpl_make_u32 {P : Program} {w w0 : World} {ops : Array Oper} {rest : List Oper} {o : Oper} {a : Act} {Q : Exit → Act → World → Prop} {t e : TypeId}
    (E : Elem P t e (.int .u32 0) 1 4) (hg : o.guard = none) (l c : Operand) (hop : o.op = .makeSlice t l c)
    (B : Nat) (L C : Int) (kl kc : IntKind) (n k : Nat) (hl : a.eval l = .int kl L) (hc : a.eval c = .int kc C) (hL : L = (n : Int)) (hC : C = (k : Int)) (hnk : n ≤ k)
    (hb : k ≤ 70368744177664) (hbl : Below B w0 w) (hB : B ≤ w.heap.size)
    (h : ∀ w', w'.ownsRow B e 1 (.slice (some ⟨w.heap.size, 0, none⟩) n k) n (u32s (zeroL n)) → Below B w0 w' → w.grownBy w' none →
      wpList P ops Q rest (a.put o.dst (.slice (some ⟨w.heap.size, 0, none⟩) n k)) w') :
    wpList P ops Q (o :: rest) a w := by
  refine wpl_make E hg l c hop B L C kl kc n k hl hc hL hC hnk (by omega) (by unfold maxLen; omega) hbl hB ?_
  intro w' h1 h2 h3
  refine h w' ?_ h2 h3
  have e : (madeCells (Value.int .u32 0).cells (k * 1)).toList.take (n * 1) = u32s (zeroL n) := by
    have : (Value.int .u32 0).cells = #[Value.int .u32 0] := rfl
    rw [this, toList_madeCells_one]
    simp [u32s, zeroL, Nat.min_eq_left hnk]
  rwa [e] at h1

theorem own_set {B : Nat} {w : World} {e : TypeId} {g n cap : Nat} {cur : List Nat} (h : w.ownsRow B e 1 (.slice (some ⟨g, 0, none⟩) n cap) n (u32s cur)) (i y : Nat) :
    (w.setCell ⟨g, i, none⟩ (.int .u32 (y : Nat))).ownsRow B e 1 (.slice (some ⟨g, 0, none⟩) n cap) n (u32s (cur.set i y)) ∧ w.grownBy (w.setCell ⟨g, i, none⟩ (.int .u32 (y : Nat))) (some g) := by
  have := h.stored i (.int .u32 (y : Nat))
  have e : (u32s cur).set i (.int .u32 (y : Nat)) = u32s (cur.set i y) := by simp [u32s, List.map_set]
  rwa [e] at this

theorem own_len {B : Nat} {w : World} {e : TypeId} {v : Value} {n : Nat} {cur : List Nat} (h : w.ownsRow B e 1 v n (u32s cur)) : cur.length = n := by simpa [u32s] using h.1

theorem take_set_succ {α : Type} (l : List α) (i : Nat) (y : α) (h : i < l.length) : (l.set i y).take (i + 1) = l.take i ++ [y] := by
  rw [List.take_succ_eq_append_getElem (by simpa using h)]
  simp [List.take_set_of_le]

theorem cellB {B : Nat} {w wr : World} (hb : Below B w wr) {p : Addr} {v : Value} (hc : w.cell? p = some v) (hB : w.heap.size ≤ B) : wr.cell? p = some v :=
  (hb.cell (Nat.lt_of_lt_of_le (World.block_lt_of_cell? w p hc) hB)).trans hc

/-- a slice of limbs, taken apart: its address is none only where there is no limb -/
theorem Limbs.open {lo hi : Nat} {w : World} {v : Value} {xs : List Nat} (h : Limbs lo hi w v xs) :
    ∃ ad cap, v = .slice ad xs.length cap ∧ xs.length ≤ cap ∧ (ad = none → cap = 0) ∧ (∀ x, x ∈ xs → x < 4294967296) ∧
      (∀ i, i < xs.length → ∃ b off, ad = some ⟨b, off, none⟩ ∧ lo ≤ b ∧ b < hi ∧ w.cell? ⟨b, off + i, none⟩ = some (.int .u32 (xs.getD i 0 : Nat))) := by
  obtain ⟨ad, cap, hv, hc, hn, hx, hne⟩ := h
  refine ⟨ad, cap, hv, hc, hn, hx, fun i hi => ?_⟩
  obtain ⟨b, off, ha, hl, hh, hcell, _⟩ := hne (by intro e; subst e; simp at hi)
  exact ⟨b, off, ha, hl, hh, hcell i hi⟩

theorem belowN {B : Nat} {a w : World} (h : Below B a w) (n : Nat) : Below B a (w.drewN n) := ⟨h.os, h.tape, h.output, h.size, h.block⟩

/-- block g is a row of just these cells -/
def BoxIs (w : World) (g : Nat) (T : TypeId) (cs : List Value) : Prop := w.heap[g]? = some (.cells cs.toArray T (0, 0))

theorem BoxIs.lt {w : World} {g : Nat} {T : TypeId} {cs : List Value} (h : BoxIs w g T cs) : g < w.heap.size := (Array.getElem?_eq_some_iff.1 h).1
theorem BoxIs.cell {w : World} {g : Nat} {T : TypeId} {cs : List Value} (h : BoxIs w g T cs) (i : Nat) (v : Value) (hi : cs[i]? = some v) : w.cell? ⟨g, i, none⟩ = some v := by
  rw [cell_of_row w g i cs.toArray T (0, 0) h]; simpa using hi
theorem BoxIs.frozen {w : World} {g : Nat} {T : TypeId} {cs : List Value} (h : BoxIs w g T cs) (i : Nat) : w.frozen? ⟨g, i, none⟩ = false := frozen_of_row w g i cs.toArray T h
theorem BoxIs.keep {w w' : World} {g : Nat} {T : TypeId} {cs : List Value} (h : BoxIs w g T cs) (hk : w'.heap[g]? = w.heap[g]?) : BoxIs w' g T cs := hk.trans h
theorem BoxIs.below {B : Nat} {w w' : World} {g : Nat} {T : TypeId} {cs : List Value} (h : BoxIs w g T cs) (hb : Below B w w') (hg : g < B) : BoxIs w' g T cs := h.keep (hb.block g hg)
theorem BoxIs.later {w w' : World} {g : Nat} {T : TypeId} {cs : List Value} (h : BoxIs w g T cs) (hb : Below w.heap.size w w') : BoxIs w' g T cs := h.below hb h.lt
theorem BoxIs.new (w : World) (arr : Array Value) (T : TypeId) : BoxIs (w.alloc (.cells arr T)) w.heap.size T arr.toList := heap_alloc_new w _
theorem BoxIs.alloc {w : World} {g : Nat} {T : TypeId} {cs : List Value} (h : BoxIs w g T cs) (o : Obj) : BoxIs (w.alloc o) g T cs := h.keep (Below.heap_alloc w o g h.lt)
theorem BoxIs.set {w : World} {g : Nat} {T : TypeId} {cs : List Value} (h : BoxIs w g T cs) (i : Nat) (v : Value) : BoxIs (w.setCell ⟨g, i, none⟩ v) g T (cs.set i v) := by
  have := heap_setCell_same w g i cs.toArray T v h
  simpa [BoxIs] using this
theorem BoxIs.other {w : World} {g : Nat} {T : TypeId} {cs : List Value} (h : BoxIs w g T cs) (p : Addr) (v : Value) (hp : g ≠ p.block) : BoxIs (w.setCell p v) g T cs := h.keep (Below.heap_setCell _ _ _ _ hp)

theorem BoxIs.two {w : World} {g : Nat} {T : TypeId} {a b : Value} (h : BoxIs w g T [a, b]) :
    w.cell? ⟨g, 0, none⟩ = some a ∧ w.cell? ⟨g, 1, none⟩ = some b ∧ w.frozen? ⟨g, 0, none⟩ = false ∧ w.frozen? ⟨g, 1, none⟩ = false :=
  ⟨h.cell 0 a rfl, h.cell 1 b rfl, h.frozen 0, h.frozen 1⟩
theorem BoxIs.four {w : World} {g : Nat} {T : TypeId} {a b c d : Value} (h : BoxIs w g T [a, b, c, d]) :
    (w.cell? ⟨g, 0, none⟩ = some a ∧ w.cell? ⟨g, 1, none⟩ = some b ∧ w.cell? ⟨g, 2, none⟩ = some c ∧ w.cell? ⟨g, 3, none⟩ = some d) ∧
      w.frozen? ⟨g, 0, none⟩ = false ∧ w.frozen? ⟨g, 1, none⟩ = false ∧ w.frozen? ⟨g, 2, none⟩ = false ∧ w.frozen? ⟨g, 3, none⟩ = false :=
  ⟨⟨h.cell 0 a rfl, h.cell 1 b rfl, h.cell 2 c rfl, h.cell 3 d rfl⟩, h.frozen 0, h.frozen 1, h.frozen 2, h.frozen 3⟩
theorem BoxIs.one {w : World} {g : Nat} {T : TypeId} {a : Value} (h : BoxIs w g T [a]) : w.cell? ⟨g, 0, none⟩ = some a ∧ w.frozen? ⟨g, 0, none⟩ = false := ⟨h.cell 0 a rfl, h.frozen 0⟩

theorem boxA (w : World) (a : Array Value) (T : TypeId) : Below w.heap.size w (w.alloc (.cells a T)) ∧ BoxIs (w.alloc (.cells a T)) w.heap.size T a.toList ∧ (w.alloc (.cells a T)).heap.size = w.heap.size + 1 :=
  ⟨(Below.refl _ _).alloc (Nat.le_refl _) _, BoxIs.new _ _ _, by simp⟩

theorem boxAB (w : World) (a b : Array Value) (T U : TypeId) : Below w.heap.size w ((w.alloc (.cells a T)).alloc (.cells b U)) ∧ BoxIs ((w.alloc (.cells a T)).alloc (.cells b U)) w.heap.size T a.toList ∧
    BoxIs ((w.alloc (.cells a T)).alloc (.cells b U)) (w.heap.size + 1) U b.toList ∧ ((w.alloc (.cells a T)).alloc (.cells b U)).heap.size = w.heap.size + 2 := by
  refine ⟨((Below.refl _ _).alloc (Nat.le_refl _) _).alloc (by simp) _, (BoxIs.new _ _ _).alloc _, ?_, by simp⟩
  have := BoxIs.new (w.alloc (.cells a T)) b U
  simpa using this

theorem boxABC (w : World) (a b c : Array Value) (T U V : TypeId) : Below w.heap.size w (((w.alloc (.cells a T)).alloc (.cells b U)).alloc (.cells c V)) ∧
    BoxIs (((w.alloc (.cells a T)).alloc (.cells b U)).alloc (.cells c V)) w.heap.size T a.toList ∧ BoxIs (((w.alloc (.cells a T)).alloc (.cells b U)).alloc (.cells c V)) (w.heap.size + 1) U b.toList ∧
    BoxIs (((w.alloc (.cells a T)).alloc (.cells b U)).alloc (.cells c V)) (w.heap.size + 2) V c.toList ∧ (((w.alloc (.cells a T)).alloc (.cells b U)).alloc (.cells c V)).heap.size = w.heap.size + 3 := by
  obtain ⟨h1, h2, h3, h4⟩ := boxAB w a b T U
  refine ⟨h1.alloc (by simp; omega) _, h2.alloc _, h3.alloc _, ?_, by simp⟩
  have := BoxIs.new ((w.alloc (.cells a T)).alloc (.cells b U)) c V
  simpa using this

theorem getD_eq (xs : List Nat) (k : Nat) (h : k < xs.length) : xs.getD k 0 = xs[k] := by simp [List.getD_eq_getElem?_getD, h]

theorem getD_mem (xs : List Nat) (k : Nat) (h : k < xs.length) : xs.getD k 0 ∈ xs := by rw [getD_eq xs k h]; exact List.getElem_mem h

theorem getD_out (xs : List Nat) (k : Nat) (h : xs.length ≤ k) : xs.getD k 0 = 0 := by
  rw [List.getD_eq_getElem?_getD, List.getElem?_eq_none h]; rfl

theorem Limbs.shape {lo hi : Nat} {w : World} {v : Value} {xs : List Nat} (h : Limbs lo hi w v xs) : ∃ ad cap, v = .slice ad xs.length cap := by
  obtain ⟨ad, cap, hv, _⟩ := h
  exact ⟨ad, cap, hv⟩

/-- the numbers of a slice of integers of a kind -/
def Nums (k : IntKind) (lo hi : Nat) (w : World) (v : Value) (xs : List Nat) : Prop :=
  ∃ ad cap, v = .slice ad xs.length cap ∧ xs.length ≤ cap ∧ (ad = none → cap = 0) ∧
    (xs ≠ [] → ∃ b off, ad = some ⟨b, off, none⟩ ∧ lo ≤ b ∧ b < hi ∧ ∀ i, i < xs.length → w.cell? ⟨b, off + i, none⟩ = some (.int k (xs.getD i 0 : Nat)))

def numsC (k : IntKind) (xs : List Nat) : List Value := xs.map fun x => .int k (x : Nat)

theorem numsC_one (k : IntKind) (xs : List Nat) : ∀ v, v ∈ numsC k xs → v.oneCell' = true := by
  intro v hv
  obtain ⟨x, _, rfl⟩ := List.mem_map.1 hv
  rfl

theorem Nums.nil {k : IntKind} {lo hi : Nat} {w : World} : Nums k lo hi w (.slice none 0 0) [] := ⟨none, 0, rfl, Nat.le_refl _, fun _ => rfl, fun h => absurd rfl h⟩

theorem Nums.keep {k : IntKind} {lo hi : Nat} {w w' : World} {v : Value} {xs : List Nat} (h : Nums k lo hi w v xs)
    (hk : ∀ b, lo ≤ b → b < hi → w'.heap[b]? = w.heap[b]?) : Nums k lo hi w' v xs := by
  obtain ⟨ad, cap, hv, hc, hn, hne⟩ := h
  refine ⟨ad, cap, hv, hc, hn, fun h => ?_⟩
  obtain ⟨b, off, ha, hl, hh, hcell⟩ := hne h
  exact ⟨b, off, ha, hl, hh, fun i hi => (World.cell?_of_block (hk b hl hh)).trans (hcell i hi)⟩

theorem Nums.below {k : IntKind} {lo hi B : Nat} {w w' : World} {v : Value} {xs : List Nat} (h : Nums k lo hi w v xs)
    (hb : Below B w w') (hB : hi ≤ B) : Nums k lo hi w' v xs :=
  h.keep fun b _ hh => hb.block b (by omega)

theorem Nums.set {k : IntKind} {lo hi : Nat} {w : World} {v : Value} {xs : List Nat} (h : Nums k lo hi w v xs) (p : Addr) (u : Value) (hp : p.block < lo ∨ hi ≤ p.block) : Nums k lo hi (w.setCell p u) v xs :=
  h.keep fun b h1 h2 => Below.heap_setCell _ _ _ _ (by omega)

theorem Nums.wide {k : IntKind} {lo hi lo' hi' : Nat} {w : World} {v : Value} {xs : List Nat} (h : Nums k lo hi w v xs)
    (h1 : lo' ≤ lo) (h2 : hi ≤ hi') : Nums k lo' hi' w v xs := by
  obtain ⟨ad, cap, hv, hc, hn, hne⟩ := h
  refine ⟨ad, cap, hv, hc, hn, fun h => ?_⟩
  obtain ⟨b, off, ha, hl, hh, hcell⟩ := hne h
  exact ⟨b, off, ha, by omega, by omega, hcell⟩

theorem Nums.open {k : IntKind} {lo hi : Nat} {w : World} {v : Value} {xs : List Nat} (h : Nums k lo hi w v xs) :
    ∃ ad cap, v = .slice ad xs.length cap ∧ xs.length ≤ cap ∧
      (∀ i, i < xs.length → ∃ b off, ad = some ⟨b, off, none⟩ ∧ lo ≤ b ∧ b < hi ∧ w.cell? ⟨b, off + i, none⟩ = some (.int k (xs.getD i 0 : Nat))) := by
  obtain ⟨ad, cap, hv, hc, hn, hne⟩ := h
  refine ⟨ad, cap, hv, hc, fun i hi => ?_⟩
  obtain ⟨b, off, ha, hl, hh, hcell⟩ := hne (by intro e; subst e; simp at hi)
  exact ⟨b, off, ha, hl, hh, hcell i hi⟩

/-- without its first element: the address that Go's 's[1:]' has -/
theorem Nums.tail {k : IntKind} {lo hi : Nat} {w : World} {b off cap x : Nat} {xs : List Nat} (h : Nums k lo hi w (.slice (some ⟨b, off, none⟩) (x :: xs).length cap) (x :: xs)) :
    Nums k lo hi w (.slice (some (if cap = 1 then ⟨b, off, none⟩ else ⟨b, off + 1, none⟩)) xs.length (cap - 1)) xs := by
  obtain ⟨ad, cap', hv, hc, hn, hne⟩ := h
  simp only [Value.slice.injEq] at hv
  obtain ⟨rfl, _, rfl⟩ := hv
  simp only [List.length_cons] at hc
  refine ⟨_, _, rfl, by omega, by simp, fun h => ?_⟩
  obtain ⟨b', off', ha, hl, hh, hcell⟩ := hne (by simp)
  simp only [Option.some.injEq, Addr.mk.injEq, and_true] at ha
  obtain ⟨rfl, rfl⟩ := ha
  have hp : 0 < xs.length := List.length_pos_iff.2 h
  refine ⟨b, off + 1, by rw [if_neg (by omega)], hl, hh, fun i hi => ?_⟩
  have := hcell (i + 1) (by simp; omega)
  rw [Nat.add_assoc, Nat.add_comm 1 i, this]
  simp

theorem Nums.ofOwn {k : IntKind} {B : Nat} {w : World} {e : TypeId} {v : Value} {n : Nat} {xs : List Nat} (h : w.ownsRow B e 1 v n (numsC k xs)) : Nums k B w.heap.size w v xs := by
  have hn : xs.length = n := by simpa [numsC] using h.1
  rcases h.2 with ⟨rfl, rfl⟩ | ⟨g, cap, cur, rfl, hb, hg, hc, hm, hs, ht⟩
  · obtain rfl : xs = [] := List.eq_nil_of_length_eq_zero hn
    exact Nums.nil
  · refine ⟨_, cap, by rw [hn], by omega, (by simp), fun _ => ⟨g, 0, rfl, hb, (Array.getElem?_eq_some_iff.1 hg).1, fun i hi => ?_⟩⟩
    rw [cell_of_row w g (0 + i) cur e (0, 0) hg, Nat.zero_add]
    have : (numsC k xs)[i]? = some (.int k (xs.getD i 0 : Nat)) := by
      simp [numsC, List.getD_eq_getElem?_getD, hi]
    rw [← this, ← ht, List.getElem?_take, if_pos (by omega)]
    simp

/-! ### limbs and numbers -/

/-- the number that limbs make -/
def natOf : List Nat → Nat
  | [] => 0
  | x :: xs => x + 4294967296 * natOf xs

/-- a number's limbs, without noughts at the end -/
def toL (n : Nat) : List Nat := if h : n = 0 then [] else n % 4294967296 :: toL (n / 4294967296)
  termination_by n
  decreasing_by exact Nat.div_lt_self (Nat.pos_of_ne_zero h) (by decide)

theorem toL_zero : toL 0 = [] := by rw [toL]; simp
theorem toL_pos {n : Nat} (h : n ≠ 0) : toL n = n % 4294967296 :: toL (n / 4294967296) := by rw [toL]; simp [h]

theorem natOf_toL (n : Nat) : natOf (toL n) = n := by
  induction n using Nat.strongRecOn with
  | ind n ih =>
    by_cases h : n = 0
    · subst h; rw [toL_zero]; rfl
    · rw [toL_pos h, natOf, ih _ (Nat.div_lt_self (Nat.pos_of_ne_zero h) (by decide))]
      omega

theorem toL_lt (n : Nat) : ∀ x, x ∈ toL n → x < 4294967296 := by
  induction n using Nat.strongRecOn with
  | ind n ih =>
    by_cases h : n = 0
    · subst h; rw [toL_zero]; simp
    · rw [toL_pos h]
      intro x hx
      rcases List.mem_cons.1 hx with rfl | hx
      · omega
      · exact ih _ (Nat.div_lt_self (Nat.pos_of_ne_zero h) (by decide)) x hx

theorem natOf_snoc (xs : List Nat) (x : Nat) : natOf (xs ++ [x]) = natOf xs + 4294967296 ^ xs.length * x := by
  induction xs with
  | nil => simp [natOf]
  | cons y ys ih => simp only [List.cons_append, natOf, ih, List.length_cons, Nat.pow_succ]; rw [Nat.mul_add, Nat.add_assoc]; congr 2; rw [Nat.mul_comm (_ ^ _) 4294967296, Nat.mul_assoc]

/-- append of a slice of limbs, whatever it is, to what the call owns -/
theorem wpl_append_limbs {P : Program} {w w0 : World} {ops : Array Oper} {rest : List Oper} {o : Oper} {a : Act} {Q : Exit → Act → World → Prop} {t e : TypeId}
    (E : Elem P t e (.int .u32 0) 1 4) (hg : o.guard = none) (s x : Operand) (ho : o.op = .call { callee := .builtin .append, args := #[s, x], argTypes := #[t, t] })
    (B n : Nat) (v v2 : Value) (cells : List Value) (ys : List Nat) (lo hi : Nat) (hown : w.ownsRow B e 1 v n cells) (hL : Limbs lo hi w v2 ys) (hs : a.eval s = v) (hx : a.eval x = v2)
    (hb : n + ys.length ≤ 35184372088832) (hbl : Below B w0 w) (hB : B ≤ w.heap.size)
    (h : ∀ v' w', w'.ownsRow B e 1 v' (n + ys.length) (cells ++ u32s ys) → Below B w0 w' → w.grownBy w' v.ownBlock → (v' = .slice none 0 0 ↔ v = .slice none 0 0 ∧ ys = []) →
      wpList P ops Q rest (a.put o.dst v') w') :
    wpList P ops Q (o :: rest) a w := by
  obtain ⟨i, hi', hz, hsz, hby⟩ := info_parts E.row
  obtain ⟨ad, cap, rfl, hc, hn, hlt, hcell⟩ := hL
  have hBk : ∀ k, v.ownBlock = some k → B ≤ k := fun k hk => (hown.lt k hk).1
  cases ad with
  | none =>
    have hc0 := hn rfl
    have hl0 : ys = [] := List.eq_nil_of_length_eq_zero (by omega)
    subst hl0
    subst hc0
    refine wpList_plain hg fun K hK => ?_
    have hr := run_append_owned_none (P := P) w B t o.type e i 1 E.sl hi' v n cells hown
    have hx' : a.eval x = .slice none 0 0 := by simpa using hx
    unfold Oper.wp
    simp [execOp, ho, resolve, invoke, builtin, hs, hx', hr, Result.andThen]
    exact hK _ _ (h v w (by simpa [u32s] using hown) hbl (World.grownBy.refl _ _) (by simp))
  | some ad =>
    refine wpList_append_own _ hg s x t ho B e i _ 1 4 E.sl hi' hz hsz hby E.zs E.pos v n cells hs hown ad ys.length cap (u32s ys) hx (by simp [u32s]) ?_ (u32s_one _) (by unfold maxLen; omega) (by omega) hB ?_
    · intro j u hj
      have hjl : j < ys.length := by
        have := (List.getElem?_eq_some_iff.1 hj).1
        simpa [u32s] using this
      obtain ⟨b, off, ha, _, _, hcc, _⟩ := hcell (by intro e; subst e; simp at hjl)
      simp only [Option.some.injEq] at ha
      subst ha
      rw [Addr.add_lit, hcc j hjl, ← hj]
      simp [u32s, List.getD_eq_getElem?_getD, hjl]
    · intro v' w' h1 h2 h3
      refine h v' w' h1 (hbl.grown h2 hB hBk) h2 ?_
      rw [h3]
      constructor
      · rintro ⟨h4, h5⟩; exact ⟨h4, List.eq_nil_of_length_eq_zero h5⟩
      · rintro ⟨h4, h5⟩; exact ⟨h4, by simp [h5]⟩

/-- bytes as cells -/
def u8s (xs : List UInt8) : List Value := xs.map fun c => .int .u8 (c.toNat : Nat)

theorem u8s_one (xs : List UInt8) : ∀ v, v ∈ u8s xs → v.oneCell' = true := by
  intro v hv
  obtain ⟨x, _, rfl⟩ := List.mem_map.1 hv
  rfl

theorem own_u8 {B : Nat} {w : World} {e : TypeId} {g n cap : Nat} {xs : List UInt8} (h : w.ownsRow B e 1 (.slice (some ⟨g, 0, none⟩) n cap) n (u8s xs)) (i : Nat) (hi : i < n) :
    w.cell? ⟨g, i, none⟩ = some (.int .u8 ((xs.getD i 0).toNat : Nat)) ∧ w.frozen? ⟨g, i, none⟩ = false := by
  have hn : xs.length = n := by simpa [u8s] using h.1
  refine ⟨?_, h.frozenAt i⟩
  rw [h.cellAt i (by omega)]
  simp [u8s, List.getD_eq_getElem?_getD, show i < xs.length by omega]

/-- rows of unlike element types are unlike blocks -/
theorem own_other {w : World} {B B' : Nat} {e e' : TypeId} {s s' : Nat} {g n cap n' : Nat} {v' : Value} {xs xs' : List Value} (h : w.ownsRow B e s (.slice (some ⟨g, 0, none⟩) n cap) n xs) (h' : w.ownsRow B' e' s' v' n' xs') (hne : e ≠ e') :
    v'.ownBlock ≠ some g := by
  intro hg
  rcases h.2 with ⟨h1, _⟩ | ⟨g1, c1, cur1, h1, _, hh1, _⟩
  · simp at h1
  · simp only [Value.slice.injEq, Option.some.injEq, Addr.mk.injEq, and_true, true_and] at h1
    obtain ⟨rfl, rfl⟩ := h1
    rcases h'.2 with ⟨rfl, _⟩ | ⟨g2, c2, cur2, rfl, _, hh2, _⟩
    · simp [Value.ownBlock] at hg
    · simp [Value.ownBlock] at hg
      subst hg
      rw [hh1] at hh2
      simp at hh2
      exact hne hh2.2

theorem own_setOther {w : World} {B : Nat} {e : TypeId} {s n : Nat} {v : Value} {xs : List Value} (h : w.ownsRow B e s v n xs) (p : Addr) (u : Value) (hp : v.ownBlock ≠ some p.block) : (w.setCell p u).ownsRow B e s v n xs := by
  refine ⟨h.1, ?_⟩
  rcases h.2 with hn | ⟨g, cap, cur, rfl, hbg, hgg, rest⟩
  · exact .inl hn
  · refine .inr ⟨g, cap, cur, rfl, hbg, ?_, rest⟩
    rw [Below.heap_setCell _ _ _ _ (by intro e; exact hp (by simp [Value.ownBlock, e]))]
    exact hgg

theorem own_nil_iff {w : World} {B : Nat} {e : TypeId} {s n : Nat} {v : Value} {xs : List Value} (h : w.ownsRow B e s v n xs) (hn : 0 < n) : ∃ g c, v = .slice (some ⟨g, 0, none⟩) n c ∧ B ≤ g ∧ g < w.heap.size := by
  rcases h.2 with ⟨_, h0⟩ | ⟨g, cap, cur, rfl, hb, hh, _⟩
  · omega
  · exact ⟨g, cap, rfl, hb, (Array.getElem?_eq_some_iff.1 hh).1⟩

theorem own_shape {w : World} {B : Nat} {e : TypeId} {s n : Nat} {v : Value} {xs : List Value} (h : w.ownsRow B e s v n xs) : ∃ ad c, v = .slice ad n c := by
  rcases h.2 with ⟨rfl, rfl⟩ | ⟨g, cap, cur, rfl, _⟩
  · exact ⟨_, _, rfl⟩
  · exact ⟨_, _, rfl⟩

theorem natOf_lt (xs : List Nat) (hx : ∀ x, x ∈ xs → x < 4294967296) : natOf xs < 4294967296 ^ xs.length := by
  induction xs with
  | nil => simp [natOf]
  | cons y ys ih =>
    have h1 := ih fun x h => hx x (List.mem_cons_of_mem _ h)
    have h2 := hx y (List.mem_cons_self ..)
    simp only [natOf, List.length_cons, Nat.pow_succ]
    omega

theorem trimL_cons (x : Nat) (xs : List Nat) : trimL (x :: xs) = if trimL xs = [] ∧ x = 0 then [] else x :: trimL xs := by
  unfold trimL
  simp only [List.reverse_cons, List.dropWhile_append]
  by_cases h : xs.reverse.dropWhile (· == 0) = []
  · by_cases hx : x = 0 <;> simp [h, hx]
  · have : ¬ (List.dropWhile (fun x => x == 0) xs.reverse).reverse = [] := by simpa using h
    simp [h]

theorem trimL_toL (xs : List Nat) (hx : ∀ x, x ∈ xs → x < 4294967296) : trimL xs = toL (natOf xs) := by
  induction xs with
  | nil => simp [natOf, toL_zero, trimL]
  | cons y ys ih =>
    have h1 := ih fun x h => hx x (List.mem_cons_of_mem _ h)
    have h2 := hx y (List.mem_cons_self ..)
    rw [trimL_cons, h1]
    by_cases h0 : y + 4294967296 * natOf ys = 0
    · have hy : natOf ys = 0 := by omega
      have hy0 : y = 0 := by omega
      simp [natOf, hy, hy0, toL_zero]
    · rw [natOf, toL_pos h0, show (y + 4294967296 * natOf ys) % 4294967296 = y from by omega, show (y + 4294967296 * natOf ys) / 4294967296 = natOf ys from by omega]
      rw [if_neg]
      rintro ⟨h3, h4⟩
      have : natOf (toL (natOf ys)) = 0 := by rw [h3]; rfl
      rw [natOf_toL] at this
      omega

theorem toL_len_le (n k : Nat) (h : n < 4294967296 ^ k) : (toL n).length ≤ k := by
  induction k generalizing n with
  | zero => obtain rfl : n = 0 := by simpa using h
            simp [toL_zero]
  | succ k ih =>
    by_cases h0 : n = 0
    · subst h0; simp [toL_zero]
    · rw [toL_pos h0, List.length_cons]
      have := ih (n / 4294967296) (by rw [Nat.pow_succ] at h; exact Nat.div_lt_of_lt_mul (by rw [Nat.mul_comm]; exact h))
      omega

theorem toL_len (xs : List Nat) (hx : ∀ x, x ∈ xs → x < 4294967296) : (toL (natOf xs)).length ≤ xs.length :=
  toL_len_le _ _ (natOf_lt xs hx)

theorem toL_nil (n : Nat) : toL n = [] ↔ n = 0 := by
  constructor
  · intro h
    rw [← natOf_toL n, h]; rfl
  · intro h
    rw [h, toL_zero]

theorem toL_len_pos (n : Nat) : decide (n ≠ 0) = decide (0 < (toL n).length) := by
  by_cases h0 : n = 0
  · simp [h0, toL_zero]
  · simp [h0, toL_pos h0]

theorem toL_inj {a b : Nat} (h : toL a = toL b) : a = b := by rw [← natOf_toL a, h, natOf_toL]

end Go.Proofs.YtoijfckollafhaaGreat

/- numeral.pieces: a row's words and commas. -/
import Derived.Test.YtjjidmgeladicaaDoorRow0
import Derived.Deep.RegionLaw
namespace Go.Proofs.YtjjidmgeladicaaDoor
open Go.RowKit

theorem elemPiece : Elem Tryd.prog 83 86 (.agg #[.string ⟨#[]⟩, .bool false]) 2 24 :=
  ⟨Tryd.underlying83, by kernel_rfl, rfl, by decide⟩

/-- append as one step of a region that draws -/
theorem step_own {P : Program} {w w0 : World} {ops : Array Oper} {o : Oper} {a : Act} {K : Act → World → Prop} {Q : Exit → Act → World → Prop} {E0 : Prop} {t e : TypeId} {z : Value} {size bytes : Nat}
    (E : Elem P t e z size bytes) (hg : o.guard = none) (s x : Operand) (ho : o.op = .call { callee := .builtin .append, args := #[s, x], argTypes := #[t, t] })
    (B n m c : Nat) (v : Value) (xs : List Value) (arr : Array Value) (hown : w.ownsRow B e size v n xs) (hs : a.eval s = v) (hx : a.eval x = .slice (some ⟨w.heap.size, 0, none⟩) m c)
    (hl : arr.size = m * size) (h1 : ∀ u, u ∈ arr.toList → u.oneCell' = true)
    (hb : (n + m) * bytes ≤ 140737488355328) (hm : 0 < m) (h63 : n + m ≤ maxLen) (hbl : Below B w0 w) (hB : B ≤ w.heap.size)
    (h : ∀ g' c' w', w'.ownsRow B e size (.slice (some ⟨g', 0, none⟩) (n + m) c') (n + m) (xs ++ arr.toList) → Below B w0 w' → (w.alloc (.cells arr e)).grownBy w' v.ownBlock →
      K (a.put o.dst (.slice (some ⟨g', 0, none⟩) (n + m) c')) w') :
    if Region.wanted o (yielded ops a.tmps) = true then Oper.wp P o a (w.alloc (.cells arr e)) K Q else E0 := by
  have hw : Region.wanted o (yielded ops a.tmps) = true := by simp [Region.wanted, hg]
  rw [if_pos hw]
  obtain ⟨i, hi, hz, hsz, hby⟩ := info_parts E.row
  refine wp_append_own _ s x t ho B e i z size bytes E.sl hi hz hsz hby E.zs E.pos v n xs hs (hown.alloc _) ⟨w.heap.size, 0, none⟩ m c arr.toList hx (by simpa using hl) ?_ h1 h63 hb
    (by simp; omega) ?_
  · intro j u hj
    rw [Addr.add_lit]
    have := cell_of_row (w.alloc (.cells arr e)) w.heap.size (0 + j) arr e (0, 0) (heap_alloc_new w _)
    rw [this]
    simpa using hj
  · intro v' w' hown' hgr hnil
    have hsh : ∃ g' c', v' = .slice (some ⟨g', 0, none⟩) (n + m) c' := by
      rcases hown'.2 with ⟨h1, _⟩ | ⟨g', c', _, h1, _⟩
      · have := (hnil.1 h1).2
        omega
      · exact ⟨g', c', h1⟩
    obtain ⟨g', c', rfl⟩ := hsh
    refine h g' c' w' hown' ((hbl.alloc hB _).grown hgr (by simp; omega) ?_) hgr
    intro k hk
    exact ((hown.lt) k hk).1

theorem BoxIs.grown {w w' : World} {g : Nat} {T : TypeId} {cs : List Value} {row : Option Nat} (h : BoxIs w g T cs) (hg : w.grownBy w' row) (hr : ∀ k, row = some k → ∃ c T' f, w.heap[k]? = some (.cells c T' f) ∧ T' ≠ T) : BoxIs w' g T cs := by
  refine h.keep (hg.block g h.lt fun e => ?_)
  obtain ⟨c, T', f, h1, h2⟩ := hr g e.symm
  have h3 : w.heap[g]? = some (.cells cs.toArray T (0, 0)) := h
  rw [h3] at h1
  simp only [Option.some.injEq, Obj.cells.injEq] at h1
  exact h2 h1.2.1.symm

theorem own_type {w : World} {B : Nat} {e : TypeId} {size n : Nat} {v : Value} {xs : List Value} (h : w.ownsRow B e size v n xs) (T : TypeId) (hne : e ≠ T) : ∀ g, v.ownBlock = some g → ∃ c T' f, w.heap[g]? = some (.cells c T' f) ∧ T' ≠ T := by
  intro g hg
  rcases h.2 with ⟨rfl, _⟩ | ⟨g', cap, cur, rfl, _, hgg, _⟩
  · simp [Value.ownBlock] at hg
  · simp [Value.ownBlock] at hg
    subst hg
    exact ⟨_, _, _, hgg, hne⟩

theorem end_none (i : Int) (bf bl bs : Nat) (w : World) (hf : w.cell? ⟨bf, 0, none⟩ = some (.int .i64 (-1))) :
    Calls Tryd.prog 70 #[.int .i64 i, .pointer (some ⟨bf, 0, none⟩), .pointer (some ⟨bl, 0, none⟩), .pointer (some ⟨bs, 0, none⟩)] w fun e w' => e = .returned (.tuple #[]) ∧ w = w' := by
  go_enter Tryd.func70, Tryd.ntmps70
  go_wp2
  go_end0
  exact ⟨rfl, rfl⟩

/-- what pieces holds in its cells: what came in, from where a word runs (-1: none), what it has -/
structure PieceSt (B : Nat) (w0 w : World) (bs bl bf : Nat) (s : ByteArray) (from_ : Int) (n : Nat) (cells : List Value) : Prop where
  bs : BoxIs w bs 9 [.string s]
  bf : BoxIs w bf 3 [.int .i64 from_]
  row : ∃ v, BoxIs w bl 83 [v] ∧ w.ownsRow B 86 2 v n cells
  below : Below B w0 w

set_option maxHeartbeats 3200000 in
theorem end_some (i a : Nat) (s : ByteArray) (B bs bl bf n : Nat) (cells : List Value) (w0 w : World) (h : PieceSt B w0 w bs bl bf s (a : Nat) n cells) (hB1 : B ≤ bl) (hB2 : B ≤ bf) (hai : a ≤ i) (his : i ≤ s.size) (hs : s.size ≤ 1000000000) (hn : n ≤ 1000000000) :
    Calls Tryd.prog 70 #[.int .i64 (i : Nat), .pointer (some ⟨bf, 0, none⟩), .pointer (some ⟨bl, 0, none⟩), .pointer (some ⟨bs, 0, none⟩)] w fun e w' => e = .returned (.tuple #[]) ∧
      PieceSt B w0 w' bs bl bf s (-1) (n + 1) (cells ++ [.string (s.extract a i), .bool false]) ∧ Iters w w' := by
  obtain ⟨hbs, hbf, ⟨v, hbl, hown⟩, hbel⟩ := h
  obtain ⟨c0, f0⟩ := hbs.one
  obtain ⟨c1, f1⟩ := hbf.one
  obtain ⟨c2, f2⟩ := hbl.one
  go_enter Tryd.func70, Tryd.ntmps70
  go_wp2
  have hownD : w.drew.ownsRow B 86 2 v n cells := hown
  have hbelD : Below B w0 w.drew := hbel.drew
  have hBw : B ≤ w.drew.heap.size := Nat.le_of_lt (Nat.lt_of_le_of_lt hB1 hbl.lt)
  obtain ⟨c3, f3⟩ := (hbl.alloc (.cells #[.string (s.extract a i), .bool false] 86)).one
  have HBS := hid hbs
  have HBF := hid hbf
  have HBL := hid hbl
  have i1 : (a : Int) ≤ (i : Int) := by omega
  have i2 : (i : Int) ≤ (s.size : Int) := by omega
  clear hbs hbf hbl hown hbel
  go_region_law ((refine step_own elemPiece rfl _ _ rfl B n 1 1 v cells #[.string (s.extract a i), .bool false] hownD rfl rfl rfl (by simp [Value.oneCell']) (by omega) (by decide) (by unfold maxLen; omega) hbelD hBw ?_; intro g6 c6 w6 ho6 hb6 hg6; obtain ⟨e0, k0⟩ := BoxIs.one (BoxIs.grown (BoxIs.alloc (w := w.drew) HBL.out (.cells #[.string (s.extract a i), .bool false] 86)) hg6 (own_type (hownD.alloc _) _ (by decide)))))
  all_goals
    have P1 := BoxIs.grown (BoxIs.alloc (w := w.drew) HBS.out (.cells #[.string (s.extract a i), .bool false] 86)) hg6 (own_type (hownD.alloc _) _ (by decide))
    have P2 := BoxIs.grown (BoxIs.alloc (w := w.drew) HBF.out (.cells #[.string (s.extract a i), .bool false] 86)) hg6 (own_type (hownD.alloc _) _ (by decide))
    have P3 := BoxIs.grown (BoxIs.alloc (w := w.drew) HBL.out (.cells #[.string (s.extract a i), .bool false] 86)) hg6 (own_type (hownD.alloc _) _ (by decide))
    have n1 : bl ≠ bs := by
      intro e
      have := HBL.out
      rw [e] at this
      have h2 := HBS.out
      simp only [BoxIs] at this h2
      rw [h2] at this
      simp at this
    have n2 : bl ≠ bf := by
      intro e
      have := HBL.out
      rw [e] at this
      have h2 := HBF.out
      simp only [BoxIs] at this h2
      rw [h2] at this
      simp at this
    have n3 : bf ≠ bs := by
      intro e
      have := HBF.out
      rw [e] at this
      have h2 := HBS.out
      simp only [BoxIs] at this h2
      rw [h2] at this
      simp at this
    have n4 : g6 ≠ bl := by
      intro e
      obtain ⟨c, T', f, h1, h2⟩ := own_type ho6 83 (by decide) g6 rfl
      rw [e] at h1
      have h3 : w6.heap[bl]? = some _ := P3
      rw [h3] at h1
      simp only [Option.some.injEq, Obj.cells.injEq] at h1
      exact h2 h1.2.1.symm
    have n5 : g6 ≠ bf := by
      intro e
      obtain ⟨c, T', f, h1, h2⟩ := own_type ho6 3 (by decide) g6 rfl
      rw [e] at h1
      have h3 : w6.heap[bf]? = some _ := P2
      rw [h3] at h1
      simp only [Option.some.injEq, Obj.cells.injEq] at h1
      exact h2 h1.2.1.symm
    have hit : Iters w w6 := by
      intro k s' pos hk
      refine grown_iter (hg6) ?_ ?_
      · exact (Below.heap_alloc w.drew _ k (Array.getElem?_eq_some_iff.1 hk).1).trans hk
      · exact own_kind (hownD.alloc _)
    have P1' := (P1.other ⟨bl, 0, none⟩ (.slice (some ⟨g6, 0, none⟩) (n + 1) c6) (Ne.symm n1)).other ⟨bf, 0, none⟩ (.int .i64 (-1)) (Ne.symm n3)
    have P2' := (P2.other ⟨bl, 0, none⟩ (.slice (some ⟨g6, 0, none⟩) (n + 1) c6) (Ne.symm n2))
    have P2'' := P2'.set 0 (.int .i64 (-1))
    have P3' := (P3.set 0 (.slice (some ⟨g6, 0, none⟩) (n + 1) c6)).other ⟨bf, 0, none⟩ (.int .i64 (-1)) n2
    have O' := own_setOther (own_setOther ho6 ⟨bl, 0, none⟩ (.slice (some ⟨g6, 0, none⟩) (n + 1) c6) (by simp [Value.ownBlock]; exact n4)) ⟨bf, 0, none⟩ (.int .i64 (-1)) (by simp [Value.ownBlock]; exact n5)
    have D' := (hb6.setCell (p := ⟨bl, 0, none⟩) hB1 (.slice (some ⟨g6, 0, none⟩) (n + 1) c6)).setCell (p := ⟨bf, 0, none⟩) hB2 (.int .i64 (-1))
    have FIN : Hid (PieceSt B w0 ((w6.setCell ⟨bl, 0, none⟩ (.slice (some ⟨g6, 0, none⟩) (n + 1) c6)).setCell ⟨bf, 0, none⟩ (.int .i64 (-1))) bs bl bf s (-1) (n + 1) (cells ++ [.string (s.extract a i), .bool false])) :=
      ⟨P1', P2'', ⟨_, P3', O'⟩, D'⟩
    have IT : Hid (Iters w ((w6.setCell ⟨bl, 0, none⟩ (.slice (some ⟨g6, 0, none⟩) (n + 1) c6)).setCell ⟨bf, 0, none⟩ (.int .i64 (-1)))) := by
      intro k s' pos hk
      have h6 := hit k s' pos hk
      have e1 : bl ≠ k := by intro e; subst e; have h3 : w6.heap[bl]? = some _ := P3; rw [h3] at h6; cases h6
      have e2 : bf ≠ k := by intro e; subst e; have h3 : w6.heap[bf]? = some _ := P2; rw [h3] at h6; cases h6
      rw [Below.heap_setCell _ _ _ _ (Ne.symm e2), Below.heap_setCell _ _ _ _ (Ne.symm e1)]
      exact h6
    obtain ⟨m0, l0⟩ := P2'.one
    clear P1 P2 P3 n1 n2 n3 n4 n5 P1' P2'' P3' O' D' P2' hit ho6 hb6 hg6 hownD hbelD
    go_wp2
    go_end0
    exact ⟨rfl, FIN.out, IT.out⟩

end Go.Proofs.YtjjidmgeladicaaDoor

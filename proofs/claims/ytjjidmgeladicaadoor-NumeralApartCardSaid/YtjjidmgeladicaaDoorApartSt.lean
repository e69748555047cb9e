/- What lies in memory while the law similelaw02.NumeralApart goes through a text's words. Plain; no condition. -/
import Derived.OwnWalkIn
import Derived.Sort.CutIn
import Derived.Test.YtjjidmgeladicaaDoorIterB
import Derived.Test.YtjjidmgeladicaaDoorLook
import Derived.Test.YtjjidmgeladicaaDoorWordsLaw
import Derived.Test.YtjjidmgeladicaaDoorRowsEq
namespace Go.Proofs.YtjjidmgeladicaaDoor
open Go.RowKit Go.Shelf

theorem Limbs.cells {lo hi : Nat} {w w' : World} {v : Value} {xs : List Nat} (h : Limbs lo hi w v xs) (h0 : 0 < lo) (hk : CellsKept w w') : Limbs lo hi w' v xs := by
  obtain ⟨ad, cap, hv, hc, hn, hx, hne⟩ := h
  refine ⟨ad, cap, hv, hc, hn, hx, fun hp => ?_⟩
  obtain ⟨b, off, ha, hl, hh, hcell, hrow⟩ := hne hp
  obtain ⟨row, hr⟩ := hrow h0
  have hb := hk b row _ _ hr
  exact ⟨b, off, ha, hl, hh, fun i hi => (World.cell?_of_block hb).trans (hcell i hi), fun _ => ⟨row, hb.trans hr⟩⟩

theorem own_cells {w w' : World} {B : Nat} {e : TypeId} {size n : Nat} {v : Value} {xs : List Value} (h : w.ownsRow B e size v n xs) (hk : ∀ (b : Nat) (c : Array Value), B ≤ b → w.heap[b]? = some (.cells c e (0, 0)) → w'.heap[b]? = w.heap[b]?) : w'.ownsRow B e size v n xs := by
  refine ⟨h.1, ?_⟩
  rcases h.2 with ⟨rfl, h0⟩ | ⟨g, cap, cur, rfl, hb, hg, hrest⟩
  · exact .inl ⟨rfl, h0⟩
  · exact .inr ⟨g, cap, cur, rfl, hb, (hk g cur hb hg).trans hg, hrest⟩

theorem OutRow.cells {B : Nat} {w w' : World} {v : Value} {out : List (Bool × List Nat × Bool × List Nat)} (h : OutRow B w v out) (h0 : 0 < B) (hk : CellsKept w w') (hs : w.heap.size ≤ w'.heap.size) : OutRow B w' v out := by
  obtain ⟨cs, h1, h2, h3, h4⟩ := h
  refine ⟨cs, own_cells h1 (fun b c _ hb => hk b c _ _ hb), h2, h3, fun i x c hx hc => ?_⟩
  obtain ⟨q, p, rfl, hq, hp⟩ := h4 i x c hx hc
  exact ⟨q, p, rfl, (hq.cells h0 hk).wide (Nat.le_refl _) hs, (hp.cells h0 hk).wide (Nat.le_refl _) hs⟩

theorem OutRow.grownT {B : Nat} {w w' : World} {v : Value} {out : List (Bool × List Nat × Bool × List Nat)} {row : Option Nat} (h : OutRow B w v out) (h0 : 0 < B) (hg : w.grownBy w' row)
    (hr : ∀ g, row = some g → ∃ c T f, w.heap[g]? = some (.cells c T f) ∧ T ≠ 96 ∧ T ≠ 42) : OutRow B w' v out := by
  obtain ⟨cs, h1, h2, h3, h4⟩ := h
  refine ⟨cs, own_cells h1 (fun b c _ hb => hg.block b (Array.getElem?_eq_some_iff.1 hb).1 (fun e => ?_)), h2, h3, fun i x c hx hc => ?_⟩
  · obtain ⟨c', T, f, h5, _, h7⟩ := hr b e.symm
    rw [hb] at h5
    simp only [Option.some.injEq, Obj.cells.injEq] at h5
    exact h7 h5.2.1.symm
  · obtain ⟨q, p, rfl, hq, hp⟩ := h4 i x c hx hc
    have hr2 : ∀ g, row = some g → ∃ c T f, w.heap[g]? = some (.cells c T f) ∧ T ≠ 96 := fun g e => by
      obtain ⟨c', T, f, h5, h6, _⟩ := hr g e
      exact ⟨c', T, f, h5, h6⟩
    exact ⟨q, p, rfl, (hq.grown h0 hg hr2).wide (Nat.le_refl _) hg.size, (hp.grown h0 hg hr2).wide (Nat.le_refl _) hg.size⟩

/-- append of what lies in the block made last, inside a fence -/
theorem wpl_append1_in {F : Fence} {nn : Nat} {P : Program} {w w0 : World} {ops : Array Oper} {rest : List Oper} {o : Oper} {a : Act} {Q : Exit → Act → World → Prop} {t e : TypeId} {z : Value} {size bytes : Nat}
    (E : Elem P t e z size bytes) (hg : o.guard = none) (s x : Operand) (ho : o.op = .call { callee := .builtin .append, args := #[s, x], argTypes := #[t, t] })
    (B n m c : Nat) (v : Value) (xs : List Value) (arr : Array Value) (hown : w.ownsRow B e size v n xs) (hs : a.eval s = v) (hx : a.eval x = .slice (some ⟨w.heap.size, 0, none⟩) m c)
    (hl : arr.size = m * size) (h1 : ∀ u, u ∈ arr.toList → u.oneCell' = true)
    (hb : (n + m) * bytes ≤ 140737488355328) (hm : 0 < m) (h63 : n + m ≤ maxLen) (hbl : Below B w0 w) (hB : B ≤ w.heap.size)
    (h : ∀ g' c' w', w'.ownsRow B e size (.slice (some ⟨g', 0, none⟩) (n + m) c') (n + m) (xs ++ arr.toList) → Below B w0 w' → (w.alloc (.cells arr e)).grownBy w' v.ownBlock →
      wpListIn F nn P ops Q rest (a.put o.dst (.slice (some ⟨g', 0, none⟩) (n + m) c')) w') :
    wpListIn F nn P ops Q (o :: rest) a (w.alloc (.cells arr e)) := by
  obtain ⟨i, hi, hz, hsz, hby⟩ := info_parts E.row
  refine wpListIn_append_own _ hg s x t ho B e i z size bytes E.sl hi hz hsz hby E.zs E.pos v n xs hs (hown.alloc _) ⟨w.heap.size, 0, none⟩ m c arr.toList hx (by simpa using hl) ?_ h1 h63 hb
    (by simp; omega) ?_
  · intro j u hj
    rw [Addr.add_lit]
    have := cell_of_row (w.alloc (.cells arr e)) w.heap.size (0 + j) arr e (0, 0) (heap_alloc_new w _)
    rw [this]
    simpa using hj
  · intro v' w' hown' hgr hnil
    have hsh : ∃ g' c', v' = .slice (some ⟨g', 0, none⟩) (n + m) c' := by
      rcases hown'.2 with ⟨h1, _⟩ | ⟨g', c', _, h1, _⟩
      · have := (hnil.1 h1).2
        omega
      · exact ⟨g', c', h1⟩
    obtain ⟨g', c', rfl⟩ := hsh
    refine h g' c' w' hown' ((hbl.alloc hB _).grown hgr (by simp; omega) ?_) hgr
    intro k hk
    exact ((hown.lt) k hk).1

theorem grownBy_setAt (w : World) (b i : Nat) (v : Value) : w.grownBy (w.setCell ⟨b, i, none⟩ v) (some b) :=
  ⟨rfl, rfl, rfl, by simp [World.setCell], fun _ _ hne => Below.heap_setCell _ _ _ _ (fun e => hne (by rw [e]))⟩

/-- what lies in memory between two words -/
structure ApSt (s : ByteArray) (B bs br bk bp bw bl bW : Nat) (g f : Bool) (last : Nat) (out : List (Bool × List Nat × Bool × List Nat)) (W : World) : Prop where
  hs : BoxIs W bs 9 [.string s]
  hr : BoxIs W br 4 [.bool false]
  hk : BoxIs W bk 34 [.bool g, .bool f]
  hp : BoxIs W bp 32 [.pointer (some ⟨bk, 0, none⟩)]
  hl : BoxIs W bl 3 [.int .i64 (last : Nat)]
  hW : BoxIs W bW 9 [.string s]
  hw : ∃ v, BoxIs W bw 35 [v] ∧ OutRow B W v out
  hB : 0 < B

variable {s : ByteArray} {B bs br bk bp bw bl bW : Nat} {g f : Bool} {last : Nat} {out : List (Bool × List Nat × Bool × List Nat)} {W W' : World}

theorem BoxIs.cells {w w' : World} {g : Nat} {T : TypeId} {cs : List Value} (h : BoxIs w g T cs) (hk : CellsKept w w') : BoxIs w' g T cs := h.keep (hk g _ _ _ h)

theorem ApSt.cells (h : ApSt s B bs br bk bp bw bl bW g f last out W) (hk : CellsKept W W') (hs : W.heap.size ≤ W'.heap.size) : ApSt s B bs br bk bp bw bl bW g f last out W' := by
  obtain ⟨h1, h2, h3, h4, h5, h6, ⟨v, h7, h8⟩, h9⟩ := h
  exact ⟨h1.cells hk, h2.cells hk, h3.cells hk, h4.cells hk, h5.cells hk, h6.cells hk, ⟨v, h7.cells hk, h8.cells h9 hk hs⟩, h9⟩

theorem cells_below (hb : Below W.heap.size W W') : CellsKept W W' := fun b _ _ _ h => hb.block b (Array.getElem?_eq_some_iff.1 h).1
theorem others_below (hb : Below W.heap.size W W') : KeepsOthers W W' := ⟨hb.size, fun k _ hk _ => (hb.block k (Array.getElem?_eq_some_iff.1 hk).1).trans hk⟩

theorem ApSt.later (h : ApSt s B bs br bk bp bw bl bW g f last out W) (hb : Below W.heap.size W W') : ApSt s B bs br bk bp bw bl bW g f last out W' := h.cells (cells_below hb) hb.size

/-- one box turned, of a type that no number and no fraction lies in -/
theorem ApSt.turn_k (h : ApSt s B bs br bk bp bw bl bW g f last out W) {g' f' : Bool} (hg : W.grownBy W' (some bk)) (hb : BoxIs W' bk 34 [.bool g', .bool f']) : ApSt s B bs br bk bp bw bl bW g' f' last out W' := by
  obtain ⟨h1, h2, h3, h4, h5, h6, ⟨v, h7, h8⟩, h9⟩ := h
  have hr : ∀ (T : TypeId), 34 ≠ T → ∀ k, some bk = some k → ∃ c T' f, W.heap[k]? = some (.cells c T' f) ∧ T' ≠ T := fun T hT k e => by
    cases e; exact ⟨_, _, _, h3, hT⟩
  refine ⟨h1.grown hg (hr _ (by decide)), h2.grown hg (hr _ (by decide)), hb, h4.grown hg (hr _ (by decide)), h5.grown hg (hr _ (by decide)), h6.grown hg (hr _ (by decide)), ⟨v, h7.grown hg (hr _ (by decide)), h8.grownT h9 hg (fun k e => ?_)⟩, h9⟩
  cases e; exact ⟨_, _, _, h3, by decide, by decide⟩

theorem ApSt.turn_l (h : ApSt s B bs br bk bp bw bl bW g f last out W) (last' : Nat) (u : Value) (hu : u = .int .i64 (last' : Nat)) : ApSt s B bs br bk bp bw bl bW g f last' out (W.setCell ⟨bl, 0, none⟩ u) := by
  obtain ⟨h1, h2, h3, h4, h5, h6, ⟨v, h7, h8⟩, h9⟩ := h
  have hg := grownBy_setCell' W bl u
  have hr : ∀ (T : TypeId), 3 ≠ T → ∀ k, some bl = some k → ∃ c T' f, W.heap[k]? = some (.cells c T' f) ∧ T' ≠ T := fun T hT k e => by
    cases e; exact ⟨_, _, _, h5, hT⟩
  refine ⟨h1.grown hg (hr _ (by decide)), h2.grown hg (hr _ (by decide)), h3.grown hg (hr _ (by decide)), h4.grown hg (hr _ (by decide)), ?_, h6.grown hg (hr _ (by decide)), ⟨v, h7.grown hg (hr _ (by decide)), h8.grownT h9 hg (fun k e => ?_)⟩, h9⟩
  · subst hu; exact h5.set 0 _
  · cases e; exact ⟨_, _, _, h5, by decide, by decide⟩

/-- the row grown by one -/
theorem ApSt.turn_w (h : ApSt s B bs br bk bp bw bl bW g f last out W) {v v' : Value} {x : Bool × List Nat × Bool × List Nat} (hv : BoxIs W bw 35 [v]) (hg : W.grownBy W' v.ownBlock) (ho : ∀ k, v.ownBlock = some k → ∃ c T' f, W.heap[k]? = some (.cells c T' f) ∧ T' = 42)
    (hr : OutRow B W' v' (out ++ [x])) : ApSt s B bs br bk bp bw bl bW g f last (out ++ [x]) (W'.setCell ⟨bw, 0, none⟩ v') := by
  obtain ⟨h1, h2, h3, h4, h5, h6, ⟨v0, h7, h8⟩, h9⟩ := h
  have hrr : ∀ (T : TypeId), 42 ≠ T → ∀ k, v.ownBlock = some k → ∃ c T' f, W.heap[k]? = some (.cells c T' f) ∧ T' ≠ T := fun T hT k e => by
    obtain ⟨c, T', f, h, rfl⟩ := ho k e
    exact ⟨c, _, f, h, hT⟩
  have k1 := h1.grown hg (hrr _ (by decide))
  have k2 := h2.grown hg (hrr _ (by decide))
  have k3 := h3.grown hg (hrr _ (by decide))
  have k4 := h4.grown hg (hrr _ (by decide))
  have k5 := h5.grown hg (hrr _ (by decide))
  have k6 := h6.grown hg (hrr _ (by decide))
  have k7 := hv.grown hg (hrr _ (by decide))
  have hg2 := grownBy_setCell' W' bw v'
  have hr2 : ∀ (T : TypeId), 35 ≠ T → ∀ k, some bw = some k → ∃ c T' f, W'.heap[k]? = some (.cells c T' f) ∧ T' ≠ T := fun T hT k e => by
    cases e; exact ⟨_, _, _, k7, hT⟩
  refine ⟨k1.grown hg2 (hr2 _ (by decide)), k2.grown hg2 (hr2 _ (by decide)), k3.grown hg2 (hr2 _ (by decide)), k4.grown hg2 (hr2 _ (by decide)), k5.grown hg2 (hr2 _ (by decide)), k6.grown hg2 (hr2 _ (by decide)), ⟨v', k7.set 0 _, hr.grownT h9 hg2 (fun k e => ?_)⟩, h9⟩
  cases e; exact ⟨_, _, _, k7, by decide, by decide⟩

theorem ApSt.own (n : Nat) : OwnFrom n (fun (pre : List (Nat × ByteArray)) W => ApSt s B bs br bk bp bw bl bW (goodW s pre) pre.isEmpty (lastOf pre) (numsW pre) W) :=
  ownFrom_cells fun _ _ _ h hk hs => h.cells hk hs

theorem ApSt.lt (h : ApSt s B bs br bk bp bw bl bW g f last out W) : bs < W.heap.size ∧ br < W.heap.size ∧ bk < W.heap.size ∧ bp < W.heap.size ∧ bw < W.heap.size ∧ bl < W.heap.size ∧ bW < W.heap.size := by
  obtain ⟨h1, h2, h3, h4, h5, h6, ⟨v, h7, h8⟩, h9⟩ := h
  exact ⟨h1.lt, h2.lt, h3.lt, h4.lt, h7.lt, h5.lt, h6.lt⟩
theorem below7 (w : World) (o1 o2 o3 o4 o5 o6 o7 : Obj) : Below w.heap.size w (((((((w.alloc o1).alloc o2).alloc o3).alloc o4).alloc o5).alloc o6).alloc o7) :=
  ((((((((Below.refl _ _).alloc (Nat.le_refl _) _).alloc (by simp) _).alloc (by simp; omega) _).alloc (by simp; omega) _).alloc (by simp; omega) _).alloc (by simp; omega) _).alloc (by simp; omega) _)

theorem apst_new (s : ByteArray) (w : World) (h0 : 0 < w.heap.size) : ApSt s w.heap.size w.heap.size (w.heap.size + 1) (w.heap.size + 1 + 1) (w.heap.size + 1 + 1 + 1) (w.heap.size + 1 + 1 + 1 + 1) (w.heap.size + 1 + 1 + 1 + 1 + 1) (w.heap.size + 1 + 1 + 1 + 1 + 1 + 1) (goodW s []) true (lastOf []) (numsW [])
    (((((((w.alloc (.cells #[.string s] 9)).alloc (.cells #[.bool false] 4)).alloc (.cells #[.bool true, .bool true] 34)).alloc (.cells #[.pointer (some ⟨w.heap.size + 1 + 1, 0, none⟩)] 32)).alloc (.cells #[.slice none 0 0] 35)).alloc (.cells #[.int .i64 0] 3)).alloc (.cells #[.string s] 9)) := by
  have e1 := BoxIs.new w #[.string s] 9
  have e2 := BoxIs.new (w.alloc (.cells #[.string s] 9)) #[.bool false] 4
  have e3 := BoxIs.new ((w.alloc (.cells #[.string s] 9)).alloc (.cells #[.bool false] 4)) #[.bool true, .bool true] 34
  have e4 := BoxIs.new (((w.alloc (.cells #[.string s] 9)).alloc (.cells #[.bool false] 4)).alloc (.cells #[.bool true, .bool true] 34)) #[.pointer (some ⟨w.heap.size + 1 + 1, 0, none⟩)] 32
  have e5 := BoxIs.new ((((w.alloc (.cells #[.string s] 9)).alloc (.cells #[.bool false] 4)).alloc (.cells #[.bool true, .bool true] 34)).alloc (.cells #[.pointer (some ⟨w.heap.size + 1 + 1, 0, none⟩)] 32)) #[.slice none 0 0] 35
  have e6 := BoxIs.new (((((w.alloc (.cells #[.string s] 9)).alloc (.cells #[.bool false] 4)).alloc (.cells #[.bool true, .bool true] 34)).alloc (.cells #[.pointer (some ⟨w.heap.size + 1 + 1, 0, none⟩)] 32)).alloc (.cells #[.slice none 0 0] 35)) #[.int .i64 0] 3
  have e7 := BoxIs.new ((((((w.alloc (.cells #[.string s] 9)).alloc (.cells #[.bool false] 4)).alloc (.cells #[.bool true, .bool true] 34)).alloc (.cells #[.pointer (some ⟨w.heap.size + 1 + 1, 0, none⟩)] 32)).alloc (.cells #[.slice none 0 0] 35)).alloc (.cells #[.int .i64 0] 3)) #[.string s] 9
  simp only [World.size_alloc] at e2 e3 e4 e5 e6 e7
  exact ⟨(((((e1.alloc _).alloc _).alloc _).alloc _).alloc _).alloc _, ((((e2.alloc _).alloc _).alloc _).alloc _).alloc _, (((e3.alloc _).alloc _).alloc _).alloc _, ((e4.alloc _).alloc _).alloc _, e6.alloc _, e7, ⟨_, (e5.alloc _).alloc _, OutRow.nil⟩, h0⟩

theorem ApSt.drew (h : ApSt s B bs br bk bp bw bl bW g f last out W) : ApSt s B bs br bk bp bw bl bW g f last out W.drew := h.cells (fun _ _ _ _ _ => rfl) (Nat.le_refl _)
theorem apst_others (h : ApSt s B bs br bk bp bw bl bW g f last out W) (hg : W.drew.grownBy W' (some bk)) : KeepsOthers W W' :=
  (KeepsOthers.drew W).trans (KeepsOthers.of_grownBy hg (fun j o e ho => by
    cases e
    have h3 : W.drew.heap[bk]? = some (.cells _ _ _) := h.hk
    rw [h3] at ho; cases ho; rfl))

theorem apst_below (h : ApSt s B bs br bk bp bw bl bW g f last out W) {n : Nat} (hn : n ≤ bk) (hg : W.drew.grownBy W' (some bk)) : Below n W W' :=
  ((Below.refl n W).drew).grown hg (by have := h.hk.lt; show n ≤ W.heap.size; omega) (fun k e => by cases e; exact hn)
end Go.Proofs.YtjjidmgeladicaaDoor

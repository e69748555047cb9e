/- What a call owns of rows of fractions; the printers' contracts in one form. -/
import Derived.Test.YtjjidmgeladicaaCopyAll
import Derived.Test.YtjjidmgeladicaaPrintMat
namespace Go.Proofs.Ytjjidmgeladicaa
open Go.RowKit

theorem OutRow.base {B B' : Nat} {w : World} {v : Value} {out : List (Bool × List Nat × Bool × List Nat)} (h : OutRow B w v out) (hB : B' ≤ B) : OutRow B' w v out := by
  obtain ⟨cs, h1, h2, h3, h4⟩ := h
  exact ⟨cs, own_base h1 hB, h2, h3, fun i x c hx hc => (h4 i x c hx hc).wide hB (Nat.le_refl _)⟩

/-- fractions stand while blocks of another type turn -/
theorem OutRow.grown {B : Nat} {w w' : World} {v : Value} {out : List (Bool × List Nat × Bool × List Nat)} {row : Option Nat} (h : OutRow B w v out) (h0 : 0 < B) (hg : w.grownBy w' row)
    (hr : ∀ g, row = some g → ∃ c T f, w.heap[g]? = some (.cells c T f) ∧ T ≠ 86 ∧ T ≠ 35) : OutRow B w' v out := by
  obtain ⟨cs, h1, h2, h3, h4⟩ := h
  refine ⟨cs, h1.kept hg ?_, h2, h3, fun i x c hx hc => ?_⟩
  · by_cases hv : v.ownBlock = none
    · exact .inl hv
    · right
      intro e
      obtain ⟨g, hgg⟩ := Option.ne_none_iff_exists'.1 hv
      obtain ⟨c, T, f, h5, _, h6⟩ := hr g (e ▸ hgg)
      rcases h1.2 with ⟨rfl, _⟩ | ⟨g', cap, cur, rfl, _, h7, _⟩
      · simp [Value.ownBlock] at hgg
      · simp [Value.ownBlock] at hgg
        subst hgg
        rw [h5] at h7
        simp at h7
        exact h6 h7.2.1
  · obtain ⟨q, p, rfl, hq, hp⟩ := h4 i x c hx hc
    have hl : ∀ {u : Value} {xs : List Nat}, Limbs B w.heap.size w u xs → Limbs B w'.heap.size w' u xs := fun h =>
      (Limbs.grown h h0 hg (fun g e => by obtain ⟨c, T, f, h5, h6, _⟩ := hr g e; exact ⟨c, T, f, h5, h6⟩)).wide (Nat.le_refl _) hg.size
    exact ⟨q, p, rfl, hl hq, hl hp⟩

/-- rows of fractions that the call itself owns -/
def OutRows (B : Nat) (w : World) (v : Value) (rows : List (List (Bool × List Nat × Bool × List Nat))) : Prop :=
  ∃ rs : List Value, w.ownsRow B 51 1 v rows.length rs ∧ rs.length = rows.length ∧ (∀ u, u ∈ rs → u.oneCell' = true) ∧
    ∀ (i : Nat) (x : List (Bool × List Nat × Bool × List Nat)) (r : Value), rows[i]? = some x → rs[i]? = some r → OutRow B w r x

theorem OutRows.nil {B : Nat} {w : World} : OutRows B w (.slice none 0 0) [] := ⟨[], World.ownsRow_nil _ _ _ _, rfl, by simp, by simp⟩

theorem OutRows.later {B : Nat} {w w' : World} {v : Value} {rows : List (List (Bool × List Nat × Bool × List Nat))} (h : OutRows B w v rows) (hb : Below w.heap.size w w') : OutRows B w' v rows := by
  obtain ⟨rs, h1, h2, h3, h4⟩ := h
  exact ⟨rs, own_keep h1 hb, h2, h3, fun i x r hx hr => (h4 i x r hx hr).later hb⟩

theorem OutRows.shape {B : Nat} {w : World} {v : Value} {rows : List (List (Bool × List Nat × Bool × List Nat))} (h : OutRows B w v rows) : ∃ ad cap, v = .slice ad rows.length cap := by
  obtain ⟨rs, h1, _⟩ := h
  exact own_shape h1

theorem OutRows.rows {B : Nat} {w : World} {v : Value} {m : List (List (Bool × List Nat × Bool × List Nat))} (h : OutRows B w v m) : FracRows B w.heap.size w v m := by
  obtain ⟨rs, h1, h2, h3, h4⟩ := h
  clear h3
  have h1' : w.ownsRow B 51 1 v m.length (rs.map fun r => [r]).flatten := by
    have : (rs.map fun r => [r]).flatten = rs := by
      clear h1 h2 h4
      induction rs with
      | nil => rfl
      | cons x r ih => simp [ih]
    rw [this]; exact h1
  refine RowOf.ofOwn (by decide) h1' (by simpa using h2) (by intro x hx; obtain ⟨y, _, rfl⟩ := List.mem_map.1 hx; rfl) ?_
  intro i x c hx hc
  rw [List.getElem?_map] at hc
  obtain ⟨r, hr, rfl⟩ := Option.map_eq_some_iff.1 hc
  exact ⟨r, rfl, (h4 i x r hx hr).fracs⟩

theorem elemRow : Elem Try.prog 55 51 (.slice none 0 0) 1 24 :=
  ⟨Try.underlying55, by kernel_rfl, rfl, by decide⟩

theorem OutRows.snoc {B : Nat} {w w6 : World} {v v' r : Value} {rs : List Value} {rows : List (List (Bool × List Nat × Bool × List Nat))} {x : List (Bool × List Nat × Bool × List Nat)} (h0 : 0 < B)
    (h1 : w.ownsRow B 51 1 v rows.length rs) (h2 : rs.length = rows.length) (h3 : ∀ u, u ∈ rs → u.oneCell' = true)
    (h4 : ∀ (i : Nat) (x : List (Bool × List Nat × Bool × List Nat)) (r : Value), rows[i]? = some x → rs[i]? = some r → OutRow B w r x) (hr : OutRow B w r x)
    (ho : w6.ownsRow B 51 1 v' (rows.length + 1) (rs ++ [r])) (hg : (w.alloc (.cells #[r] 51)).grownBy w6 v.ownBlock) : OutRows B w6 v' (rows ++ [x]) ∧ OutRow B w6 r x := by
  have hal : Below w.heap.size w (w.alloc (.cells #[r] 51)) := (Below.refl _ _).alloc (Nat.le_refl _) _
  have hk : ∀ {u : Value} {y : List (Bool × List Nat × Bool × List Nat)}, OutRow B w u y → OutRow B w6 u y := fun h => by
    refine OutRow.grown (h.later hal) h0 hg fun g hgv => ?_
    have h5 := h1.alloc (.cells #[r] 51)
    rcases h5.2 with ⟨rfl, _⟩ | ⟨g', cap, cur, rfl, _, h7, _⟩
    · simp [Value.ownBlock] at hgv
    · simp [Value.ownBlock] at hgv
      subst hgv
      exact ⟨_, _, _, h7, by decide, by decide⟩
  refine ⟨⟨rs ++ [r], by simpa using ho, by simp [h2], ?_, ?_⟩, hk hr⟩
  · intro u hu
    rcases List.mem_append.1 hu with h | h
    · exact h3 u h
    · simp only [List.mem_singleton] at h
      obtain ⟨ad, cap, rfl⟩ := hr.shape
      rw [h]; rfl
  · intro i y u hy hu
    rcases Nat.lt_or_ge i rows.length with hi | hi
    · rw [List.getElem?_append_left hi] at hy
      rw [List.getElem?_append_left (by omega)] at hu
      exact hk (h4 i y u hy hu)
    · rw [List.getElem?_append_right hi] at hy
      rw [List.getElem?_append_right (by omega), h2] at hu
      obtain ⟨j, hj⟩ : ∃ j, i - rows.length = j := ⟨_, rfl⟩
      rw [hj] at hy hu
      cases j with
      | zero =>
        simp only [List.getElem?_cons_zero, Option.some.injEq] at hy hu
        subst hy hu
        exact hk hr
      | succ j => simp at hy

/-! ### the printers, each in one form -/

def okX (x : Bool × List Nat × Bool × List Nat) : Bool := natOf x.2.2.2 != 0
def okL (l : List (Bool × List Nat × Bool × List Nat)) : Bool := l.all okX
def okM (m : List (List (Bool × List Nat × Bool × List Nat))) : Bool := m.all okL

def fracT (x : Bool × List Nat × Bool × List Nat) : ByteArray := if okX x then strOf (fracB x) else ⟨#[]⟩
def rowT (l : List (Bool × List Nat × Bool × List Nat)) : ByteArray := if okL l then strOf (rowB l) else ⟨#[]⟩
def matT (m : List (List (Bool × List Nat × Bool × List Nat))) : ByteArray := if okM m then strOf (matB m) else ⟨#[]⟩
def codeE (b : Bool) : Nat := if b then 0 else 6

theorem printFrac_one (lo h1 lo2 h2 : Nat) (n1 n2 : Bool) (v p : Value) (xs ys : List Nat) (w : World) (h : Limbs lo h1 w v xs) (hhi : h1 ≤ w.heap.size) (hl : xs.length ≤ 1099511627776)
    (h' : Limbs lo2 h2 w p ys) (hhi2 : h2 ≤ w.heap.size) (hl2 : ys.length ≤ 1099511627776) :
    Calls Try.prog 30 #[.agg #[.bool n1, v, .bool n2, p]] w fun e w' => e = .returned (.tuple #[.string (fracT (n1, xs, n2, ys)), .int .i64 (codeE (okX (n1, xs, n2, ys)) : Nat)]) ∧ Below w.heap.size w w' := by
  refine (printFrac_any lo h1 lo2 h2 n1 n2 v p xs ys w h hhi hl h' hhi2 hl2).mono ?_
  rintro e w' ⟨hb, ⟨hz, rfl⟩ | ⟨hz, rfl⟩⟩
  · have : okX (n1, xs, n2, ys) = false := by simp [okX, hz]
    exact ⟨by simp [fracT, codeE, this], hb⟩
  · have : okX (n1, xs, n2, ys) = true := by simp [okX, hz]
    exact ⟨by simp [fracT, codeE, this, fracB], hb⟩

theorem printFrac02_one (lo h1 lo2 h2 : Nat) (n1 n2 : Bool) (v p : Value) (xs ys : List Nat) (w : World) (h : Limbs lo h1 w v xs) (hhi : h1 ≤ w.heap.size) (hl : xs.length ≤ 1099511627776)
    (h' : Limbs lo2 h2 w p ys) (hhi2 : h2 ≤ w.heap.size) (hl2 : ys.length ≤ 1099511627776) :
    Calls Try.prog 31 #[.agg #[.bool n1, v, .bool n2, p]] w fun e w' => e = .returned (.tuple #[.string (fracT (n1, xs, n2, ys)), .bool (okX (n1, xs, n2, ys))]) ∧ Below w.heap.size w w' := by
  refine (printFrac02_any lo h1 lo2 h2 n1 n2 v p xs ys w h hhi hl h' hhi2 hl2).mono ?_
  rintro e w' ⟨hb, ⟨hz, rfl⟩ | ⟨hz, rfl⟩⟩
  · have : okX (n1, xs, n2, ys) = false := by simp [okX, hz]
    exact ⟨by simp [fracT, this], hb⟩
  · have : okX (n1, xs, n2, ys) = true := by simp [okX, hz]
    exact ⟨by simp [fracT, this, fracB], hb⟩

theorem okL_true {l : List (Bool × List Nat × Bool × List Nat)} (h : ∀ x, x ∈ l → natOf x.2.2.2 ≠ 0) : okL l = true := by
  unfold okL
  rw [List.all_eq_true]
  intro x hx
  simp [okX, h x hx]

theorem okL_false {l : List (Bool × List Nat × Bool × List Nat)} (h : ∃ x, x ∈ l ∧ natOf x.2.2.2 = 0) : okL l = false := by
  obtain ⟨x, hx, h0⟩ := h
  unfold okL
  rw [List.all_eq_false]
  exact ⟨x, hx, by simp [okX, h0]⟩

theorem okM_eq {m : List (List (Bool × List Nat × Bool × List Nat))} : okM m = true ↔ AllMay m := by
  unfold okM AllMay
  rw [List.all_eq_true]
  constructor
  · intro h l hl x hx
    have := h l hl
    unfold okL at this
    rw [List.all_eq_true] at this
    have := this x hx
    simpa [okX] using this
  · intro h l hl
    exact okL_true (h l hl)

theorem printRow_one (lo h1 : Nat) (v : Value) (l : List (Bool × List Nat × Bool × List Nat)) (w : World) (h : Fracs lo h1 w v l) (hhi : h1 ≤ w.heap.size) (hbk : bulkF l ≤ 1073741824) :
    Calls Try.prog 28 #[v] w fun e w' => e = .returned (.tuple #[.string (rowT l), .int .i64 (codeE (okL l) : Nat)]) ∧ Below w.heap.size w w' := by
  refine (printRow_any lo h1 v l w h hhi hbk).mono ?_
  rintro e w' ⟨hb, ⟨hz, rfl⟩ | ⟨hz, rfl⟩⟩
  · exact ⟨by simp [rowT, codeE, okL_false hz], hb⟩
  · exact ⟨by simp [rowT, codeE, okL_true hz], hb⟩

theorem printRow02_one (lo h1 : Nat) (v : Value) (l : List (Bool × List Nat × Bool × List Nat)) (w : World) (h : Fracs lo h1 w v l) (hhi : h1 ≤ w.heap.size) (hbk : bulkF l ≤ 1073741824) :
    Calls Try.prog 29 #[v] w fun e w' => e = .returned (.tuple #[.string (rowT l), .bool (okL l)]) ∧ Below w.heap.size w w' := by
  refine (printRow02_any lo h1 v l w h hhi hbk).mono ?_
  rintro e w' ⟨hb, ⟨hz, rfl⟩ | ⟨hz, rfl⟩⟩
  · exact ⟨by simp [rowT, okL_false hz], hb⟩
  · exact ⟨by simp [rowT, okL_true hz], hb⟩

theorem printMatrix_one (lo h1 : Nat) (v : Value) (m : List (List (Bool × List Nat × Bool × List Nat))) (w : World) (h : FracRows lo h1 w v m) (hhi : h1 ≤ w.heap.size) (hbk : bulkM m ≤ 1073741824) :
    Calls Try.prog 32 #[v] w fun e w' => e = .returned (.tuple #[.string (matT m), .int .i64 (codeE (okM m) : Nat)]) ∧ Below w.heap.size w w' := by
  refine (printMatrix_any lo h1 v m w h hhi hbk).mono ?_
  rintro e w' ⟨hb, ⟨hz, rfl⟩ | ⟨hz, rfl⟩⟩
  · have : okM m = false := by rw [← okM_eq] at hz; simpa using hz
    exact ⟨by simp [matT, codeE, this], hb⟩
  · exact ⟨by simp [matT, codeE, okM_eq.2 hz], hb⟩

theorem printMatrix02_one (lo h1 : Nat) (v : Value) (m : List (List (Bool × List Nat × Bool × List Nat))) (w : World) (h : FracRows lo h1 w v m) (hhi : h1 ≤ w.heap.size) (hbk : bulkM m ≤ 1073741824) :
    Calls Try.prog 33 #[v] w fun e w' => e = .returned (.tuple #[.string (matT m), .bool (okM m)]) ∧ Below w.heap.size w w' := by
  refine (printMatrix02_any lo h1 v m w h hhi hbk).mono ?_
  rintro e w' ⟨hb, ⟨hz, rfl⟩ | ⟨hz, rfl⟩⟩
  · have : okM m = false := by rw [← okM_eq] at hz; simpa using hz
    exact ⟨by simp [matT, this], hb⟩
  · exact ⟨by simp [matT, okM_eq.2 hz], hb⟩
end Go.Proofs.Ytjjidmgeladicaa

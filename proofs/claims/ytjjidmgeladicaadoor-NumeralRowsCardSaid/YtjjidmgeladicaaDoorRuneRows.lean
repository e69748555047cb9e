/- Rows of runes that a call itself owns; simileref02.words. -/
import Derived.Test.YtjjidmgeladicaaDoorRowRef
namespace Go.Proofs.YtjjidmgeladicaaDoor
open Go.RowKit

theorem elemRuneRow : Elem Tryd.prog 93 88 (.slice none 0 0) 1 24 :=
  ⟨Tryd.underlying93, by kernel_rfl, rfl, by decide⟩

theorem own_none0 (w : World) (B : Nat) (T : TypeId) (hB : B ≤ w.heap.size) : (w.alloc (.cells #[] T)).ownsRow B T 1 (.slice (some ⟨w.heap.size, 0, none⟩) 0 0) 0 [] :=
  World.ownsRow_made w #[] 0 hB (Nat.zero_le _) rfl

/-- append of a slice of integers, whatever it is, to what the call owns -/
theorem wpl_append_nums {P : Program} {w w0 : World} {ops : Array Oper} {rest : List Oper} {o : Oper} {a : Act} {Q : Exit → Act → World → Prop} {t e : TypeId} {k : IntKind}
    (E : Elem P t e (.int k 0) 1 4) (hg : o.guard = none) (s x : Operand) (ho : o.op = .call { callee := .builtin .append, args := #[s, x], argTypes := #[t, t] })
    (B n : Nat) (v v2 : Value) (cells : List Value) (ys : List Nat) (lo hi : Nat) (hown : w.ownsRow B e 1 v n cells) (hL : Nums k lo hi w v2 ys) (hs : a.eval s = v) (hx : a.eval x = v2)
    (hb : n + ys.length ≤ 35184372088832) (hbl : Below B w0 w) (hB : B ≤ w.heap.size)
    (h : ∀ v' w', w'.ownsRow B e 1 v' (n + ys.length) (cells ++ numsC k ys) → Below B w0 w' → w.grownBy w' v.ownBlock → wpList P ops Q rest (a.put o.dst v') w') :
    wpList P ops Q (o :: rest) a w := by
  obtain ⟨i, hi', hz, hsz, hby⟩ := info_parts E.row
  obtain ⟨ad, cap, rfl, hc, hn, hcell⟩ := hL
  have hBk : ∀ k, v.ownBlock = some k → B ≤ k := fun k hk => (hown.lt k hk).1
  cases ad with
  | none =>
    have hc0 := hn rfl
    have hl0 : ys = [] := List.eq_nil_of_length_eq_zero (by omega)
    subst hl0
    subst hc0
    refine wpList_plain hg fun K hK => ?_
    have hr := run_append_owned_none (P := P) w B t o.type e i 1 E.sl hi' v n cells hown
    have hx' : a.eval x = .slice none 0 0 := by simpa using hx
    unfold Oper.wp
    simp [execOp, ho, resolve, invoke, builtin, hs, hx', hr, Result.andThen]
    exact hK _ _ (h v w (by simpa [numsC] using hown) hbl (World.grownBy.refl _ _))
  | some ad =>
    refine wpList_append_own _ hg s x t ho B e i _ 1 4 E.sl hi' hz hsz hby E.zs E.pos v n cells hs hown ad ys.length cap (numsC k ys) hx (by simp [numsC]) ?_ (numsC_one k _) (by unfold maxLen; omega) (by omega) hB ?_
    · intro j u hj
      have hjl : j < ys.length := by
        have := (List.getElem?_eq_some_iff.1 hj).1
        simpa [numsC] using this
      obtain ⟨b, off, ha, _, _, hcc⟩ := hcell (by intro e; subst e; simp at hjl)
      simp only [Option.some.injEq] at ha
      subst ha
      rw [Addr.add_lit, hcc j hjl, ← hj]
      simp [numsC, List.getD_eq_getElem?_getD, hjl]
    · intro v' w' h1 h2 h3
      exact h v' w' h1 (hbl.grown h2 hB hBk) h2

/-- runes that are laid down: the call's own, in a block below hi -/
def FinR (lo hi : Nat) (w : World) (r : Value) (l : List Nat) : Prop := w.ownsRow lo 21 1 r l.length (numsC .i32 l) ∧ ∀ b, r.ownBlock = some b → b < hi

theorem FinR.grown {lo hi : Nat} {w w' : World} {r : Value} {l : List Nat} {row : Option Nat} (h : FinR lo hi w r l) (hg : w.grownBy w' row)
    (hr : ∀ g, row = some g → hi ≤ g ∨ ∃ c T f, w.heap[g]? = some (.cells c T f) ∧ T ≠ 21) : FinR lo hi w' r l := by
  obtain ⟨h1, h2⟩ := h
  refine ⟨h1.kept hg ?_, h2⟩
  by_cases hv : r.ownBlock = none
  · exact .inl hv
  · right
    intro e
    obtain ⟨g, hgg⟩ := Option.ne_none_iff_exists'.1 hv
    rcases hr g (e ▸ hgg) with h3 | ⟨c, T, f, h5, h6⟩
    · have := h2 g hgg; omega
    · rcases h1.2 with ⟨rfl, _⟩ | ⟨g', cap, cur, rfl, _, h7, _⟩
      · simp [Value.ownBlock] at hgg
      · simp [Value.ownBlock] at hgg
        subst hgg
        rw [h5] at h7
        simp at h7
        exact h6 h7.2.1

theorem FinR.nums {lo hi : Nat} {w : World} {r : Value} {l : List Nat} (h : FinR lo hi w r l) : Nums .i32 lo w.heap.size w r l := Nums.ofOwn h.1
theorem FinR.shape {lo hi : Nat} {w : World} {r : Value} {l : List Nat} (h : FinR lo hi w r l) : ∃ ad cap, r = .slice ad l.length cap := own_shape h.1
theorem FinR.wide {lo hi lo' hi' : Nat} {w : World} {r : Value} {l : List Nat} (h : FinR lo hi w r l) (h1 : lo' ≤ lo) (h2 : hi ≤ hi') : FinR lo' hi' w r l :=
  ⟨own_base h.1 h1, fun b hb => Nat.lt_of_lt_of_le (h.2 b hb) h2⟩
theorem FinR.one {lo hi : Nat} {w : World} {r : Value} {l : List Nat} (h : FinR lo hi w r l) : r.oneCell' = true := by
  obtain ⟨ad, cap, rfl⟩ := h.shape; rfl
theorem FinR.ofOwn {lo : Nat} {w : World} {r : Value} {l : List Nat} (h : w.ownsRow lo 21 1 r l.length (numsC .i32 l)) : FinR lo w.heap.size w r l := ⟨h, fun b hb => (h.lt b hb).2⟩

/-- rows that are laid down, in a row that the call owns -/
def FinRows (lo hi : Nat) (w : World) (rs : List Value) (rows : List (List Nat)) : Prop :=
  rs.length = rows.length ∧ ∀ (i : Nat) (x : List Nat) (r : Value), rows[i]? = some x → rs[i]? = some r → FinR lo hi w r x

theorem FinRows.nil {lo hi : Nat} {w : World} : FinRows lo hi w [] [] := ⟨rfl, by simp⟩
theorem FinRows.grown {lo hi : Nat} {w w' : World} {rs : List Value} {rows : List (List Nat)} {row : Option Nat} (h : FinRows lo hi w rs rows) (hg : w.grownBy w' row)
    (hr : ∀ g, row = some g → hi ≤ g ∨ ∃ c T f, w.heap[g]? = some (.cells c T f) ∧ T ≠ 21) : FinRows lo hi w' rs rows :=
  ⟨h.1, fun i x r hx hrr => (h.2 i x r hx hrr).grown hg hr⟩
theorem FinRows.wide {lo hi hi' : Nat} {w : World} {rs : List Value} {rows : List (List Nat)} (h : FinRows lo hi w rs rows) (h2 : hi ≤ hi') : FinRows lo hi' w rs rows :=
  ⟨h.1, fun i x r hx hrr => (h.2 i x r hx hrr).wide (Nat.le_refl _) h2⟩
theorem FinRows.snoc {lo hi : Nat} {w : World} {rs : List Value} {rows : List (List Nat)} {r : Value} {x : List Nat} (h : FinRows lo hi w rs rows) (hr : FinR lo hi w r x) : FinRows lo hi w (rs ++ [r]) (rows ++ [x]) := by
  refine ⟨by simp [h.1], fun i y u hy hu => ?_⟩
  have hl := h.1
  rcases Nat.lt_or_ge i rows.length with hi | hi
  · rw [List.getElem?_append_left hi] at hy
    rw [List.getElem?_append_left (by omega)] at hu
    exact h.2 i y u hy hu
  · rw [List.getElem?_append_right hi] at hy
    rw [List.getElem?_append_right (by omega), hl] at hu
    obtain ⟨j, hj⟩ : ∃ j, i - rows.length = j := ⟨_, rfl⟩
    rw [hj] at hy hu
    cases j with
    | zero =>
      simp only [List.getElem?_cons_zero, Option.some.injEq] at hy hu
      subst hy hu
      exact hr
    | succ j => simp at hy
theorem FinRows.one {lo hi : Nat} {w : World} {rs : List Value} {rows : List (List Nat)} (h : FinRows lo hi w rs rows) : ∀ u, u ∈ rs → u.oneCell' = true := by
  intro u hu
  obtain ⟨i, hi, rfl⟩ := List.mem_iff_getElem.1 hu
  have h1 := h.1
  exact (h.2 i _ _ (List.getElem?_eq_getElem (by omega)) (List.getElem?_eq_getElem hi)).one

/-- a row's one cell -/
def RuneCell (lo hi : Nat) (w : World) (l : List Nat) (cs : List Value) : Prop := ∃ r, cs = [r] ∧ Nums .i32 lo hi w r l
/-- a slice of rows of runes -/
def RuneRows (lo hi : Nat) (w : World) (v : Value) (m : List (List Nat)) : Prop := RowOf 1 (RuneCell lo hi) lo hi w v m

theorem RuneRows.keep {lo hi : Nat} {w w' : World} {v : Value} {m : List (List Nat)} (h : RuneRows lo hi w v m) (hk : ∀ b, lo ≤ b → b < hi → w'.heap[b]? = w.heap[b]?) : RuneRows lo hi w' v m :=
  RowOf.keep h hk (fun _ _ ⟨r, e, hr⟩ => ⟨r, e, hr.keep hk⟩)
theorem RuneRows.below {lo hi B : Nat} {w w' : World} {v : Value} {m : List (List Nat)} (h : RuneRows lo hi w v m) (hb : Below B w w') (hB : hi ≤ B) : RuneRows lo hi w' v m :=
  h.keep fun b _ hh => hb.block b (by omega)
theorem RuneRows.wide {lo hi lo' hi' : Nat} {w : World} {v : Value} {m : List (List Nat)} (h : RuneRows lo hi w v m) (h1 : lo' ≤ lo) (h2 : hi ≤ hi') : RuneRows lo' hi' w v m :=
  RowOf.wide h h1 h2 (fun _ _ ⟨r, e, hr⟩ => ⟨r, e, hr.wide h1 h2⟩)
theorem RuneRows.at {lo hi : Nat} {w : World} {v : Value} {m : List (List Nat)} (h : RuneRows lo hi w v m) (i : Nat) (x : List Nat) (hx : m[i]? = some x) :
    ∃ b off cap r, v = .slice (some ⟨b, off, none⟩) m.length cap ∧ m.length ≤ cap ∧ lo ≤ b ∧ b < hi ∧ Nums .i32 lo hi w r x ∧ w.cell? ⟨b, off + i, none⟩ = some r := by
  obtain ⟨b, off, cap, cs, rfl, hc, hl, hh, _, ⟨r, rfl, hr⟩, hcell⟩ := RowOf.at h i x hx
  have := hcell 0 (by decide)
  exact ⟨b, off, cap, r, rfl, hc, hl, hh, hr, by simpa using this⟩

theorem FinRows.rows {B hi : Nat} {w : World} {v : Value} {rs : List Value} {rows : List (List Nat)} (h1 : w.ownsRow B 88 1 v rows.length rs) (h : FinRows B hi w rs rows) : RuneRows B w.heap.size w v rows := by
  have h1' : w.ownsRow B 88 1 v rows.length (rs.map fun r => [r]).flatten := by
    have : (rs.map fun r => [r]).flatten = rs := by
      clear h1 h
      induction rs with
      | nil => rfl
      | cons x r ih => simp [ih]
    rw [this]; exact h1
  refine RowOf.ofOwn (by decide) h1' (by simpa using h.1) (by intro x hx; obtain ⟨y, _, rfl⟩ := List.mem_map.1 hx; rfl) ?_
  intro i x c hx hc
  rw [List.getElem?_map] at hc
  obtain ⟨r, hr, rfl⟩ := Option.map_eq_some_iff.1 hc
  exact ⟨r, rfl, (h.2 i x r hx hr).nums⟩

/-- the state of simileref02.words: the words that are whole, and the runes of the one that runs -/
def WordsSt (B : Nat) (w : World) (vo vw : Value) (rows : List (List Nat)) (cur : List Nat) : Prop :=
  ∃ rs m, w.ownsRow B 88 1 vo rows.length rs ∧ FinRows B m w rs rows ∧ B ≤ m ∧ m ≤ w.heap.size ∧ w.ownsRow m 21 1 vw cur.length (numsC .i32 cur)

theorem own_ty {w : World} {B : Nat} {e : TypeId} {size n : Nat} {v : Value} {xs : List Value} (h : w.ownsRow B e size v n xs) (k : Nat) (hk : v.ownBlock = some k) : ∃ c, w.heap[k]? = some (.cells c e (0, 0)) := by
  rcases h.2 with ⟨rfl, _⟩ | ⟨g, cap, cur, rfl, hb, hg, _⟩
  · cases hk
  · cases hk; exact ⟨cur, hg⟩

theorem WordsSt.rune {B : Nat} {w w6 : World} {vo vw v' : Value} {rows : List (List Nat)} {cur : List Nat} {r : Nat} {rs : List Value} {m : Nat}
    (h1 : w.ownsRow B 88 1 vo rows.length rs) (h2 : FinRows B m w rs rows) (h3 : B ≤ m) (h4 : m ≤ w.heap.size) (h5 : w.ownsRow m 21 1 vw cur.length (numsC .i32 cur))
    (ho : w6.ownsRow m 21 1 v' (cur.length + 1) (numsC .i32 cur ++ [.int .i32 (r : Nat)])) (hg : (w.alloc (.cells #[.int .i32 (r : Nat)] 21)).grownBy w6 vw.ownBlock) : WordsSt B w6 vo v' rows (cur ++ [r]) := by
  have hal : w.grownBy (w.alloc (.cells #[.int .i32 (r : Nat)] 21)) none := World.grownBy_alloc w _ none
  have hlt := h5.lt
  refine ⟨rs, m, ?_, ?_, h3, ?_, by simpa [numsC] using ho⟩
  · refine (h1.alloc _).kept hg ?_
    by_cases hv : vo.ownBlock = none
    · exact .inl hv
    · right
      intro e
      obtain ⟨g, hgg⟩ := Option.ne_none_iff_exists'.1 hv
      obtain ⟨c1, e1⟩ := own_ty h1 g hgg
      obtain ⟨c2, e2⟩ := own_ty h5 g (e ▸ hgg)
      rw [e1] at e2
      simp at e2
  · refine (h2.grown hal (fun g e => by cases e)).grown hg fun g e => .inl ?_
    exact (hlt g e).1
  · have := hg.size
    simp at this
    omega

theorem WordsSt.word {B : Nat} {w w6 : World} {vo vw v' : Value} {rows : List (List Nat)} {cur : List Nat} {rs : List Value} {m : Nat}
    (h1 : w.ownsRow B 88 1 vo rows.length rs) (h2 : FinRows B m w rs rows) (h3 : B ≤ m) (h4 : m ≤ w.heap.size) (h5 : w.ownsRow m 21 1 vw cur.length (numsC .i32 cur))
    (ho : w6.ownsRow B 88 1 v' (rows.length + 1) (rs ++ [vw])) (hg : (w.alloc (.cells #[vw] 88)).grownBy w6 vo.ownBlock) : WordsSt B w6 v' (.slice none 0 0) (rows ++ [cur]) [] := by
  have hal : w.grownBy (w.alloc (.cells #[vw] 88)) none := World.grownBy_alloc w _ none
  have hty : ∀ g, vo.ownBlock = some g → w.heap.size ≤ g ∨ ∃ c T f, (w.alloc (.cells #[vw] 88)).heap[g]? = some (.cells c T f) ∧ T ≠ 21 := fun g e => by
    obtain ⟨c, hc⟩ := own_ty (h1.alloc _) g e
    exact .inr ⟨c, _, _, hc, by decide⟩
  have hsz : w.heap.size ≤ w6.heap.size := by have := hg.size; simp at this; omega
  have hf : FinR B w.heap.size w vw cur := (FinR.ofOwn h5).wide h3 (Nat.le_refl _)
  have hrows := ((h2.wide h4).snoc hf).grown hal (fun g e => by cases e)
  exact ⟨rs ++ [vw], w6.heap.size, by simpa using ho, (hrows.grown hg hty).wide hsz, by omega, Nat.le_refl _, World.ownsRow_nil _ _ _ _⟩

theorem wordSt_len (L : List Nat) : (wordSt L).1.length + (wordSt L).2.length ≤ L.length := by
  have h : ∀ (L : List Nat) (st : List (List Nat) × List Nat), (L.foldl wStep st).1.length + (L.foldl wStep st).2.length ≤ st.1.length + st.2.length + L.length := by
    intro L
    induction L with
    | nil => intro st; simp
    | cons r L ih =>
      intro st
      rw [List.foldl_cons]
      have h1 := ih (wStep st r)
      have h2 : (wStep st r).1.length + (wStep st r).2.length ≤ st.1.length + st.2.length + 1 := by
        unfold wStep
        split
        · split
          · simp; omega
          · simp
        · simp; omega
      simp only [List.length_cons]
      omega
  have := h L ([], [])
  simpa [wordSt] using this

/-- rows of runes that a call has made -/
def OwnRows (B : Nat) (w : World) (v : Value) (rows : List (List Nat)) : Prop := ∃ rs m, w.ownsRow B 88 1 v rows.length rs ∧ FinRows B m w rs rows

theorem OwnRows.rows {B : Nat} {w : World} {v : Value} {rows : List (List Nat)} (h : OwnRows B w v rows) : RuneRows B w.heap.size w v rows := by
  obtain ⟨rs, m, h1, h2⟩ := h
  exact FinRows.rows h1 h2
theorem OwnRows.grown {B : Nat} {w w' : World} {v : Value} {rows : List (List Nat)} {row : Option Nat} (h : OwnRows B w v rows) (hg : w.grownBy w' row)
    (hr : ∀ g, row = some g → ∃ c T f, w.heap[g]? = some (.cells c T f) ∧ T ≠ 21 ∧ T ≠ 88) : OwnRows B w' v rows := by
  obtain ⟨rs, m, h1, h2⟩ := h
  refine ⟨rs, m, h1.kept hg ?_, h2.grown hg fun g e => ?_⟩
  · by_cases hv : v.ownBlock = none
    · exact .inl hv
    · right
      intro e
      obtain ⟨g, hgg⟩ := Option.ne_none_iff_exists'.1 hv
      obtain ⟨c1, e1⟩ := own_ty h1 g hgg
      obtain ⟨c, T, f, e2, _, e3⟩ := hr g (e ▸ hgg)
      rw [e1] at e2
      simp at e2
      exact e3 e2.2.1.symm
  · obtain ⟨c, T, f, e2, e3, _⟩ := hr g e
    exact .inr ⟨c, T, f, e2, e3⟩
theorem OwnRows.later {B : Nat} {w w' : World} {v : Value} {rows : List (List Nat)} (h : OwnRows B w v rows) (hb : Below w.heap.size w w') : OwnRows B w' v rows :=
  h.grown (row := none) ⟨hb.os, hb.tape, hb.output, hb.size, fun k hk _ => hb.block k hk⟩ (fun g e => by cases e)
theorem OwnRows.shape {B : Nat} {w : World} {v : Value} {rows : List (List Nat)} (h : OwnRows B w v rows) : ∃ ad cap, v = .slice ad rows.length cap := by
  obtain ⟨rs, m, h1, _⟩ := h
  exact own_shape h1
theorem OwnRows.base {B B' : Nat} {w : World} {v : Value} {rows : List (List Nat)} (h : OwnRows B w v rows) (hB : B' ≤ B) : OwnRows B' w v rows := by
  obtain ⟨rs, m, h1, h2⟩ := h
  exact ⟨rs, m, own_base h1 hB, h2.1, fun i x r hx hr => (h2.2 i x r hx hr).wide hB (Nat.le_refl _)⟩

set_option maxHeartbeats 3200000 in
theorem words_any (lo h1 : Nat) (v : Value) (L : List Nat) (w : World) (h : Nums .i32 lo h1 w v L) (hh1 : h1 ≤ w.heap.size) (hl : L.length ≤ 1000000000) :
    Calls Tryd.prog 71 #[v] w fun e w' => Below w.heap.size w w' ∧ ∃ r, e = .returned r ∧ OwnRows w.heap.size w' r (wordsL L) := by
  obtain ⟨ad, cap, hsh, hc, hcell⟩ := h.open
  subst hsh
  have HH := hid h
  clear h hcell
  go_enter Tryd.func71, Tryd.ntmps71
  have hal := (Below.refl w.heap.size w).alloc (Nat.le_refl _) (.cells #[] 21)
  go_wp2_with (at_builtin; first
    | (refine wpl_append_nums (o := ⟨some 9, _, _, _, _, _⟩) (w0 := w) elemRunes rfl _ _ rfl w.heap.size 0 (.slice (some ⟨w.heap.size, 0, none⟩) 0 0) _ [] L lo h1 (own_none0 w w.heap.size 21 (Nat.le_refl _)) (HH.out.below hal hh1) rfl rfl (by omega) hal hal.size ?_; intro v2 w2 ho2 hb2 hg2; simp only [Nat.zero_add, List.nil_append] at ho2; obtain ⟨ad2, c2, rfl⟩ := own_shape ho2; clear hg2)
    | (refine wpl_append1 (o := ⟨some 11, _, _, _, _, _⟩) elemRunes rfl _ _ rfl w.heap.size L.length 1 1 _ _ #[.int .i32 32] ho2 rfl rfl rfl (by simp [Value.oneCell']) (by omega) (by decide) (by unfold maxLen; omega) hb2 hb2.size ?_))
  intro g3 c3 w3 ho3 hb3 hg3
  go_wp2
  obtain ⟨M, hM⟩ : ∃ M, L ++ [32] = M := ⟨_, rfl⟩
  have hml : M.length = L.length + 1 := by rw [← hM]; simp
  have hl3 : Nums .i32 w.heap.size w3.heap.size w3 (.slice (some ⟨g3, 0, none⟩) (L.length + 1) c3) M := by
    rw [← hM]
    exact Nums.ofOwn (by simpa [numsC] using ho3)
  have hfin : wordsL L = (wordSt M).1 := by rw [← hM]; rfl
  have HL3 := hid hl3
  have HB3 := hid hb3
  have HFIN := hid hfin
  have HML := hid hml
  have hM2 : M.length ≤ 1000000001 := by omega
  clear hM hl3 hfin ho3 ho2 hb2 hg3 hb3 hml hal
  go_loopw [3, 4, 13] (fun vo vw iv wr => ∃ k : Nat, iv = .int .i64 k ∧ k ≤ M.length ∧ Below w3.heap.size w3 wr ∧ WordsSt w3.heap.size wr vo vw (wordSt (M.take k)).1 (wordSt (M.take k)).2) (fun _ _ iv _ => M.length - (intOf iv).toNat)
  case atStart => exact ⟨0, rfl, Nat.zero_le _, Below.refl _ _, [], w3.heap.size, World.ownsRow_nil _ _ _ _, FinRows.nil, Nat.le_refl _, Nat.le_refl _, World.ownsRow_nil _ _ _ _⟩
  case round =>
    obtain ⟨k, rfl, hk, hbel, rs, m, o1, o2, o3, o4, o5⟩ := hrel
    obtain ⟨adw, cw, rfl⟩ := own_shape o5
    obtain ⟨ado, co, rfl⟩ := own_shape o1
    have hlen1 : (wordSt (M.take k)).1.length + (wordSt (M.take k)).2.length ≤ k := by
      have := wordSt_len (M.take k)
      rw [List.length_take] at this
      omega
    by_cases hkl : k < M.length
    · have hmk := HML.out
      obtain ⟨r, hr⟩ : ∃ r, M[k]? = some r := ⟨_, List.getElem?_eq_getElem hkl⟩
      have hs1 : wordSt (M.take (k + 1)) = wStep (wordSt (M.take k)) r := by
        rw [List.take_add_one, hr]
        exact wordSt_snoc _ r
      obtain ⟨⟨rows, cur⟩, hst⟩ : ∃ st, wordSt (M.take k) = st := ⟨_, rfl⟩
      rw [hst] at o1 o2 o5 hlen1 hs1 ⊢
      dsimp only at o1 o2 o5 hlen1 hs1 ⊢
      obtain ⟨b, off, _, hsh, _, hbl, hbh, hc9⟩ : ∃ b off c, (Value.slice (some ⟨g3, 0, none⟩) (L.length + 1) c3 = .slice (some ⟨b, off, none⟩) M.length c) ∧ True ∧ w.heap.size ≤ b ∧ b < w3.heap.size ∧ w3.cell? ⟨b, off + k, none⟩ = some (.int .i32 (r : Nat)) := by
        obtain ⟨ad', c', e', _, hcell⟩ := HL3.out.open
        obtain ⟨b, off, hb1, hb2, hb3, hb4⟩ := hcell k hkl
        have hrr : M.getD k 0 = r := by rw [List.getD_eq_getElem?_getD, hr]; rfl
        rw [hrr] at hb4
        exact ⟨b, off, c', by rw [e', hb1], trivial, hb2, hb3, hb4⟩
      simp only [Value.slice.injEq, Option.some.injEq, Addr.mk.injEq, and_true] at hsh
      obtain ⟨⟨rfl, rfl⟩, hz9, rfl⟩ := hsh
      clear hz9
      have hcr : wr.cell? ⟨g3, 0 + k, none⟩ = some (.int .i32 (r : Nat)) := (hbel.cell (p := ⟨g3, 0 + k, none⟩) hbh).trans hc9
      rw [Nat.zero_add] at hcr
      have f1 : (k : Int) < (L.length : Int) + 1 := by omega
      have q := gap_any r wr
      have HS1 := hid hs1
      have HBEL := hid hbel
      have HSZ := hid hbel.size
      clear hs1 hst hr hmk hc9 hbel
      by_cases hgp : isGap r = true
      · rw [hgp] at q
        have Q := hid q
        have hs2 : wStep (rows, cur) r = (if cur = [] then rows else rows ++ [cur], []) := if_pos hgp
        have HS2 := hid hs2
        clear q hs2 hgp
        by_cases hcur : cur.length = 0
        · obtain rfl : cur = [] := List.eq_nil_of_length_eq_zero hcur
          clear hcur
          go_wp2_with (go_at_call 31; refine Q.out.mono ?_; rintro e w' ⟨rfl, rfl⟩)
          go_roundw
          case rel =>
            refine ⟨k + 1, by go_num, by omega, HBEL.out, ?_⟩
            rw [HS1.out, HS2.out]
            exact ⟨rs, m, o1, o2, o3, o4, World.ownsRow_nil _ _ _ _⟩
          case measure => simp [intOf]; omega
        · have hne : ¬ cur = [] := fun e => hcur (by rw [e]; rfl)
          have f2 : (0 : Int) < (cur.length : Int) := by omega
          have HNE := hid hne
          have O2 := hid o2
          clear hne hcur o2
          go_wp2_with (first
            | (go_at_call 31; refine Q.out.mono ?_; rintro e w' ⟨rfl, rfl⟩)
            | (at_builtin; refine wpl_append1 (o := ⟨some 30, _, _, _, _, _⟩) elemRuneRow rfl _ _ rfl w3.heap.size rows.length 1 1 _ rs #[.slice adw cur.length cw] o1 rfl rfl rfl (by simp [Value.oneCell']) (by omega) (by decide) (by unfold maxLen; omega) HBEL.out HSZ.out ?_; intro g6 c6 w6 ho6 hb6 hg6))
          have FIN := hid (WordsSt.word o1 O2.out o3 o4 o5 (by simpa using ho6) hg6)
          have HB6 := hid hb6
          clear ho6 hb6 hg6
          go_wp2
          go_roundw
          case rel =>
            refine ⟨k + 1, by go_num, by omega, HB6.out, ?_⟩
            rw [HS1.out, HS2.out, if_neg HNE.out]
            exact FIN.out
          case measure => simp [intOf]; omega
      · have hgf : isGap r = false := by simpa using hgp
        rw [hgf] at q
        have Q := hid q
        have hs2 : wStep (rows, cur) r = (rows, cur ++ [r]) := if_neg hgp
        have HS2 := hid hs2
        have O2 := hid o2
        have O1 := hid o1
        clear q hs2 hgp hgf o1 o2
        go_wp2_with (first
          | (go_at_call 31; refine Q.out.mono ?_; rintro e w' ⟨rfl, rfl⟩)
          | (at_builtin; refine wpl_append1 (o := ⟨some 23, _, _, _, _, _⟩) (w0 := wr) elemRunes rfl _ _ rfl m cur.length 1 1 _ (numsC .i32 cur) #[.int .i32 (r : Nat)] o5 rfl rfl rfl (by simp [Value.oneCell']) (by omega) (by decide) (by unfold maxLen; omega) (Below.refl _ _) o4 ?_; intro g6 c6 w6 ho6 hb6 hg6))
        have FIN := hid (WordsSt.rune O1.out O2.out o3 o4 o5 (by simpa using ho6) hg6)
        have HB6 := hid (HBEL.out.trans (hb6.mono o3))
        clear ho6 hb6 hg6
        go_wp2
        go_roundw
        case rel =>
          refine ⟨k + 1, by go_num, by omega, HB6.out, ?_⟩
          rw [HS1.out, HS2.out]
          exact FIN.out
        case measure => simp [intOf]; omega
    · obtain rfl : k = M.length := by omega
      have hmk := HML.out
      have f1 : ¬ ((M.length : Int) < (L.length : Int) + 1) := by omega
      rw [List.take_length] at o1 o2
      clear hmk
      go_wp2
      go_ret
      refine ⟨HB3.out.trans (hbel.mono HB3.out.size), _, rfl, ?_⟩
      rw [HFIN.out]
      exact OwnRows.base ⟨rs, m, o1, o2⟩ HB3.out.size
end Go.Proofs.YtjjidmgeladicaaDoor

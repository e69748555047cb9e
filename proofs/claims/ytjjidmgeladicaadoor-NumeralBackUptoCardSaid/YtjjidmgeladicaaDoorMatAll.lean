import Derived.Test.YtjjidmgeladicaaDoorRowRef
import Derived.Test.YtjjidmgeladicaaDoorRowsEq
import Derived.Test.YtjjidmgeladicaaDoorLaw2
import Derived.Test.YtjjidmgeladicaaDoorRowN
import Derived.Test.YtjjidmgeladicaaDoorFields
import Derived.Test.YtjjidmgeladicaaDoorShelf

/- Rows of runes that a call itself owns; simileref02.words. -/
namespace Go.Proofs.YtjjidmgeladicaaDoor
open Go.RowKit

theorem elemRuneRow : Elem Tryd.prog 93 88 (.slice none 0 0) 1 24 :=
  ⟨Tryd.underlying93, by kernel_rfl, rfl, by decide⟩

theorem own_none0 (w : World) (B : Nat) (T : TypeId) (hB : B ≤ w.heap.size) : (w.alloc (.cells #[] T)).ownsRow B T 1 (.slice (some ⟨w.heap.size, 0, none⟩) 0 0) 0 [] :=
  World.ownsRow_made w #[] 0 hB (Nat.zero_le _) rfl

/-- append of a slice of integers, whatever it is, to what the call owns -/
theorem wpl_append_nums {P : Program} {w w0 : World} {ops : Array Oper} {rest : List Oper} {o : Oper} {a : Act} {Q : Exit → Act → World → Prop} {t e : TypeId} {k : IntKind}
    (E : Elem P t e (.int k 0) 1 4) (hg : o.guard = none) (s x : Operand) (ho : o.op = .call { callee := .builtin .append, args := #[s, x], argTypes := #[t, t] })
    (B n : Nat) (v v2 : Value) (cells : List Value) (ys : List Nat) (lo hi : Nat) (hown : w.ownsRow B e 1 v n cells) (hL : Nums k lo hi w v2 ys) (hs : a.eval s = v) (hx : a.eval x = v2)
    (hb : n + ys.length ≤ 35184372088832) (hbl : Below B w0 w) (hB : B ≤ w.heap.size)
    (h : ∀ v' w', w'.ownsRow B e 1 v' (n + ys.length) (cells ++ numsC k ys) → Below B w0 w' → w.grownBy w' v.ownBlock → wpList P ops Q rest (a.put o.dst v') w') :
    wpList P ops Q (o :: rest) a w := by
  obtain ⟨i, hi', hz, hsz, hby⟩ := info_parts E.row
  obtain ⟨ad, cap, rfl, hc, hn, hcell⟩ := hL
  have hBk : ∀ k, v.ownBlock = some k → B ≤ k := fun k hk => (hown.lt k hk).1
  cases ad with
  | none =>
    have hc0 := hn rfl
    have hl0 : ys = [] := List.eq_nil_of_length_eq_zero (by omega)
    subst hl0
    subst hc0
    refine wpList_plain hg fun K hK => ?_
    have hr := run_append_owned_none (P := P) w B t o.type e i 1 E.sl hi' v n cells hown
    have hx' : a.eval x = .slice none 0 0 := by simpa using hx
    unfold Oper.wp
    simp [execOp, ho, resolve, invoke, builtin, hs, hx', hr, Result.andThen]
    exact hK _ _ (h v w (by simpa [numsC] using hown) hbl (World.grownBy.refl _ _))
  | some ad =>
    refine wpList_append_own _ hg s x t ho B e i _ 1 4 E.sl hi' hz hsz hby E.zs E.pos v n cells hs hown ad ys.length cap (numsC k ys) hx (by simp [numsC]) ?_ (numsC_one k _) (by unfold maxLen; omega) (by omega) hB ?_
    · intro j u hj
      have hjl : j < ys.length := by
        have := (List.getElem?_eq_some_iff.1 hj).1
        simpa [numsC] using this
      obtain ⟨b, off, ha, _, _, hcc⟩ := hcell (by intro e; subst e; simp at hjl)
      simp only [Option.some.injEq] at ha
      subst ha
      rw [Addr.add_lit, hcc j hjl, ← hj]
      simp [numsC, List.getD_eq_getElem?_getD, hjl]
    · intro v' w' h1 h2 h3
      exact h v' w' h1 (hbl.grown h2 hB hBk) h2

/-- runes that are laid down: the call's own, in a block below hi -/
def FinR (lo hi : Nat) (w : World) (r : Value) (l : List Nat) : Prop := w.ownsRow lo 21 1 r l.length (numsC .i32 l) ∧ ∀ b, r.ownBlock = some b → b < hi

theorem FinR.grown {lo hi : Nat} {w w' : World} {r : Value} {l : List Nat} {row : Option Nat} (h : FinR lo hi w r l) (hg : w.grownBy w' row)
    (hr : ∀ g, row = some g → hi ≤ g ∨ ∃ c T f, w.heap[g]? = some (.cells c T f) ∧ T ≠ 21) : FinR lo hi w' r l := by
  obtain ⟨h1, h2⟩ := h
  refine ⟨h1.kept hg ?_, h2⟩
  by_cases hv : r.ownBlock = none
  · exact .inl hv
  · right
    intro e
    obtain ⟨g, hgg⟩ := Option.ne_none_iff_exists'.1 hv
    rcases hr g (e ▸ hgg) with h3 | ⟨c, T, f, h5, h6⟩
    · have := h2 g hgg; omega
    · rcases h1.2 with ⟨rfl, _⟩ | ⟨g', cap, cur, rfl, _, h7, _⟩
      · simp [Value.ownBlock] at hgg
      · simp [Value.ownBlock] at hgg
        subst hgg
        rw [h5] at h7
        simp at h7
        exact h6 h7.2.1

theorem FinR.nums {lo hi : Nat} {w : World} {r : Value} {l : List Nat} (h : FinR lo hi w r l) : Nums .i32 lo w.heap.size w r l := Nums.ofOwn h.1
theorem FinR.shape {lo hi : Nat} {w : World} {r : Value} {l : List Nat} (h : FinR lo hi w r l) : ∃ ad cap, r = .slice ad l.length cap := own_shape h.1
theorem FinR.wide {lo hi lo' hi' : Nat} {w : World} {r : Value} {l : List Nat} (h : FinR lo hi w r l) (h1 : lo' ≤ lo) (h2 : hi ≤ hi') : FinR lo' hi' w r l :=
  ⟨own_base h.1 h1, fun b hb => Nat.lt_of_lt_of_le (h.2 b hb) h2⟩
theorem FinR.one {lo hi : Nat} {w : World} {r : Value} {l : List Nat} (h : FinR lo hi w r l) : r.oneCell' = true := by
  obtain ⟨ad, cap, rfl⟩ := h.shape; rfl
theorem FinR.ofOwn {lo : Nat} {w : World} {r : Value} {l : List Nat} (h : w.ownsRow lo 21 1 r l.length (numsC .i32 l)) : FinR lo w.heap.size w r l := ⟨h, fun b hb => (h.lt b hb).2⟩

/-- rows that are laid down, in a row that the call owns -/
def FinRows (lo hi : Nat) (w : World) (rs : List Value) (rows : List (List Nat)) : Prop :=
  rs.length = rows.length ∧ ∀ (i : Nat) (x : List Nat) (r : Value), rows[i]? = some x → rs[i]? = some r → FinR lo hi w r x

theorem FinRows.nil {lo hi : Nat} {w : World} : FinRows lo hi w [] [] := ⟨rfl, by simp⟩
theorem FinRows.grown {lo hi : Nat} {w w' : World} {rs : List Value} {rows : List (List Nat)} {row : Option Nat} (h : FinRows lo hi w rs rows) (hg : w.grownBy w' row)
    (hr : ∀ g, row = some g → hi ≤ g ∨ ∃ c T f, w.heap[g]? = some (.cells c T f) ∧ T ≠ 21) : FinRows lo hi w' rs rows :=
  ⟨h.1, fun i x r hx hrr => (h.2 i x r hx hrr).grown hg hr⟩
theorem FinRows.wide {lo hi hi' : Nat} {w : World} {rs : List Value} {rows : List (List Nat)} (h : FinRows lo hi w rs rows) (h2 : hi ≤ hi') : FinRows lo hi' w rs rows :=
  ⟨h.1, fun i x r hx hrr => (h.2 i x r hx hrr).wide (Nat.le_refl _) h2⟩
theorem FinRows.snoc {lo hi : Nat} {w : World} {rs : List Value} {rows : List (List Nat)} {r : Value} {x : List Nat} (h : FinRows lo hi w rs rows) (hr : FinR lo hi w r x) : FinRows lo hi w (rs ++ [r]) (rows ++ [x]) := by
  refine ⟨by simp [h.1], fun i y u hy hu => ?_⟩
  have hl := h.1
  rcases Nat.lt_or_ge i rows.length with hi | hi
  · rw [List.getElem?_append_left hi] at hy
    rw [List.getElem?_append_left (by omega)] at hu
    exact h.2 i y u hy hu
  · rw [List.getElem?_append_right hi] at hy
    rw [List.getElem?_append_right (by omega), hl] at hu
    obtain ⟨j, hj⟩ : ∃ j, i - rows.length = j := ⟨_, rfl⟩
    rw [hj] at hy hu
    cases j with
    | zero =>
      simp only [List.getElem?_cons_zero, Option.some.injEq] at hy hu
      subst hy hu
      exact hr
    | succ j => simp at hy
theorem FinRows.one {lo hi : Nat} {w : World} {rs : List Value} {rows : List (List Nat)} (h : FinRows lo hi w rs rows) : ∀ u, u ∈ rs → u.oneCell' = true := by
  intro u hu
  obtain ⟨i, hi, rfl⟩ := List.mem_iff_getElem.1 hu
  have h1 := h.1
  exact (h.2 i _ _ (List.getElem?_eq_getElem (by omega)) (List.getElem?_eq_getElem hi)).one

/-- a row's one cell -/
def RuneCell (lo hi : Nat) (w : World) (l : List Nat) (cs : List Value) : Prop := ∃ r, cs = [r] ∧ Nums .i32 lo hi w r l
/-- a slice of rows of runes -/
def RuneRows (lo hi : Nat) (w : World) (v : Value) (m : List (List Nat)) : Prop := RowOf 1 (RuneCell lo hi) lo hi w v m

theorem RuneRows.keep {lo hi : Nat} {w w' : World} {v : Value} {m : List (List Nat)} (h : RuneRows lo hi w v m) (hk : ∀ b, lo ≤ b → b < hi → w'.heap[b]? = w.heap[b]?) : RuneRows lo hi w' v m :=
  RowOf.keep h hk (fun _ _ ⟨r, e, hr⟩ => ⟨r, e, hr.keep hk⟩)
theorem RuneRows.below {lo hi B : Nat} {w w' : World} {v : Value} {m : List (List Nat)} (h : RuneRows lo hi w v m) (hb : Below B w w') (hB : hi ≤ B) : RuneRows lo hi w' v m :=
  h.keep fun b _ hh => hb.block b (by omega)
theorem RuneRows.wide {lo hi lo' hi' : Nat} {w : World} {v : Value} {m : List (List Nat)} (h : RuneRows lo hi w v m) (h1 : lo' ≤ lo) (h2 : hi ≤ hi') : RuneRows lo' hi' w v m :=
  RowOf.wide h h1 h2 (fun _ _ ⟨r, e, hr⟩ => ⟨r, e, hr.wide h1 h2⟩)
theorem RuneRows.at {lo hi : Nat} {w : World} {v : Value} {m : List (List Nat)} (h : RuneRows lo hi w v m) (i : Nat) (x : List Nat) (hx : m[i]? = some x) :
    ∃ b off cap r, v = .slice (some ⟨b, off, none⟩) m.length cap ∧ m.length ≤ cap ∧ lo ≤ b ∧ b < hi ∧ Nums .i32 lo hi w r x ∧ w.cell? ⟨b, off + i, none⟩ = some r := by
  obtain ⟨b, off, cap, cs, rfl, hc, hl, hh, _, ⟨r, rfl, hr⟩, hcell⟩ := RowOf.at h i x hx
  have := hcell 0 (by decide)
  exact ⟨b, off, cap, r, rfl, hc, hl, hh, hr, by simpa using this⟩

theorem FinRows.rows {B hi : Nat} {w : World} {v : Value} {rs : List Value} {rows : List (List Nat)} (h1 : w.ownsRow B 88 1 v rows.length rs) (h : FinRows B hi w rs rows) : RuneRows B w.heap.size w v rows := by
  have h1' : w.ownsRow B 88 1 v rows.length (rs.map fun r => [r]).flatten := by
    have : (rs.map fun r => [r]).flatten = rs := by
      clear h1 h
      induction rs with
      | nil => rfl
      | cons x r ih => simp [ih]
    rw [this]; exact h1
  refine RowOf.ofOwn (by decide) h1' (by simpa using h.1) (by intro x hx; obtain ⟨y, _, rfl⟩ := List.mem_map.1 hx; rfl) ?_
  intro i x c hx hc
  rw [List.getElem?_map] at hc
  obtain ⟨r, hr, rfl⟩ := Option.map_eq_some_iff.1 hc
  exact ⟨r, rfl, (h.2 i x r hx hr).nums⟩

/-- the state of simileref02.words: the words that are whole, and the runes of the one that runs -/
def WordsSt (B : Nat) (w : World) (vo vw : Value) (rows : List (List Nat)) (cur : List Nat) : Prop :=
  ∃ rs m, w.ownsRow B 88 1 vo rows.length rs ∧ FinRows B m w rs rows ∧ B ≤ m ∧ m ≤ w.heap.size ∧ w.ownsRow m 21 1 vw cur.length (numsC .i32 cur)

theorem own_ty {w : World} {B : Nat} {e : TypeId} {size n : Nat} {v : Value} {xs : List Value} (h : w.ownsRow B e size v n xs) (k : Nat) (hk : v.ownBlock = some k) : ∃ c, w.heap[k]? = some (.cells c e (0, 0)) := by
  rcases h.2 with ⟨rfl, _⟩ | ⟨g, cap, cur, rfl, hb, hg, _⟩
  · cases hk
  · cases hk; exact ⟨cur, hg⟩

theorem WordsSt.rune {B : Nat} {w w6 : World} {vo vw v' : Value} {rows : List (List Nat)} {cur : List Nat} {r : Nat} {rs : List Value} {m : Nat}
    (h1 : w.ownsRow B 88 1 vo rows.length rs) (h2 : FinRows B m w rs rows) (h3 : B ≤ m) (h4 : m ≤ w.heap.size) (h5 : w.ownsRow m 21 1 vw cur.length (numsC .i32 cur))
    (ho : w6.ownsRow m 21 1 v' (cur.length + 1) (numsC .i32 cur ++ [.int .i32 (r : Nat)])) (hg : (w.alloc (.cells #[.int .i32 (r : Nat)] 21)).grownBy w6 vw.ownBlock) : WordsSt B w6 vo v' rows (cur ++ [r]) := by
  have hal : w.grownBy (w.alloc (.cells #[.int .i32 (r : Nat)] 21)) none := World.grownBy_alloc w _ none
  have hlt := h5.lt
  refine ⟨rs, m, ?_, ?_, h3, ?_, by simpa [numsC] using ho⟩
  · refine (h1.alloc _).kept hg ?_
    by_cases hv : vo.ownBlock = none
    · exact .inl hv
    · right
      intro e
      obtain ⟨g, hgg⟩ := Option.ne_none_iff_exists'.1 hv
      obtain ⟨c1, e1⟩ := own_ty h1 g hgg
      obtain ⟨c2, e2⟩ := own_ty h5 g (e ▸ hgg)
      rw [e1] at e2
      simp at e2
  · refine (h2.grown hal (fun g e => by cases e)).grown hg fun g e => .inl ?_
    exact (hlt g e).1
  · have := hg.size
    simp at this
    omega

theorem WordsSt.word {B : Nat} {w w6 : World} {vo vw v' : Value} {rows : List (List Nat)} {cur : List Nat} {rs : List Value} {m : Nat}
    (h1 : w.ownsRow B 88 1 vo rows.length rs) (h2 : FinRows B m w rs rows) (h3 : B ≤ m) (h4 : m ≤ w.heap.size) (h5 : w.ownsRow m 21 1 vw cur.length (numsC .i32 cur))
    (ho : w6.ownsRow B 88 1 v' (rows.length + 1) (rs ++ [vw])) (hg : (w.alloc (.cells #[vw] 88)).grownBy w6 vo.ownBlock) : WordsSt B w6 v' (.slice none 0 0) (rows ++ [cur]) [] := by
  have hal : w.grownBy (w.alloc (.cells #[vw] 88)) none := World.grownBy_alloc w _ none
  have hty : ∀ g, vo.ownBlock = some g → w.heap.size ≤ g ∨ ∃ c T f, (w.alloc (.cells #[vw] 88)).heap[g]? = some (.cells c T f) ∧ T ≠ 21 := fun g e => by
    obtain ⟨c, hc⟩ := own_ty (h1.alloc _) g e
    exact .inr ⟨c, _, _, hc, by decide⟩
  have hsz : w.heap.size ≤ w6.heap.size := by have := hg.size; simp at this; omega
  have hf : FinR B w.heap.size w vw cur := (FinR.ofOwn h5).wide h3 (Nat.le_refl _)
  have hrows := ((h2.wide h4).snoc hf).grown hal (fun g e => by cases e)
  exact ⟨rs ++ [vw], w6.heap.size, by simpa using ho, (hrows.grown hg hty).wide hsz, by omega, Nat.le_refl _, World.ownsRow_nil _ _ _ _⟩

theorem wordSt_len (L : List Nat) : (wordSt L).1.length + (wordSt L).2.length ≤ L.length := by
  have h : ∀ (L : List Nat) (st : List (List Nat) × List Nat), (L.foldl wStep st).1.length + (L.foldl wStep st).2.length ≤ st.1.length + st.2.length + L.length := by
    intro L
    induction L with
    | nil => intro st; simp
    | cons r L ih =>
      intro st
      rw [List.foldl_cons]
      have h1 := ih (wStep st r)
      have h2 : (wStep st r).1.length + (wStep st r).2.length ≤ st.1.length + st.2.length + 1 := by
        unfold wStep
        split
        · split
          · simp; omega
          · simp
        · simp; omega
      simp only [List.length_cons]
      omega
  have := h L ([], [])
  simpa [wordSt] using this

/-- rows of runes that a call has made -/
def OwnRows (B : Nat) (w : World) (v : Value) (rows : List (List Nat)) : Prop := ∃ rs m, w.ownsRow B 88 1 v rows.length rs ∧ FinRows B m w rs rows

theorem OwnRows.rows {B : Nat} {w : World} {v : Value} {rows : List (List Nat)} (h : OwnRows B w v rows) : RuneRows B w.heap.size w v rows := by
  obtain ⟨rs, m, h1, h2⟩ := h
  exact FinRows.rows h1 h2
theorem OwnRows.grown {B : Nat} {w w' : World} {v : Value} {rows : List (List Nat)} {row : Option Nat} (h : OwnRows B w v rows) (hg : w.grownBy w' row)
    (hr : ∀ g, row = some g → ∃ c T f, w.heap[g]? = some (.cells c T f) ∧ T ≠ 21 ∧ T ≠ 88) : OwnRows B w' v rows := by
  obtain ⟨rs, m, h1, h2⟩ := h
  refine ⟨rs, m, h1.kept hg ?_, h2.grown hg fun g e => ?_⟩
  · by_cases hv : v.ownBlock = none
    · exact .inl hv
    · right
      intro e
      obtain ⟨g, hgg⟩ := Option.ne_none_iff_exists'.1 hv
      obtain ⟨c1, e1⟩ := own_ty h1 g hgg
      obtain ⟨c, T, f, e2, _, e3⟩ := hr g (e ▸ hgg)
      rw [e1] at e2
      simp at e2
      exact e3 e2.2.1.symm
  · obtain ⟨c, T, f, e2, e3, _⟩ := hr g e
    exact .inr ⟨c, T, f, e2, e3⟩
theorem OwnRows.later {B : Nat} {w w' : World} {v : Value} {rows : List (List Nat)} (h : OwnRows B w v rows) (hb : Below w.heap.size w w') : OwnRows B w' v rows :=
  h.grown (row := none) ⟨hb.os, hb.tape, hb.output, hb.size, fun k hk _ => hb.block k hk⟩ (fun g e => by cases e)
theorem OwnRows.shape {B : Nat} {w : World} {v : Value} {rows : List (List Nat)} (h : OwnRows B w v rows) : ∃ ad cap, v = .slice ad rows.length cap := by
  obtain ⟨rs, m, h1, _⟩ := h
  exact own_shape h1
theorem OwnRows.base {B B' : Nat} {w : World} {v : Value} {rows : List (List Nat)} (h : OwnRows B w v rows) (hB : B' ≤ B) : OwnRows B' w v rows := by
  obtain ⟨rs, m, h1, h2⟩ := h
  exact ⟨rs, m, own_base h1 hB, h2.1, fun i x r hx hr => (h2.2 i x r hx hr).wide hB (Nat.le_refl _)⟩

set_option maxHeartbeats 3200000 in
theorem words_any (lo h1 : Nat) (v : Value) (L : List Nat) (w : World) (h : Nums .i32 lo h1 w v L) (hh1 : h1 ≤ w.heap.size) (hl : L.length ≤ 1000000000) :
    Calls Tryd.prog 71 #[v] w fun e w' => Below w.heap.size w w' ∧ ∃ r, e = .returned r ∧ OwnRows w.heap.size w' r (wordsL L) := by
  obtain ⟨ad, cap, hsh, hc, hcell⟩ := h.open
  subst hsh
  have HH := hid h
  clear h hcell
  go_enter Tryd.func71, Tryd.ntmps71
  have hal := (Below.refl w.heap.size w).alloc (Nat.le_refl _) (.cells #[] 21)
  go_wp2_with (at_builtin; first
    | (refine wpl_append_nums (o := ⟨some 9, _, _, _, _, _⟩) (w0 := w) elemRunes rfl _ _ rfl w.heap.size 0 (.slice (some ⟨w.heap.size, 0, none⟩) 0 0) _ [] L lo h1 (own_none0 w w.heap.size 21 (Nat.le_refl _)) (HH.out.below hal hh1) rfl rfl (by omega) hal hal.size ?_; intro v2 w2 ho2 hb2 hg2; simp only [Nat.zero_add, List.nil_append] at ho2; obtain ⟨ad2, c2, rfl⟩ := own_shape ho2; clear hg2)
    | (refine wpl_append1 (o := ⟨some 11, _, _, _, _, _⟩) elemRunes rfl _ _ rfl w.heap.size L.length 1 1 _ _ #[.int .i32 32] ho2 rfl rfl rfl (by simp [Value.oneCell']) (by omega) (by decide) (by unfold maxLen; omega) hb2 hb2.size ?_))
  intro g3 c3 w3 ho3 hb3 hg3
  go_wp2
  obtain ⟨M, hM⟩ : ∃ M, L ++ [32] = M := ⟨_, rfl⟩
  have hml : M.length = L.length + 1 := by rw [← hM]; simp
  have hl3 : Nums .i32 w.heap.size w3.heap.size w3 (.slice (some ⟨g3, 0, none⟩) (L.length + 1) c3) M := by
    rw [← hM]
    exact Nums.ofOwn (by simpa [numsC] using ho3)
  have hfin : wordsL L = (wordSt M).1 := by rw [← hM]; rfl
  have HL3 := hid hl3
  have HB3 := hid hb3
  have HFIN := hid hfin
  have HML := hid hml
  have hM2 : M.length ≤ 1000000001 := by omega
  clear hM hl3 hfin ho3 ho2 hb2 hg3 hb3 hml hal
  go_loopw [3, 4, 13] (fun vo vw iv wr => ∃ k : Nat, iv = .int .i64 k ∧ k ≤ M.length ∧ Below w3.heap.size w3 wr ∧ WordsSt w3.heap.size wr vo vw (wordSt (M.take k)).1 (wordSt (M.take k)).2) (fun _ _ iv _ => M.length - (intOf iv).toNat)
  case atStart => exact ⟨0, rfl, Nat.zero_le _, Below.refl _ _, [], w3.heap.size, World.ownsRow_nil _ _ _ _, FinRows.nil, Nat.le_refl _, Nat.le_refl _, World.ownsRow_nil _ _ _ _⟩
  case round =>
    obtain ⟨k, rfl, hk, hbel, rs, m, o1, o2, o3, o4, o5⟩ := hrel
    obtain ⟨adw, cw, rfl⟩ := own_shape o5
    obtain ⟨ado, co, rfl⟩ := own_shape o1
    have hlen1 : (wordSt (M.take k)).1.length + (wordSt (M.take k)).2.length ≤ k := by
      have := wordSt_len (M.take k)
      rw [List.length_take] at this
      omega
    by_cases hkl : k < M.length
    · have hmk := HML.out
      obtain ⟨r, hr⟩ : ∃ r, M[k]? = some r := ⟨_, List.getElem?_eq_getElem hkl⟩
      have hs1 : wordSt (M.take (k + 1)) = wStep (wordSt (M.take k)) r := by
        rw [List.take_add_one, hr]
        exact wordSt_snoc _ r
      obtain ⟨⟨rows, cur⟩, hst⟩ : ∃ st, wordSt (M.take k) = st := ⟨_, rfl⟩
      rw [hst] at o1 o2 o5 hlen1 hs1 ⊢
      dsimp only at o1 o2 o5 hlen1 hs1 ⊢
      obtain ⟨b, off, _, hsh, _, hbl, hbh, hc9⟩ : ∃ b off c, (Value.slice (some ⟨g3, 0, none⟩) (L.length + 1) c3 = .slice (some ⟨b, off, none⟩) M.length c) ∧ True ∧ w.heap.size ≤ b ∧ b < w3.heap.size ∧ w3.cell? ⟨b, off + k, none⟩ = some (.int .i32 (r : Nat)) := by
        obtain ⟨ad', c', e', _, hcell⟩ := HL3.out.open
        obtain ⟨b, off, hb1, hb2, hb3, hb4⟩ := hcell k hkl
        have hrr : M.getD k 0 = r := by rw [List.getD_eq_getElem?_getD, hr]; rfl
        rw [hrr] at hb4
        exact ⟨b, off, c', by rw [e', hb1], trivial, hb2, hb3, hb4⟩
      simp only [Value.slice.injEq, Option.some.injEq, Addr.mk.injEq, and_true] at hsh
      obtain ⟨⟨rfl, rfl⟩, hz9, rfl⟩ := hsh
      clear hz9
      have hcr : wr.cell? ⟨g3, 0 + k, none⟩ = some (.int .i32 (r : Nat)) := (hbel.cell (p := ⟨g3, 0 + k, none⟩) hbh).trans hc9
      rw [Nat.zero_add] at hcr
      have f1 : (k : Int) < (L.length : Int) + 1 := by omega
      have q := gap_any r wr
      have HS1 := hid hs1
      have HBEL := hid hbel
      have HSZ := hid hbel.size
      clear hs1 hst hr hmk hc9 hbel
      by_cases hgp : isGap r = true
      · rw [hgp] at q
        have Q := hid q
        have hs2 : wStep (rows, cur) r = (if cur = [] then rows else rows ++ [cur], []) := if_pos hgp
        have HS2 := hid hs2
        clear q hs2 hgp
        by_cases hcur : cur.length = 0
        · obtain rfl : cur = [] := List.eq_nil_of_length_eq_zero hcur
          clear hcur
          go_wp2_with (go_at_call 31; refine Q.out.mono ?_; rintro e w' ⟨rfl, rfl⟩)
          go_roundw
          case rel =>
            refine ⟨k + 1, by go_num, by omega, HBEL.out, ?_⟩
            rw [HS1.out, HS2.out]
            exact ⟨rs, m, o1, o2, o3, o4, World.ownsRow_nil _ _ _ _⟩
          case measure => simp [intOf]; omega
        · have hne : ¬ cur = [] := fun e => hcur (by rw [e]; rfl)
          have f2 : (0 : Int) < (cur.length : Int) := by omega
          have HNE := hid hne
          have O2 := hid o2
          clear hne hcur o2
          go_wp2_with (first
            | (go_at_call 31; refine Q.out.mono ?_; rintro e w' ⟨rfl, rfl⟩)
            | (at_builtin; refine wpl_append1 (o := ⟨some 30, _, _, _, _, _⟩) elemRuneRow rfl _ _ rfl w3.heap.size rows.length 1 1 _ rs #[.slice adw cur.length cw] o1 rfl rfl rfl (by simp [Value.oneCell']) (by omega) (by decide) (by unfold maxLen; omega) HBEL.out HSZ.out ?_; intro g6 c6 w6 ho6 hb6 hg6))
          have FIN := hid (WordsSt.word o1 O2.out o3 o4 o5 (by simpa using ho6) hg6)
          have HB6 := hid hb6
          clear ho6 hb6 hg6
          go_wp2
          go_roundw
          case rel =>
            refine ⟨k + 1, by go_num, by omega, HB6.out, ?_⟩
            rw [HS1.out, HS2.out, if_neg HNE.out]
            exact FIN.out
          case measure => simp [intOf]; omega
      · have hgf : isGap r = false := by simpa using hgp
        rw [hgf] at q
        have Q := hid q
        have hs2 : wStep (rows, cur) r = (rows, cur ++ [r]) := if_neg hgp
        have HS2 := hid hs2
        have O2 := hid o2
        have O1 := hid o1
        clear q hs2 hgp hgf o1 o2
        go_wp2_with (first
          | (go_at_call 31; refine Q.out.mono ?_; rintro e w' ⟨rfl, rfl⟩)
          | (at_builtin; refine wpl_append1 (o := ⟨some 23, _, _, _, _, _⟩) (w0 := wr) elemRunes rfl _ _ rfl m cur.length 1 1 _ (numsC .i32 cur) #[.int .i32 (r : Nat)] o5 rfl rfl rfl (by simp [Value.oneCell']) (by omega) (by decide) (by unfold maxLen; omega) (Below.refl _ _) o4 ?_; intro g6 c6 w6 ho6 hb6 hg6))
        have FIN := hid (WordsSt.rune O1.out O2.out o3 o4 o5 (by simpa using ho6) hg6)
        have HB6 := hid (HBEL.out.trans (hb6.mono o3))
        clear ho6 hb6 hg6
        go_wp2
        go_roundw
        case rel =>
          refine ⟨k + 1, by go_num, by omega, HB6.out, ?_⟩
          rw [HS1.out, HS2.out]
          exact FIN.out
        case measure => simp [intOf]; omega
    · obtain rfl : k = M.length := by omega
      have hmk := HML.out
      have f1 : ¬ ((M.length : Int) < (L.length : Int) + 1) := by omega
      rw [List.take_length] at o1 o2
      clear hmk
      go_wp2
      go_ret
      refine ⟨HB3.out.trans (hbel.mono HB3.out.size), _, rfl, ?_⟩
      rw [HFIN.out]
      exact OwnRows.base ⟨rs, m, o1, o2⟩ HB3.out.size
end Go.Proofs.YtjjidmgeladicaaDoor

/- simileref02.parted: runes at each one that parts them. -/
namespace Go.Proofs.YtjjidmgeladicaaDoor
open Go.RowKit

theorem own_atV {B : Nat} {w : World} {e : TypeId} {g n cap : Nat} {xs : List Value} (h : w.ownsRow B e 1 (.slice (some ⟨g, 0, none⟩) n cap) n xs) (j : Nat) (u : Value) (hj : xs[j]? = some u) : w.cell? ⟨g, j, none⟩ = some u ∧ w.frozen? ⟨g, j, none⟩ = false := by
  rcases h.2 with ⟨h1, _⟩ | ⟨g', cap', cur, h1, hb, hg, hcap, hm, hs, ht⟩
  · cases h1
  · simp only [Value.slice.injEq, Option.some.injEq, Addr.mk.injEq, and_true, true_and] at h1
    obtain ⟨rfl, rfl⟩ := h1
    refine ⟨?_, frozen_of_row w g j cur e hg⟩
    rw [cell_of_row w g _ cur e (0, 0) hg]
    rw [← ht, List.getElem?_take] at hj
    split at hj
    · rw [← hj]; simp
    · cases hj

/-- the state of simileref02.parted: the rows that are whole, and the one that runs, which is the last of the row of rows -/
def PartedSt (B : Nat) (w : World) (vo : Value) (rows : List (List Nat)) (cur : List Nat) : Prop :=
  ∃ rs vl m, w.ownsRow B 88 1 vo (rows.length + 1) (rs ++ [vl]) ∧ FinRows B m w rs rows ∧ B ≤ m ∧ m ≤ w.heap.size ∧ w.ownsRow m 21 1 vl cur.length (numsC .i32 cur)

theorem grown_none {w w' : World} (h : Below w.heap.size w w') : w.grownBy w' none := ⟨h.os, h.tape, h.output, h.size, fun k hk _ => h.block k hk⟩

theorem PartedSt.later {B : Nat} {w w' : World} {vo : Value} {rows : List (List Nat)} {cur : List Nat} (h : PartedSt B w vo rows cur) (hb : Below w.heap.size w w') : PartedSt B w' vo rows cur := by
  obtain ⟨rs, vl, m, h1, h2, h3, h4, h5⟩ := h
  exact ⟨rs, vl, m, own_keep h1 hb, h2.grown (grown_none hb) (fun g e => by cases e), h3, Nat.le_trans h4 hb.size, own_keep h5 hb⟩

theorem PartedSt.sep {B : Nat} {w w6 : World} {vo vl v' : Value} {rows : List (List Nat)} {cur : List Nat} {rs : List Value} {m : Nat}
    (h1 : w.ownsRow B 88 1 vo (rows.length + 1) (rs ++ [vl])) (h2 : FinRows B m w rs rows) (h3 : B ≤ m) (h4 : m ≤ w.heap.size) (h5 : w.ownsRow m 21 1 vl cur.length (numsC .i32 cur))
    (ho : w6.ownsRow B 88 1 v' (rows.length + 1 + 1) (rs ++ [vl] ++ [.slice none 0 0])) (hg : (w.alloc (.cells #[.slice none 0 0] 88)).grownBy w6 vo.ownBlock) : PartedSt B w6 v' (rows ++ [cur]) [] := by
  have hal : w.grownBy (w.alloc (.cells #[.slice none 0 0] 88)) none := World.grownBy_alloc w _ none
  have hty : ∀ g, vo.ownBlock = some g → w.heap.size ≤ g ∨ ∃ c T f, (w.alloc (.cells #[.slice none 0 0] 88)).heap[g]? = some (.cells c T f) ∧ T ≠ 21 := fun g e => by
    obtain ⟨c, hc⟩ := own_ty (h1.alloc _) g e
    exact .inr ⟨c, _, _, hc, by decide⟩
  have hsz : w.heap.size ≤ w6.heap.size := by have := hg.size; simp at this; omega
  have hf : FinR B w.heap.size w vl cur := (FinR.ofOwn h5).wide h3 (Nat.le_refl _)
  have hrows := ((h2.wide h4).snoc hf).grown hal (fun g e => by cases e)
  exact ⟨rs ++ [vl], .slice none 0 0, w6.heap.size, by simpa using ho, (hrows.grown hg hty).wide hsz, by omega, Nat.le_refl _, World.ownsRow_nil _ _ _ _⟩

theorem PartedSt.rune {B : Nat} {w w6 : World} {g c : Nat} {vl v' : Value} {rows : List (List Nat)} {cur : List Nat} {r : Nat} {rs : List Value} {m : Nat}
    (h1 : w.ownsRow B 88 1 (.slice (some ⟨g, 0, none⟩) (rows.length + 1) c) (rows.length + 1) (rs ++ [vl])) (h2 : FinRows B m w rs rows) (h3 : B ≤ m) (h4 : m ≤ w.heap.size) (h5 : w.ownsRow m 21 1 vl cur.length (numsC .i32 cur))
    (ho : w6.ownsRow m 21 1 v' (cur.length + 1) (numsC .i32 cur ++ [.int .i32 (r : Nat)])) (hg : (w.alloc (.cells #[.int .i32 (r : Nat)] 21)).grownBy w6 vl.ownBlock) :
    (w6.cell? ⟨g, rows.length, none⟩ = some vl ∧ w6.frozen? ⟨g, rows.length, none⟩ = false) ∧ PartedSt B (w6.setCell ⟨g, rows.length, none⟩ v') (.slice (some ⟨g, 0, none⟩) (rows.length + 1) c) rows (cur ++ [r]) := by
  have hal : w.grownBy (w.alloc (.cells #[.int .i32 (r : Nat)] 21)) none := World.grownBy_alloc w _ none
  have hlt := h5.lt
  have hrl := h2.1
  have k1 : w6.ownsRow B 88 1 (.slice (some ⟨g, 0, none⟩) (rows.length + 1) c) (rows.length + 1) (rs ++ [vl]) := by
    refine (h1.alloc _).kept hg (.inr ?_)
    intro e
    obtain ⟨c1, e1⟩ := own_ty h1 g rfl
    obtain ⟨c2, e2⟩ := own_ty h5 g e.symm
    rw [e1] at e2
    simp at e2
  have hfin := (h2.grown hal (fun g e => by cases e)).grown hg fun g e => .inl (hlt g e).1
  have hs6 : m ≤ w6.heap.size := by have := hg.size; simp at this; omega
  have hat := own_atV k1 rows.length vl (by rw [← hrl]; simp)
  have hst := k1.stored rows.length v'
  have hset : (rs ++ [vl]).set rows.length v' = rs ++ [v'] := by rw [← hrl]; simp
  rw [hset] at hst
  have hgt : ∀ g', some g = some g' → m ≤ g' ∨ ∃ c T f, w6.heap[g']? = some (.cells c T f) ∧ T ≠ 21 := fun g' e => by
    cases e
    obtain ⟨c1, e1⟩ := own_ty k1 g rfl
    exact .inr ⟨c1, _, _, e1, by decide⟩
  refine ⟨hat, rs, v', m, hst.1, hfin.grown hst.2 hgt, h3, ?_, ?_⟩
  · have := hst.2.size; omega
  · have hoo : w6.ownsRow m 21 1 v' (cur ++ [r]).length (numsC .i32 (cur ++ [r])) := by simpa [numsC] using ho
    refine hoo.kept hst.2 ?_
    by_cases hv : v'.ownBlock = none
    · exact .inl hv
    · right
      intro e
      obtain ⟨c1, e1⟩ := own_ty k1 g rfl
      obtain ⟨c2, e2⟩ := own_ty hoo g e
      rw [e1] at e2
      simp at e2

theorem partSt_snoc (p : Nat → Bool) (L : List Nat) (r : Nat) : partSt p [] (L ++ [r]) = pStep p (partSt p [] L) r := by simp [partSt]

theorem partSt_le (p : Nat → Bool) (L : List Nat) : (partSt p [] L).1.length + (partSt p [] L).2.length ≤ L.length := by
  have h : ∀ (L : List Nat) (st : List (List Nat) × List Nat), (L.foldl (pStep p) st).1.length + (L.foldl (pStep p) st).2.length ≤ st.1.length + st.2.length + L.length := by
    intro L
    induction L with
    | nil => intro st; simp
    | cons r L ih =>
      intro st
      rw [List.foldl_cons]
      have h1 := ih (pStep p st r)
      have h2 : (pStep p st r).1.length + (pStep p st r).2.length ≤ st.1.length + st.2.length + 1 := by
        unfold pStep
        split
        · simp
        · simp; omega
      simp only [List.length_cons]
      omega
  have := h L ([], [])
  simpa [partSt] using this

set_option maxHeartbeats 6400000 in
theorem parted_any (lo h1 : Nat) (v : Value) (L : List Nat) (parts : ByteArray) (w : World) (h : Nums .i32 lo h1 w v L) (hh1 : h1 ≤ w.heap.size) (hl : L.length ≤ 1000000000) (hps : parts.size ≤ 1000) :
    Calls Tryd.prog 45 #[v, .string parts] w fun e w' => Below w.heap.size w w' ∧ ∃ r, e = .returned r ∧ RuneRows w.heap.size w'.heap.size w' r (partedL (fun r => (runesOf parts).contains r) L) := by
  obtain ⟨p, hp⟩ : ∃ p : Nat → Bool, (fun r => (runesOf parts).contains r) = p := ⟨_, rfl⟩
  rw [hp]
  obtain ⟨ad, cap, hsh, hc, hcell⟩ := h.open
  subst hsh
  have HH := hid h
  have HP := hid hp
  clear h hcell hp
  go_enter Tryd.func45, Tryd.ntmps45
  go_wp2
  have hb1 := (Below.refl w.heap.size w).alloc (Nat.le_refl _) (.cells #[.slice none 0 0] 88)
  have ho1 : (w.alloc (.cells #[.slice none 0 0] 88)).ownsRow w.heap.size 88 1 (.slice (some ⟨w.heap.size, 0, none⟩) 1 1) 1 [.slice none 0 0] := ⟨rfl, .inr ⟨w.heap.size, 1, #[.slice none 0 0], rfl, Nat.le_refl _, heap_alloc_new w _, Nat.le_refl _, by decide, rfl, rfl⟩⟩
  have hst0 : PartedSt w.heap.size (w.alloc (.cells #[.slice none 0 0] 88)) (.slice (some ⟨w.heap.size, 0, none⟩) 1 1) [] [] :=
    ⟨[], .slice none 0 0, (w.alloc (.cells #[.slice none 0 0] 88)).heap.size, ho1, FinRows.nil, hb1.size, Nat.le_refl _, World.ownsRow_nil _ _ _ _⟩
  obtain ⟨w1, hw1⟩ : ∃ w1, w.alloc (.cells #[.slice none 0 0] 88) = w1 := ⟨_, rfl⟩
  rw [hw1] at hb1 hst0 ⊢
  clear hw1 ho1
  have HB1 := hid hb1
  clear hb1
  go_loopw [5, 14] (fun vo iv wr => ∃ k : Nat, iv = .int .i64 k ∧ k ≤ L.length ∧ Below w.heap.size w wr ∧ PartedSt w.heap.size wr vo (partSt p [] (L.take k)).1 (partSt p [] (L.take k)).2) (fun _ iv _ => L.length - (intOf iv).toNat)
  case atStart => exact ⟨0, rfl, Nat.zero_le _, HB1.out, hst0⟩
  case round =>
    obtain ⟨wo, hwo⟩ : ∃ wo, wo = wr := ⟨_, rfl⟩
    subst hwo
    obtain ⟨k, rfl, hk, hbel, hps1⟩ := hrel
    have hlen1 : (partSt p [] (L.take k)).1.length + (partSt p [] (L.take k)).2.length ≤ k := by
      have := partSt_le p (L.take k)
      rw [List.length_take] at this
      omega
    by_cases hkl : k < L.length
    · obtain ⟨r, hr⟩ : ∃ r, L[k]? = some r := ⟨_, List.getElem?_eq_getElem hkl⟩
      have hs1 : partSt p [] (L.take (k + 1)) = pStep p (partSt p [] (L.take k)) r := by
        rw [List.take_add_one, hr]
        exact partSt_snoc p _ r
      obtain ⟨⟨rows, cur⟩, hst⟩ : ∃ st, partSt p [] (L.take k) = st := ⟨_, rfl⟩
      rw [hst] at hps1 hlen1 hs1
      dsimp only at hps1 hlen1 hs1
      obtain ⟨b, off, hsh, hbl, hbh, hc9⟩ : ∃ b off, ad = some ⟨b, off, none⟩ ∧ lo ≤ b ∧ b < h1 ∧ w.cell? ⟨b, off + k, none⟩ = some (.int .i32 (r : Nat)) := by
        obtain ⟨ad', c', e', _, hcell⟩ := HH.out.open
        obtain ⟨b, off, hb1, hb2, hb3, hb4⟩ := hcell k hkl
        have hrr : L.getD k 0 = r := by rw [List.getD_eq_getElem?_getD, hr]; rfl
        rw [hrr] at hb4
        simp only [Value.slice.injEq, true_and] at e'
        exact ⟨b, off, by rw [e'.1, hb1], hb2, hb3, hb4⟩
      subst hsh
      have hcr : wo.cell? ⟨b, off + k, none⟩ = some (.int .i32 (r : Nat)) := (hbel.cell (p := ⟨b, off + k, none⟩) (by show b < w.heap.size; omega)).trans hc9
      have f1 : (k : Int) < (L.length : Int) := by omega
      have HS1 := hid hs1
      have HBEL := hid hbel
      have HSZ := hid hbel.size
      have HST := hid hps1
      clear hs1 hst hr hc9 hbel hps1 hst0
      go_wp2
      have hk0 := World.iter_heap wo parts 0
      have hbi : Below wo.heap.size wo (wo.iter parts 0) := (Below.refl _ _).alloc (Nat.le_refl _) _
      obtain ⟨kb, hkb⟩ : ∃ kb, wo.heap.size = kb := ⟨_, rfl⟩
      obtain ⟨wi, hwi⟩ : ∃ wi, wo.iter parts 0 = wi := ⟨_, rfl⟩
      rw [hwi] at hk0 hbi ⊢
      have HKB := hid hkb
      rw [hkb] at hk0 hbi ⊢
      clear hwi hkb
      go_loopg [8] parts.size (fun gk isv wr => ∃ (pos : Nat) (pre : List Nat), gk = parts.size - pos ∧ wr.heap[kb]? = some (.stringIter parts pos) ∧ isv = .bool (pre.contains r) ∧ Below kb wo wr ∧ runesOf parts = pre ++ runesAt parts pos)
      case atStart => exact ⟨0, [], by omega, hk0, rfl, hbi, rfl⟩
      case round =>
        obtain ⟨pos, pre, hgk, hki, rfl, hbx, hru⟩ := hrel
        have HRU := hid hru
        have HGK := hid hgk
        clear hru hgk hk0 hbi
        by_cases hpp : pos < parts.size
        · have hnx := fun ty => Lib.run_next_any_at (P := Tryd.prog) wr kb parts pos ty hki hpp
          have hw := decode_width parts pos
          obtain ⟨rn, hrn⟩ : ∃ rn, (Utf8.decode parts pos).1 = rn := ⟨_, rfl⟩
          obtain ⟨wd, hwd⟩ : ∃ wd, (Utf8.decode parts pos).2 = wd := ⟨_, rfl⟩
          have hst := runesAt_step parts pos hpp
          rw [hrn, hwd] at hst hnx
          rw [hwd] at hw
          have hk2 := Lib.iterAt_heap wr kb parts pos (pos + wd) hki
          have hbel2 := Lib.below_iterAt hbx (Nat.le_refl kb) parts (pos + wd)
          have hru2 : runesOf parts = (pre ++ [rn]) ++ runesAt parts (pos + wd) := by rw [HRU.out, hst]; simp
          have hct : (pre ++ [rn]).contains r = (pre.contains r || r == rn) := by rw [Bool.eq_iff_iff]; simp
          have HCT := hid hct
          have HRU2 := hid hru2
          have HK2 := hid hk2
          have HBEL2 := hid hbel2
          obtain ⟨cb, hcb⟩ : ∃ cb, pre.contains r = cb := ⟨_, rfl⟩
          rw [hcb] at HCT ⊢
          clear hst hrn hwd hk2 hbel2 hru2 hct hcb hbx hki
          cases cb
          · by_cases hrr : r = rn
            · subst hrr
              go_wp2
              go_roundg (parts.size - (pos + wd))
              case measure => have := HGK.out; omega
              case rel => exact ⟨pos + wd, pre ++ [r], rfl, HK2.out, by rw [HCT.out]; simp, HBEL2.out, HRU2.out⟩
            · have nrr : ((r : Int) == (rn : Int)) = false := by simp; omega
              have HNE := hid hrr
              clear hrr
              go_wp2
              go_roundg (parts.size - (pos + wd))
              case measure => have := HGK.out; omega
              case rel => exact ⟨pos + wd, pre ++ [rn], rfl, HK2.out, by rw [HCT.out]; have := HNE.out; simp [this], HBEL2.out, HRU2.out⟩
          · go_wp2
            go_roundg (parts.size - (pos + wd))
            case measure => have := HGK.out; omega
            case rel => exact ⟨pos + wd, pre ++ [rn], rfl, HK2.out, by rw [HCT.out]; simp, HBEL2.out, HRU2.out⟩
        · have hnx := fun ty => Lib.run_next_end_at (P := Tryd.prog) wr kb parts pos ty hki hpp
          have he := runesAt_end parts pos hpp
          have hcn : pre.contains r = p r := by
            have e2 := HRU.out
            rw [he, List.append_nil] at e2
            rw [← HP.out, ← e2]
          rw [hcn]
          have hbo : Below wo.heap.size wo wr := by rw [HKB.out]; exact hbx
          have hbw : Below w.heap.size w wr := HBEL.out.trans (hbo.mono HBEL.out.size)
          obtain ⟨rs, vl, m, o1, o2, o3, o4, o5⟩ := HST.out.later hbo
          obtain ⟨go, co, rfl, hgl, hgh⟩ := own_nil_iff o1 (Nat.succ_pos _)
          obtain ⟨adl, cl, rfl⟩ := own_shape o5
          obtain ⟨m0, m1⟩ := own_atV o1 rows.length (.slice adl cur.length cl) (by rw [← o2.1]; simp)
          have HBW := hid hbw
          have O2 := hid o2
          have O5 := hid o5
          have HSZ2 := hid hbw.size
          clear he hcn hbo hbw hbx hki HRU
          obtain ⟨pr, hpr⟩ : ∃ pr, p r = pr := ⟨_, rfl⟩
          rw [hpr]
          cases pr
          · have hs2 : pStep p (rows, cur) r = (rows, cur ++ [r]) := if_neg (by rw [hpr]; decide)
            have HS2 := hid hs2
            have O1 := hid o1
            have f2 : ((rows.length : Nat) : Int) < ((rows.length : Nat) : Int) + 1 := by omega
            clear hs2 hpr o1
            go_wp2_with (at_builtin; refine wpl_append1 (o := ⟨some 45, _, _, _, _, _⟩) (w0 := wr) elemRunes rfl _ _ rfl m cur.length 1 1 _ (numsC .i32 cur) #[.int .i32 (r : Nat)] o5 rfl rfl rfl (by simp [Value.oneCell']) (by omega) (by decide) (by unfold maxLen; omega) (Below.refl _ _) o4 ?_; intro g6 c6 w6 ho6 hb6 hg6; obtain ⟨⟨k0, k1⟩, hfin⟩ := PartedSt.rune O1.out O2.out o3 o4 O5.out (by simpa using ho6) hg6; have HFIN := hid hfin; have HB6 := hid ((HBW.out.trans (hb6.mono o3)).setCell (p := ⟨go, rows.length, none⟩) hgl (.slice (some ⟨g6, 0, none⟩) (cur.length + 1) c6)); clear ho6 hb6 hg6 hfin)
            refine ⟨⟨k + 1, by go_num, by omega, HB6.out, ?_⟩, by simp [intOf]; omega⟩
            rw [HS1.out, HS2.out]
            exact HFIN.out
          · have hs2 : pStep p (rows, cur) r = (rows ++ [cur], []) := if_pos hpr
            have HS2 := hid hs2
            clear hs2 hpr m0 m1
            go_wp2_with (at_builtin; refine wpl_append1 (o := ⟨some 32, _, _, _, _, _⟩) elemRuneRow rfl _ _ rfl w.heap.size (rows.length + 1) 1 1 _ _ #[.slice none 0 0] o1 rfl rfl rfl (by simp [Value.oneCell']) (by omega) (by decide) (by unfold maxLen; omega) HBW.out HSZ2.out ?_; intro g6 c6 w6 ho6 hb6 hg6)
            have HFIN := hid (PartedSt.sep o1 O2.out o3 o4 O5.out (by simpa using ho6) hg6)
            have HB6 := hid hb6
            clear ho6 hb6 hg6
            refine ⟨⟨k + 1, by go_num, by omega, HB6.out, ?_⟩, by simp [intOf]; omega⟩
            rw [HS1.out, HS2.out]
            exact HFIN.out
    · obtain rfl : k = L.length := by omega
      have f1 : ¬ ((L.length : Int) < (L.length : Int)) := by omega
      rw [List.take_length] at hps1
      obtain ⟨rs, vl, m, o1, o2, o3, o4, o5⟩ := hps1
      go_wp2
      go_ret
      refine ⟨hbel, _, rfl, ?_⟩
      have hf := (o2.wide o4).snoc ((FinR.ofOwn o5).wide o3 (Nat.le_refl _))
      have hpl : (partedL p L).length = (partSt p [] L).1.length + 1 := by simp [partedL]
      rw [← hpl] at o1
      exact FinRows.rows o1 hf
end Go.Proofs.YtjjidmgeladicaaDoor

/- A row as numeral.Row tells it, with its shapes and bounds. Plain; no condition. -/
namespace Go.Proofs.YtjjidmgeladicaaDoor
open Go.RowKit

/-- limbs' lengths of the numbers of a row -/
theorem rowGoR_len (n : Nat) (hn : n ≤ 1000000000) : ∀ (P : List (List Nat × Bool)) (bad : Bool) (out : List (Bool × List Nat × Bool × List Nat)), (∀ x, x ∈ P → x.1.length ≤ n) →
    (∀ x, x ∈ out → x.2.1.length ≤ 1000000001 ∧ x.2.2.2.length ≤ 1000000001) → (∀ x, x ∈ (rowGoR bad out P).1 → x.2.1.length ≤ 1000000001 ∧ x.2.2.2.length ≤ 1000000001) ∧ (rowGoR bad out P).1.length ≤ out.length + P.length
  | [], bad, out, _, ho => by rw [rowGoR]; exact ⟨ho, by simp⟩
  | (u, true) :: P, bad, out, hp, ho => by
    rw [rowGoR]
    split
    · exact ⟨by simp, by simp⟩
    · have := rowGoR_len n hn P true out (fun x hx => hp x (List.mem_cons_of_mem _ hx)) ho
      exact ⟨this.1, by simp only [List.length_cons]; omega⟩
  | (u, false) :: P, bad, out, hp, ho => by
    rw [rowGoR]
    split
    · exact ⟨by simp, by simp⟩
    · have hu := hp (u, false) (List.mem_cons_self ..)
      have h1 := fracR_len u
      have := rowGoR_len n hn P false (out ++ [fracL (fracR u)]) (fun x hx => hp x (List.mem_cons_of_mem _ hx)) (by
        intro x hx
        rcases List.mem_append.1 hx with h | h
        · exact ho x h
        · simp only [List.mem_singleton] at h
          subst h
          dsimp only at hu
          exact ⟨Nat.le_trans h1.1 (by omega), Nat.le_trans h1.2 (by omega)⟩)
      refine ⟨this.1, ?_⟩
      have h2 := this.2
      rw [List.length_append] at h2
      simp only [List.length_cons, List.length_nil] at h2 ⊢
      omega

theorem pcsR_bd : ∀ (L : List Nat) (fr : Option (List Nat)), (∀ x, x ∈ pcsR fr L → x.1.length ≤ (fr.getD []).length + L.length) ∧ (pcsR fr L).length ≤ 2 * L.length + 1
  | [], fr => by
    rw [pcsR]
    cases fr with
    | none => simp [flushR]
    | some u => simp [flushR]
  | r :: L, fr => by
    have h0 := pcsR_bd L none
    have h1 := pcsR_bd L (some (fr.getD [] ++ [r]))
    have hf : ∀ x, x ∈ flushR fr → x.1.length ≤ (fr.getD []).length := by
      intro x hx
      cases fr with
      | none => simp [flushR] at hx
      | some u => simp only [flushR, List.mem_singleton] at hx; rw [hx]; simp
    have hfl : (flushR fr).length ≤ 1 := by cases fr <;> simp [flushR]
    simp only [Option.getD_none, List.length_nil, Option.getD_some, List.length_append, List.length_cons] at h0 h1
    rw [pcsR]
    split
    · refine ⟨?_, by simp only [List.length_append, List.length_cons]; omega⟩
      intro x hx
      rcases List.mem_append.1 hx with h | h
      · have := hf x h; omega
      · have := h0.1 x h; simp only [List.length_cons]; omega
    · split
      · refine ⟨?_, by simp only [List.length_append, List.length_cons]; omega⟩
        intro x hx
        rcases List.mem_append.1 hx with h | h
        · have := hf x h; omega
        · rcases List.mem_cons.1 h with h | h
          · rw [h]; simp
          · have := h0.1 x h; simp only [List.length_cons]; omega
      · refine ⟨?_, by simp only [List.length_cons]; omega⟩
        intro x hx
        have := h1.1 x hx
        simp only [List.length_cons]
        omega

theorem rowR_len (L : List Nat) (hL : L.length ≤ 400000000) : (∀ x, x ∈ (rowR L).1 → x.2.1.length ≤ 1000000001 ∧ x.2.2.2.length ≤ 1000000001) ∧ (rowR L).1.length ≤ 1000000000 := by
  obtain ⟨h1, h2⟩ := pcsR_bd L none
  have := rowGoR_len L.length (by omega) (pcsR none L) true [] (fun x hx => by have := h1 x hx; simpa using this) (by simp)
  refine ⟨this.1, ?_⟩
  have h3 := this.2
  simp only [List.length_nil] at h3
  unfold rowR
  omega

theorem txt_size (L : List Nat) : (txt L).size ≤ 4 * L.length := encB_len L

theorem rowTold (s : ByteArray) (w : World) (hs : s.size ≤ 400000000) (X : List (Bool × List Nat × Bool × List Nat)) (n c : Nat) (hx : rowR (runesOf s) = (X, n, c)) :
    Calls Tryd.prog 14 #[.string s] w fun e w' => Below w.heap.size w w' ∧ ∃ ad cap, e = .returned (.tuple #[.slice ad X.length cap, .int .i64 (n : Nat), .int .i64 (c : Nat)]) ∧ Fracs w.heap.size w'.heap.size w' (.slice ad X.length cap) X := by
  refine (row_any s w hs).mono ?_
  rintro e w' ⟨hb, h⟩
  rw [rowOf_R, hx] at h
  obtain ⟨r, rfl, hr⟩ := h
  obtain ⟨ad, cap, rfl⟩ := RowOf.shape hr
  exact ⟨hb, _, _, rfl, hr⟩

end Go.Proofs.YtjjidmgeladicaaDoor

/- numeral.Row: its numbers are the call's own. -/
namespace Go.Proofs.YtjjidmgeladicaaDoor
open Go.RowKit

theorem OutRow.base1 {B B' : Nat} {w : World} {v : Value} {out : List (Bool × List Nat × Bool × List Nat)} (h : OutRow B w v out) (hB : B' ≤ B) : OutRow B' w v out := by
  obtain ⟨cs, h1, h2, h3, h4⟩ := h
  exact ⟨cs, own_base h1 hB, h2, h3, fun i x c hx hc => (h4 i x c hx hc).wide hB (Nat.le_refl _)⟩

/-- a row's value, of which all is the call's own -/
def RowOwn (w w' : World) (e : Ending) (x : List (Bool × List Nat × Bool × List Nat) × Nat × Nat) : Prop :=
  ∃ r, e = .returned (.tuple #[r, .int .i64 (x.2.1 : Nat), .int .i64 (x.2.2 : Nat)]) ∧ OutRow w.heap.size w' r x.1

set_option maxHeartbeats 3200000 in
theorem row_own (s : ByteArray) (w : World) (hs : s.size ≤ 400000000) :
    Calls Tryd.prog 14 #[.string s] w fun e w' => Below w.heap.size w w' ∧ RowOwn w w' e (rowOf s) := by
  have q0 := pieces_any s w hs
  have hpl := piecesOf_len s
  have hps := piece_size s (placesAt s 0) none
  have hP0 : pcs s none (placesAt s 0) = piecesOf s := rfl
  rw [hP0] at hps
  unfold rowOf
  revert q0 hpl hps
  generalize piecesOf s = P
  intro q0 hpl hps
  obtain ⟨X, hX⟩ : ∃ X, rowGo true [] P = X := ⟨_, rfl⟩
  have HX := hid hX
  have HPS := hid hps
  have Q0 := hid q0
  rw [hX]
  clear hX hP0 q0 hps
  go_enter Tryd.func14, Tryd.ntmps14
  go_wp2_with fail
  refine Q0.out.mono ?_
  rintro e w1 ⟨hb1, r, rfl, hrow⟩
  obtain ⟨ad, cap, rfl⟩ := hrow.shape
  have HROW := hid hrow
  clear Q0 hrow
  go_wp2
  go_loopg [5, 15] P.length (fun gk ov t wr => ∃ (k : Nat) (out : List (Bool × List Nat × Bool × List Nat)), gk = P.length - k ∧ t = .int .i64 k ∧ k ≤ P.length ∧ OutRow w1.heap.size wr ov out ∧ Below w1.heap.size w1 wr ∧
      rowGo (badAt P k) out (P.drop k) = X ∧ out.length ≤ k)
  case atStart => exact ⟨0, [], by omega, rfl, Nat.zero_le _, OutRow.nil, Below.refl _ _, HX.out, Nat.le_refl _⟩
  case round =>
    obtain ⟨k, out, hgk, rfl, hk, hout, hbel, hgo, hol⟩ := hrel
    have HGK := hid hgk
    have HGO := hid hgo
    have HOUT := hid hout
    clear hgk hgo hout
    by_cases hkl : k < P.length
    · obtain ⟨⟨wd, cm⟩, hx⟩ : ∃ x, P[k]? = some x := ⟨_, List.getElem?_eq_getElem hkl⟩
      obtain ⟨b, off, cap', cs, hsh, hcap, _, hbw, _, hcs, hcell⟩ := HROW.out.at k _ hx
      simp only [Value.slice.injEq, true_and] at hsh
      obtain ⟨rfl, rfl⟩ := hsh
      have hcs : cs = pieceC (wd, cm) := hcs
      subst hcs
      have d0 : wr.cell? ⟨b, off + k * 2, none⟩ = some (.string wd) := (hbel.cell (p := ⟨b, off + k * 2, none⟩) hbw).trans (hcell 0 (by decide))
      have d1 : wr.cell? ⟨b, off + k * 2 + 1, none⟩ = some (.bool cm) := (hbel.cell (p := ⟨b, off + k * 2 + 1, none⟩) hbw).trans (hcell 1 (by decide))
      have hB0 : 0 < w1.heap.size := by omega
      have hdrop := drop_at P k _ hx
      have hgo := HGO.out
      rw [hdrop] at hgo
      have f1 : (k : Int) < (P.length : Int) := by omega
      have hwd : wd.size ≤ s.size := HPS.out _ (List.mem_of_getElem? hx)
      have HX1 := hid hx
      have hB := hbel.alloc hbel.size (.cells #[.string wd, .bool cm] 86)
      obtain ⟨hal, bp, hsz⟩ := boxA wr #[.string wd, .bool cm] 86
      clear hcell hdrop hx HX
      cases cm
      · rw [rowGo] at hgo
        obtain ⟨⟨ng, N, M, ce⟩, hy⟩ : ∃ x, fracR (runesOf wd) = x := ⟨_, rfl⟩
        rw [hy] at hgo
        have q1 : ∀ w, Calls Tryd.prog 12 #[.string wd] w fun e w' => Below w.heap.size w w' ∧ FracTold w w' e ng N M ce := fun w => readsFracB wd w (by omega) ng N M ce hy
        have Q1 := hid q1
        obtain ⟨e0, e1, j0, j1⟩ := bp.two
        have HG := hid hgo
        clear q1 hy hgo HGO
        go_wp2_with fail
        refine (Q1.out _).mono ?_
        rintro e w2 ⟨hb2, ad4, cap4, ae4, cbp4, rfl, hq, hp⟩
        have hC := hB.trans (hb2.mono (Nat.le_trans hbel.size hal.size))
        have hs2 := hb2.size
        have hout2 := (HOUT.out.later hal).later hb2
        obtain ⟨hal2, bf2, hsz2⟩ := boxA w2 #[.bool ng, .slice ad4 (toL N).length cap4, .bool false, .slice ae4 (toL M).length cbp4] 42
        have hD := hC.alloc hC.size (.cells #[.bool ng, .slice ad4 (toL N).length cap4, .bool false, .slice ae4 (toL M).length cbp4] 42)
        have hq2 := (hq.below hal2 (Nat.le_refl _)).wide (lo' := w1.heap.size) (hi' := (w2.alloc (.cells #[.bool ng, .slice ad4 (toL N).length cap4, .bool false, .slice ae4 (toL M).length cbp4] 42)).heap.size) (Nat.le_trans hbel.size hal.size) (by rw [hsz2]; omega)
        have hp2 := (hp.below hal2 (Nat.le_refl _)).wide (lo' := w1.heap.size) (hi' := (w2.alloc (.cells #[.bool ng, .slice ad4 (toL N).length cap4, .bool false, .slice ae4 (toL M).length cbp4] 42)).heap.size) (Nat.le_trans hbel.size hal.size) (by rw [hsz2]; omega)
        obtain ⟨ad5, cap5, rfl⟩ := HOUT.out.shape
        obtain ⟨cs, hown, hcl, hc4, hR⟩ := hout2.later hal2
        obtain ⟨W3, hW3⟩ : ∃ W, w2.alloc (.cells #[.bool ng, .slice ad4 (toL N).length cap4, .bool false, .slice ae4 (toL M).length cbp4] 42) = W := ⟨_, rfl⟩
        rw [hW3] at hD hq2 hp2 bf2 hown hR
        obtain ⟨⟨m0, m1, m2, m3⟩, n0, n1, n2, n3⟩ := bf2.four
        clear Q1 hq hp bp bf2 e0 e1 j0 j1 HOUT hout2 hb2 hB hC hal2 hsz2
        by_cases hce : ce = 0
        · subst hce
          have hg2 := HG.out
          rw [if_neg (by simp)] at hg2
          have HG2 := hid hg2
          have HOWN := hid hown
          have HQ := hid hq2
          have HP := hid hp2
          have HR := hid hR
          clear HG hg2 hown hq2 hp2 hR
          go_wp2_with (at_builtin; go_loud (refine wpl_append1 elemRat rfl _ _ rfl w1.heap.size out.length 1 1 _ cs.flatten #[.bool ng, .slice ad4 (toL N).length cap4, .bool false, .slice ae4 (toL M).length cbp4] HOWN.out rfl rfl rfl (by simp [Value.oneCell']) (by omega) (by decide) (by unfold maxLen; omega) hD hD.size ?_))
          intro g6 c6 w6 ho6 hb6 hg6
          have hsn := OutRow.snoc (x := fracL (ng, N, M, 0)) hB0 HOWN.out hcl hc4 HR.out HQ.out HP.out ho6 hg6
          have HSN := hid hsn
          clear hsn ho6 hg6
          go_wp2
          go_roundg (P.length - (k + 1))
          case measure => have := HGK.out; omega
          case rel =>
            refine ⟨k + 1, _, rfl, by go_num, by omega, HSN.out, hb6, ?_, by simp; omega⟩
            rw [← HG2.out]
            have : badAt P (k + 1) = false := by
              unfold badAt
              simp [List.getD_eq_getElem?_getD, HX1.out]
            rw [this]
        · have hg2 := HG.out
          rw [if_pos hce] at hg2
          have hne : (((ce : Nat) : Int) == 0) = false := by simp; omega
          have HG2 := hid hg2
          have HD := hid hD
          clear HG hg2 hD hown hR hq2 hp2
          go_wp2
          go_ret3
          rw [← HG2.out]
          exact ⟨hb1.trans (HD.out.mono hb1.size), _, rfl, OutRow.nil⟩
      · rw [rowGo] at hgo
        have HG := hid hgo
        obtain ⟨e0, e1, j0, j1⟩ := bp.two
        have HB := hid hB
        clear hgo HGO bp hal hB hsz
        rcases Nat.eq_zero_or_pos k with hk0 | hk0
        · subst hk0
          have hg2 := HG.out
          rw [if_pos (.inl (by rfl))] at hg2
          have HG2 := hid hg2
          clear HG hg2
          obtain ⟨ad5, cap5, rfl⟩ := HOUT.out.shape
          simp only [Nat.zero_mul, Nat.add_zero] at d0 d1
          go_wp2
          go_ret3
          rw [← HG2.out]
          exact ⟨hb1.trans (HB.out.mono hb1.size), _, rfl, OutRow.nil⟩
        · obtain ⟨j, rfl⟩ : ∃ j, k = j + 1 := ⟨k - 1, by omega⟩
          obtain ⟨⟨wd2, cm2⟩, hx2⟩ : ∃ x, P[j]? = some x := ⟨_, List.getElem?_eq_getElem (by omega)⟩
          obtain ⟨b', off', cap'', cs2, hsh2, _, _, hbw2, _, hcs2, hcell2⟩ := HROW.out.at j _ hx2
          simp only [Value.slice.injEq, true_and, Option.some.injEq, Addr.mk.injEq, and_true] at hsh2
          obtain ⟨⟨rfl, rfl⟩, rfl⟩ := hsh2
          have hcs2 : cs2 = pieceC (wd2, cm2) := hcs2
          subst hcs2
          have d2 : wr.cell? ⟨b, off + j * 2 + 1, none⟩ = some (.bool cm2) := (hbel.cell (p := ⟨b, off + j * 2 + 1, none⟩) hbw2).trans (hcell2 1 (by decide))
          have d3 : (wr.alloc (.cells #[.string wd, .bool true] 86)).cell? ⟨b, off + j * 2 + 1, none⟩ = some (.bool cm2) := by
            rw [World.cell?_of_block (Below.heap_alloc wr _ b (Nat.lt_of_lt_of_le hbw2 hbel.size))]
            exact d2
          have hbad : badAt P (j + 1) = cm2 := by
            unfold badAt
            simp [List.getD_eq_getElem?_getD, hx2]
          rw [hbad] at HG
          clear hcell2 hx2 hbad
          cases cm2
          · by_cases hlast : j + 2 = P.length
            · have hg2 := HG.out
              rw [if_pos (.inr (by rw [List.drop_eq_nil_iff]; omega))] at hg2
              have HG2 := hid hg2
              have hl1 : ((j : Int) + 1 == (P.length : Int) - 1) = true := by simp; omega
              clear HG hg2 hlast
              obtain ⟨ad5, cap5, rfl⟩ := HOUT.out.shape
              go_wp2
              go_ret3
              rw [← HG2.out]
              exact ⟨hb1.trans (HB.out.mono hb1.size), _, rfl, OutRow.nil⟩
            · have hg2 := HG.out
              rw [if_neg (by simp [List.drop_eq_nil_iff]; omega)] at hg2
              have HG2 := hid hg2
              have hl1 : ((j : Int) + 1 == (P.length : Int) - 1) = false := by simp; omega
              have hout2 := hid (HOUT.out.later ((boxA wr #[.string wd, .bool true] 86).1))
              clear HG hg2
              go_wp2
              go_roundg (P.length - (j + 2))
              case measure => have := HGK.out; omega
              case rel =>
                refine ⟨j + 2, out, rfl, by go_num, by omega, hout2.out, HB.out, ?_, by omega⟩
                rw [← HG2.out]
                have : badAt P (j + 2) = true := by
                  unfold badAt
                  simp [List.getD_eq_getElem?_getD, HX1.out]
                rw [this]
          · have hg2 := HG.out
            rw [if_pos (.inl (by rfl))] at hg2
            have HG2 := hid hg2
            clear HG hg2
            obtain ⟨ad5, cap5, rfl⟩ := HOUT.out.shape
            go_wp2
            go_ret3
            rw [← HG2.out]
            exact ⟨hb1.trans (HB.out.mono hb1.size), _, rfl, OutRow.nil⟩
    · obtain rfl : k = P.length := by omega
      have hgo := HGO.out
      rw [List.drop_length, rowGo] at hgo
      obtain ⟨ad5, cap5, rfl⟩ := HOUT.out.shape
      have HG := hid hgo
      clear hgo
      go_wp2
      go_ret3
      rw [← HG.out]
      exact ⟨hb1.trans (hbel.mono hb1.size), _, rfl, OutRow.base1 HOUT.out hb1.size⟩
end Go.Proofs.YtjjidmgeladicaaDoor

/- simileref02.row, Row: a row's numbers, or which one is wrong. -/
namespace Go.Proofs.YtjjidmgeladicaaDoor
open Go.RowKit

theorem runes_44 : runesOf ⟨#[44]⟩ = [44] := by rw [runesOf_B]; decide
theorem runes_59 : runesOf ⟨#[59, 10]⟩ = [59, 10] := by rw [runesOf_B]; decide
theorem parts_comma : (fun r => (runesOf ⟨#[44]⟩).contains r) = isComma := by funext r; rw [runes_44]; unfold isComma; rw [Bool.eq_iff_iff]; simp
theorem parts_end : (fun r => (runesOf ⟨#[59, 10]⟩).contains r) = isEnd := by
  funext r; rw [runes_59]; unfold isEnd; rw [Bool.eq_iff_iff]; simp

/-- what a fraction's runes tell, with its shapes -/
theorem frac02B (lo h1 : Nat) (v : Value) (L : List Nat) (w : World) (h : Nums .i32 lo h1 w v L) (hh1 : h1 ≤ w.heap.size) (hl : L.length ≤ 1000000000) (hrl : ∀ r, r ∈ L → r < 2097152) (ng : Bool) (N M cd : Nat) (hx : fracR L = (ng, N, M, cd)) :
    Calls Tryd.prog 72 #[v] w fun e w' => Below w.heap.size w w' ∧ FracTold w w' e ng N M cd := by
  refine (frac02_any lo h1 v L w h hh1 hl hrl).mono ?_
  rintro e w' ⟨hb, h⟩
  rw [hx] at h
  obtain ⟨q, p, rfl, hq, hp⟩ := h
  obtain ⟨ad, cap, rfl⟩ := hq.shape
  obtain ⟨ad2, cap2, rfl⟩ := hp.shape
  exact ⟨hb, _, _, _, _, rfl, hq, hp⟩

theorem wordsL_mem (L x : List Nat) (h : x ∈ wordsL L) : (∀ r, r ∈ x → r ∈ L) ∧ x.length ≤ L.length := by
  have key : ∀ (L : List Nat) (st : List (List Nat) × List Nat) (P : Nat → Prop) (n : Nat), (∀ y, y ∈ st.1 → (∀ r, r ∈ y → P r) ∧ y.length ≤ n) → (∀ r, r ∈ st.2 → P r) → st.2.length + L.length ≤ n → (∀ r, r ∈ L → isGap r = false → P r) →
      (∀ y, y ∈ (L.foldl wStep st).1 → (∀ r, r ∈ y → P r) ∧ y.length ≤ n) := by
    intro L
    induction L with
    | nil => intro st P n h1 _ _ _; exact h1
    | cons r L ih =>
      intro st P n h1 h2 h3 h4
      rw [List.foldl_cons]
      simp only [List.length_cons] at h3
      by_cases hg : isGap r = true
      · have e : wStep st r = (if st.2 = [] then st.1 else st.1 ++ [st.2], []) := if_pos hg
        rw [e]
        refine ih _ P n ?_ (by simp) (by simp; omega) (fun x hx => h4 x (List.mem_cons_of_mem _ hx))
        dsimp only
        intro y hy
        split at hy
        · exact h1 y hy
        · rcases List.mem_append.1 hy with h | h
          · exact h1 y h
          · simp only [List.mem_singleton] at h
            rw [h]
            exact ⟨h2, by omega⟩
      · have e : wStep st r = (st.1, st.2 ++ [r]) := if_neg hg
        rw [e]
        refine ih _ P n h1 ?_ (by simp; omega) (fun x hx => h4 x (List.mem_cons_of_mem _ hx))
        dsimp only
        intro x hx
        rcases List.mem_append.1 hx with h | h
        · exact h2 x h
        · simp only [List.mem_singleton] at h
          rw [h]
          exact h4 r (List.mem_cons_self ..) (by simpa using hg)
  have hh : ∀ y, y ∈ ((L ++ [32]).foldl wStep ([], [])).1 → (∀ r, r ∈ y → r ∈ L) ∧ y.length ≤ L.length + 1 := by
    refine key (L ++ [32]) ([], []) (fun r => r ∈ L) (L.length + 1) (by simp) (by simp) (by simp) ?_
    intro r hr hg
    rcases List.mem_append.1 hr with h | h
    · exact h
    · simp only [List.mem_singleton] at h
      subst h
      exact absurd hg (by decide)
  have h0 : x ∈ ((L ++ [32]).foldl wStep ([], [])).1 := h
  obtain ⟨h1, h2⟩ := hh x h0
  refine ⟨h1, ?_⟩
  have key2 : ∀ y, y ∈ ((L ++ [32]).foldl wStep ([], [])).1 → y.length ≤ L.length := by
    rw [List.foldl_append]
    intro y hy
    have h3 := wordSt_len L
    have e : List.foldl wStep (L.foldl wStep ([], [])) [32] = wStep (wordSt L) 32 := rfl
    rw [e] at hy
    have hk := key L ([], []) (fun _ => True) L.length (by simp) (by simp) (by simp) (by simp)
    have e2 : wStep (wordSt L) 32 = (if (wordSt L).2 = [] then (wordSt L).1 else (wordSt L).1 ++ [(wordSt L).2], []) := if_pos (by decide)
    rw [e2] at hy
    dsimp only at hy
    split at hy
    · exact (hk y hy).2
    · rcases List.mem_append.1 hy with h | h
      · exact (hk y h).2
      · simp only [List.mem_singleton] at h
        rw [h]
        omega
  exact key2 x h0

theorem wordsL_len (L : List Nat) : (wordsL L).length ≤ L.length + 1 := by
  have := wordSt_len (L ++ [32])
  simp only [List.length_append, List.length_cons, List.length_nil] at this
  unfold wordsL
  omega

theorem fracsGo_len (out : List Fr) (xs : List (List Nat)) : (fracsGo out xs).1.length ≤ out.length + xs.length := by
  induction xs generalizing out with
  | nil => simp [fracsGo]
  | cons x xs ih =>
    rw [fracsGo]
    split
    · simp
    · have := ih (out ++ [fracL (fracR x)])
      simp only [List.length_append, List.length_cons, List.length_nil] at this ⊢
      omega

set_option maxRecDepth 100000 in
set_option maxHeartbeats 12800000 in
theorem row02_any (lo h1 : Nat) (v : Value) (L : List Nat) (w : World) (h : Nums .i32 lo h1 w v L) (hh1 : h1 ≤ w.heap.size) (hl : L.length ≤ 400000000) (hrl : ∀ r, r ∈ L → r < 2097152) :
    Calls Tryd.prog 40 #[v] w fun e w' => Below w.heap.size w w' ∧ RowOwn w w' e (rowR L) := by
  have q0 := parted_any lo h1 v L ⟨#[44]⟩ w h hh1 (by omega) (by decide)
  rw [parts_comma] at q0
  have hCm : ∀ c, c ∈ partedL isComma L → c.length ≤ L.length ∧ ∀ r, r ∈ c → r < 2097152 := fun c hc => by
    have h1 := sumLen_mem _ c hc
    rw [parted_len] at h1
    exact ⟨by omega, fun r hr => hrl r (parted_mem isComma L c hc r hr)⟩
  have hCl : (partedL isComma L).length ≤ L.length + 1 := by
    have := sumLen_len (partedL isComma L)
    rw [parted_len] at this
    exact this
  rw [← rowRef_eq]
  unfold rowRef
  obtain ⟨C, hC⟩ : ∃ C, partedL isComma L = C := ⟨_, rfl⟩
  rw [hC] at q0 hCm hCl ⊢
  have hCs : sumLen C = L.length + 1 := by rw [← hC, parted_len]
  obtain ⟨X, hX⟩ : ∃ X, cellsGo (decide (1 < C.length)) [] C = X := ⟨_, rfl⟩
  rw [hX]
  have HX := hid hX
  have HCM := hid hCm
  have Q0 := hid q0
  obtain ⟨ad0, cap0, rfl⟩ : ∃ ad c, v = .slice ad L.length c := by obtain ⟨ad, c, hv, _⟩ := h.open; exact ⟨ad, c, hv⟩
  clear hC hX hCm q0 h hrl
  go_enter Tryd.func40, Tryd.ntmps40
  go_wp2_with fail
  refine Q0.out.mono ?_
  rintro e w1 ⟨hb1, r1, rfl, hrows⟩
  obtain ⟨ad, cap, rfl⟩ := RowOf.shape hrows
  have HROWS := hid hrows
  clear Q0 hrows
  go_wp2
  go_loopw [6, 18] (fun ov iv wr => ∃ (k : Nat) (out : List Fr), iv = .int .i64 k ∧ k ≤ C.length ∧ OutRow w1.heap.size wr ov out ∧ Below w1.heap.size w1 wr ∧ cellsGo (decide (1 < C.length)) out (C.drop k) = X ∧ out.length + sumLen (C.drop k) ≤ L.length + 1)
    (fun _ iv _ => C.length - (intOf iv).toNat)
  case atStart => exact ⟨0, [], rfl, Nat.zero_le _, OutRow.nil, Below.refl _ _, HX.out, by simp [hCs]⟩
  case round =>
    obtain ⟨wo, hwo⟩ : ∃ wo, wo = wr := ⟨_, rfl⟩
    subst hwo
    obtain ⟨k, out, rfl, hk, hout, hbel, hgo, hol⟩ := hrel
    have HGO := hid hgo
    have HOUT := hid hout
    clear hgo hout
    by_cases hkl : k < C.length
    · obtain ⟨c, hx⟩ : ∃ c, C[k]? = some c := ⟨_, List.getElem?_eq_getElem hkl⟩
      obtain ⟨b, off, cap', r, hsh, hcap, _, hbw, hnr, hcell⟩ := HROWS.out.at k c hx
      simp only [Value.slice.injEq, true_and] at hsh
      obtain ⟨rfl, rfl⟩ := hsh
      have d0 : wo.cell? ⟨b, off + k, none⟩ = some r := (hbel.cell (p := ⟨b, off + k, none⟩) hbw).trans hcell
      obtain ⟨hcl, hcr⟩ := HCM.out c (List.mem_of_getElem? hx)
      have hdrop := drop_at C k c hx
      have hgo := HGO.out
      rw [hdrop, cellsGo] at hgo
      rw [hdrop] at hol
      have hol2 : out.length + (c.length + 1) + sumLen (C.drop (k + 1)) ≤ L.length + 1 := by
        simp only [sumLen, List.map_cons, List.sum_cons] at hol ⊢
        omega
      have f1 : (k : Int) < (C.length : Int) := by omega
      have q1 := words_any w.heap.size w1.heap.size r c wo (hnr.below hbel (Nat.le_refl _)) hbel.size (by omega)
      obtain ⟨adr, cr, hrs⟩ : ∃ ad cp, r = .slice ad c.length cp := by obtain ⟨ad, cp, hv, _⟩ := hnr.open; exact ⟨ad, cp, hv⟩
      subst hrs
      have hwl := wordsL_len c
      have hwm : ∀ x, x ∈ wordsL c → x.length ≤ 400000000 ∧ ∀ r, r ∈ x → r < 2097152 := fun x hx => by
        obtain ⟨h1, h2⟩ := wordsL_mem c x hx
        exact ⟨by omega, fun r hr => hcr r (h1 r hr)⟩
      obtain ⟨D, hD⟩ : ∃ D, wordsL c = D := ⟨_, rfl⟩
      rw [hD] at q1 hgo hwl hwm
      have Q1 := hid q1
      have HGO1 := hid hgo
      have HWM := hid hwm
      have HBEL := hid hbel
      have HCR := hid hcr
      obtain ⟨ado, co, hos⟩ := HOUT.out.shape
      subst hos
      clear hcell hnr hdrop hgo q1 hwm hD hx hcr hol HGO hbel
      by_cases hA : D.length = 0 ∧ 1 < C.length
      · obtain ⟨hd0, hm⟩ := hA
        obtain rfl : D = [] := List.eq_nil_of_length_eq_zero hd0
        have f2 : (1 : Int) < (C.length : Int) := by omega
        have hgo := HGO1.out
        rw [if_pos ⟨rfl, by simpa using hm⟩] at hgo
        have HG := hid hgo
        clear hgo HGO1 hd0 hm
        go_wp2_with (go_at_call 71; refine Q1.out.mono ?_; rintro e w2 ⟨hb2, r2, rfl, hws⟩; obtain ⟨ad2, cap2, rfl⟩ := hws.shape)
        go_ret3
        rw [← HG.out]
        exact ⟨hb1.trans ((HBEL.out.trans (hb2.mono HBEL.out.size)).mono hb1.size), _, rfl, OutRow.nil⟩
      · have hgo := HGO1.out
        rw [if_neg (by rintro ⟨e, hm⟩; exact hA ⟨by rw [e]; rfl, by simpa using hm⟩)] at hgo
        have HG := hid hgo
        have hz : ((((D.length : Nat) : Int) == 0) = true ∧ ¬ (1 : Int) < (C.length : Int)) ∨ (((D.length : Nat) : Int) == 0) = false := by
          by_cases h0 : D.length = 0
          · exact .inl ⟨beq_iff_eq.2 (by omega), by omega⟩
          · exact .inr (beq_eq_false_iff_ne.2 (by omega))
        clear hgo HGO1 hA
        rcases hz with ⟨hz, f2⟩ | hz
        all_goals
          go_wp2_with (go_at_call 71; refine Q1.out.mono ?_; clear Q1; rintro e w2 ⟨hb2, r2, rfl, hws⟩; obtain ⟨ad2, cap2, rfl⟩ := hws.shape)
          have HWS := hid hws
          have hbo := HBEL.out.trans (hb2.mono HBEL.out.size)
          have hou := HOUT.out.later hb2
          have HBO := hid hbo
          have HOU := hid hou
          clear hws hb2 hbo hou hz HOUT HBEL d0
          obtain ⟨Y, hY⟩ : ∃ Y, fracsGo out D = Y := ⟨_, rfl⟩
          rw [hY] at HG
          have HY := hid hY
          clear hY
          go_loopw [6, 37] (fun ov iv wr => ∃ (j : Nat) (out2 : List Fr), iv = .int .i64 j ∧ j ≤ D.length ∧ OutRow w1.heap.size wr ov out2 ∧ (Below w1.heap.size w1 wr ∧ OwnRows wo.heap.size wr (.slice ad2 D.length cap2) D) ∧ fracsGo out2 (D.drop j) = Y ∧ out2.length ≤ out.length + j) (fun _ iv _ => D.length - (intOf iv).toNat)
          case atStart => exact ⟨0, out, rfl, Nat.zero_le _, HOU.out, ⟨HBO.out, HWS.out⟩, HY.out, Nat.le_refl _⟩
          case round =>
            obtain ⟨j, out2, rfl, hj, hou2, ⟨hbl1, hws2⟩, hg2, hol3⟩ := hrel
            have hB0 : 0 < w1.heap.size := by omega
            have HWS2 := hid hws2
            clear hws2
            have HG2 := hid hg2
            have HOUT2 := hid hou2
            clear hg2 hou2
            by_cases hjl : j < D.length
            · obtain ⟨x, hx⟩ : ∃ x, D[j]? = some x := ⟨_, List.getElem?_eq_getElem hjl⟩
              obtain ⟨b2, off2, cp2, r, hsh2, _, _, hbw2, hnr, d1⟩ := HWS2.out.rows.at j x hx
              simp only [Value.slice.injEq, true_and] at hsh2
              obtain ⟨rfl, rfl⟩ := hsh2
              obtain ⟨hxl, hxr⟩ := HWM.out x (List.mem_of_getElem? hx)
              have hdrop := drop_at D j x hx
              have hg3 := HG2.out
              rw [hdrop, fracsGo] at hg3
              obtain ⟨⟨ng, N, M, ce⟩, hy⟩ : ∃ y, fracR x = y := ⟨_, rfl⟩
              have q2 := frac02B _ _ r x wr hnr (Nat.le_refl _) (by omega) hxr ng N M ce hy
              rw [hy] at hg3
              have Q2 := hid q2
              have HG3 := hid hg3
              have HBL1 := hid hbl1
              obtain ⟨adr2, cr2, hrs2⟩ : ∃ ad cp, r = .slice ad x.length cp := by obtain ⟨ad, cp, hv, _⟩ := hnr.open; exact ⟨ad, cp, hv⟩
              subst hrs2
              have f3 : (j : Int) < (D.length : Int) := by omega
              obtain ⟨ad5, cap5, hos5⟩ := HOUT2.out.shape
              subst hos5
              have hs1 := hbl1.size
              clear hnr hx hdrop hg3 hy q2 hxr hbl1
              go_wp2_with fail
              refine Q2.out.mono ?_
              clear Q2
              rintro e w3 ⟨hb3, ad4, cap4, ae4, cbp4, rfl, hq, hp⟩
              have hC := HBL1.out.trans (hb3.mono hs1)
              have hw3 := HWS2.out.later hb3
              have hout2 := HOUT2.out.later hb3
              obtain ⟨hal2, bf2, hsz2⟩ := boxA w3 #[.bool ng, .slice ad4 (toL N).length cap4, .bool false, .slice ae4 (toL M).length cbp4] 42
              have hD := hC.alloc hC.size (.cells #[.bool ng, .slice ad4 (toL N).length cap4, .bool false, .slice ae4 (toL M).length cbp4] 42)
              have hw4 := hw3.later hal2
              have hq2 := (hq.below hal2 (Nat.le_refl _)).wide (lo' := w1.heap.size) (hi' := (w3.alloc (.cells #[.bool ng, .slice ad4 (toL N).length cap4, .bool false, .slice ae4 (toL M).length cbp4] 42)).heap.size) hs1 (by rw [hsz2]; omega)
              have hp2 := (hp.below hal2 (Nat.le_refl _)).wide (lo' := w1.heap.size) (hi' := (w3.alloc (.cells #[.bool ng, .slice ad4 (toL N).length cap4, .bool false, .slice ae4 (toL M).length cbp4] 42)).heap.size) hs1 (by rw [hsz2]; omega)
              obtain ⟨cs, hown, hcl4, hc4, hR⟩ := hout2.later hal2
              obtain ⟨W3, hW3⟩ : ∃ W, w3.alloc (.cells #[.bool ng, .slice ad4 (toL N).length cap4, .bool false, .slice ae4 (toL M).length cbp4] 42) = W := ⟨_, rfl⟩
              rw [hW3] at hD hw4 hq2 hp2 bf2 hown hR
              obtain ⟨⟨m0, m1, m2, m3⟩, n0, n1, n2, n3⟩ := bf2.four
              clear hq hp bf2 HOUT2 hout2 hb3 hC hw3 hal2 hsz2 HWS2
              by_cases hce : ce = 0
              · subst hce
                have hg5 := HG3.out
                rw [if_neg (by simp)] at hg5
                have HG5 := hid hg5
                have HOWN := hid hown
                have HQ := hid hq2
                have HP := hid hp2
                have HR := hid hR
                have HCL4 := hid hcl4
                have HC4 := hid hc4
                have HW4 := hid hw4
                clear HG3 hg5 hown hq2 hp2 hR hcl4 hc4 hw4
                go_wp2_with (at_builtin; refine wpl_append1 elemRat rfl _ _ rfl w1.heap.size out2.length 1 1 _ cs.flatten #[.bool ng, .slice ad4 (toL N).length cap4, .bool false, .slice ae4 (toL M).length cbp4] HOWN.out rfl rfl rfl (by simp [Value.oneCell']) (by omega) (by decide) (by unfold maxLen; omega) hD hD.size ?_)
                intro g6 c6 w6 ho6 hb6 hg6
                have hsn := OutRow.snoc (x := fracL (ng, N, M, 0)) hB0 HOWN.out HCL4.out HC4.out HR.out HQ.out HP.out ho6 hg6
                have hw6 := (HW4.out.later ((Below.refl _ _).alloc (Nat.le_refl _) (.cells #[.bool ng, .slice ad4 (toL N).length cap4, .bool false, .slice ae4 (toL M).length cbp4] 42))).grown hg6 (fun g e => by
                  obtain ⟨c9, e9⟩ := own_ty (HOWN.out.alloc _) g e
                  exact ⟨c9, _, _, e9, by decide, by decide⟩)
                have HSN := hid hsn
                have HW6 := hid hw6
                have HB6 := hid hb6
                clear hsn hw6 hb6 ho6 hg6 m0 m1 m2 m3 n0 n1 n2 n3
                go_wp2
                go_roundw
                case rel => exact ⟨j + 1, _, by go_num, by omega, HSN.out, ⟨HB6.out, HW6.out⟩, HG5.out, by simp; omega⟩
                case measure => simp [intOf]; omega
              · have hg5 := HG3.out
                rw [if_pos hce] at hg5
                have hne : (((ce : Nat) : Int) != 0) = true := by simp; omega
                have hgo := HG.out
                rw [← hg5, if_pos hce] at hgo
                have HGO := hid hgo
                have HD := hid hD
                clear HG HG3 hg5 hD hw4 hown hR hq2 hp2 hgo hcl4 hc4
                go_wp2
                go_ret3
                rw [← HGO.out]
                exact ⟨hb1.trans (HD.out.mono hb1.size), _, rfl, OutRow.nil⟩
            · obtain rfl : j = D.length := by omega
              have hg3 := HG2.out
              rw [List.drop_length, fracsGo] at hg3
              have hg4 := HG.out
              rw [← hg3] at hg4
              simp only [ne_eq, not_true_eq_false, if_false] at hg4
              have HG4 := hid hg4
              have HBL1 := hid hbl1
              obtain ⟨ad5, cap5, hos5⟩ := HOUT2.out.shape
              subst hos5
              clear hg3 hg4 HG hbl1
              go_wp2
              go_roundw
              case rel => exact ⟨k + 1, out2, by go_num, by omega, HOUT2.out, HBL1.out, HG4.out, by omega⟩
              case measure => simp [intOf]; omega
    · obtain rfl : k = C.length := by omega
      have hgo := HGO.out
      rw [List.drop_length, cellsGo] at hgo
      obtain ⟨ado, co, rfl⟩ := HOUT.out.shape
      have HG := hid hgo
      clear hgo
      go_wp2
      go_ret3
      rw [← HG.out]
      exact ⟨hb1.trans (hbel.mono hb1.size), _, rfl, OutRow.base1 HOUT.out hb1.size⟩

set_option maxHeartbeats 1600000 in
/-- simileref02.Row -/
theorem rowText02_any (s : ByteArray) (w : World) (hs : s.size ≤ 400000000) :
    Calls Tryd.prog 16 #[.string s] w fun e w' => Below w.heap.size w w' ∧ RowOwn w w' e (rowR (runesOf s)) := by
  have hrl := runesAt_len s 0
  have hrs : (runesOf s).length ≤ 400000000 := by unfold runesOf; omega
  have hrb : ∀ r, r ∈ runesOf s → r < 2097152 := runesAt_lt s 0
  have Q1 := hid (runes02_any s w (by omega))
  go_enter Tryd.func16, Tryd.ntmps16
  go_wp2_with fail
  refine Q1.out.mono ?_
  rintro e w1 ⟨r, rfl, hn, hb1⟩
  have Q2 := hid (row02_any _ _ r _ w1 hn (Nat.le_refl _) hrs hrb)
  clear Q1 hn hrb
  go_wp2_with fail
  refine Q2.out.mono ?_
  rintro e w2 ⟨hb2, r2, rfl, hx⟩
  have HX := hid hx
  obtain ⟨ad, cap, hsh⟩ := hx.shape
  clear Q2 hx
  subst hsh
  go_wp2
  go_ret3
  exact ⟨hb1.trans (hb2.mono hb1.size), _, rfl, OutRow.base1 HX.out hb1.size⟩
end Go.Proofs.YtjjidmgeladicaaDoor

/- Rows of fractions that a call has made, each in blocks of its own. Plain; no condition. -/
namespace Go.Proofs.YtjjidmgeladicaaDoor
open Go.RowKit

theorem elemFracRow : Elem Tryd.prog 52 35 (.slice none 0 0) 1 24 :=
  ⟨Tryd.underlying52, by kernel_rfl, rfl, by decide⟩

/-- a row of fractions that lies, with its numbers, in blocks from lo on, below hi -/
def RowIn (lo hi : Nat) (w : World) (v : Value) (out : List Fr) : Prop :=
  ∃ cs : List (List Value), w.ownsRow lo 42 4 v out.length cs.flatten ∧ (∀ b, v.ownBlock = some b → b < hi) ∧ cs.length = out.length ∧ (∀ c, c ∈ cs → c.length = 4) ∧
    ∀ (i : Nat) (x : Fr) (c : List Value), out[i]? = some x → cs[i]? = some c → FracCells lo hi w x c

theorem RowIn.ofOut {B : Nat} {w : World} {v : Value} {out : List Fr} (h : OutRow B w v out) : RowIn B w.heap.size w v out := by
  obtain ⟨cs, h1, h2, h3, h4⟩ := h
  exact ⟨cs, h1, fun b hb => (h1.lt b hb).2, h2, h3, h4⟩

theorem RowIn.wide {lo hi lo' hi' : Nat} {w : World} {v : Value} {out : List Fr} (h : RowIn lo hi w v out) (h1 : lo' ≤ lo) (h2 : hi ≤ hi') : RowIn lo' hi' w v out := by
  obtain ⟨cs, g1, g2, g3, g4, g5⟩ := h
  exact ⟨cs, own_base g1 h1, fun b hb => Nat.lt_of_lt_of_le (g2 b hb) h2, g3, g4, fun i x c hx hc => (g5 i x c hx hc).wide h1 h2⟩

theorem RowIn.shape {lo hi : Nat} {w : World} {v : Value} {out : List Fr} (h : RowIn lo hi w v out) : ∃ ad cap, v = .slice ad out.length cap := by
  obtain ⟨cs, h1, _⟩ := h
  exact own_shape h1

theorem RowIn.grown {lo hi : Nat} {w w' : World} {v : Value} {out : List Fr} {row : Option Nat} (h : RowIn lo hi w v out) (h0 : 0 < lo) (hg : w.grownBy w' row)
    (hr : ∀ g, row = some g → hi ≤ g ∨ ∃ c T f, w.heap[g]? = some (.cells c T f) ∧ T ≠ 96 ∧ T ≠ 42) : RowIn lo hi w' v out := by
  obtain ⟨cs, g1, g2, g3, g4, g5⟩ := h
  refine ⟨cs, g1.kept hg ?_, g2, g3, g4, fun i x c hx hc => ?_⟩
  · by_cases hv : v.ownBlock = none
    · exact .inl hv
    · right
      intro e
      obtain ⟨g, hgg⟩ := Option.ne_none_iff_exists'.1 hv
      obtain ⟨c1, e1⟩ := own_ty g1 g hgg
      rcases hr g (e ▸ hgg) with h3 | ⟨c, T, f, e2, _, e3⟩
      · have := g2 g hgg; omega
      · rw [e1] at e2
        simp at e2
        exact e3 e2.2.1.symm
  · obtain ⟨q, p, rfl, hq, hp⟩ := g5 i x c hx hc
    have hl : ∀ {u : Value} {xs : List Nat}, Limbs lo hi w u xs → Limbs lo hi w' u xs := fun {u xs} h => by
      obtain ⟨ad, cap, hv, hc, hn, hx, hne⟩ := h
      refine ⟨ad, cap, hv, hc, hn, hx, fun hp => ?_⟩
      obtain ⟨b, off, ha, hlb, hhb, hcell, hu⟩ := hne hp
      obtain ⟨cur, hb⟩ := hu h0
      have hk : w'.heap[b]? = w.heap[b]? := by
        refine hg.block b (Array.getElem?_eq_some_iff.1 hb).1 fun e => ?_
        rcases hr b e.symm with h3 | ⟨c, T, f, e2, e3, _⟩
        · omega
        · rw [hb] at e2
          simp at e2
          exact e3 e2.2.1.symm
      exact ⟨b, off, ha, hlb, hhb, fun i hi => (World.cell?_of_block hk).trans (hcell i hi), fun _ => ⟨cur, hk.trans hb⟩⟩
    exact ⟨q, p, rfl, hl hq, hl hp⟩

theorem RowIn.later {lo hi : Nat} {w w' : World} {v : Value} {out : List Fr} (h : RowIn lo hi w v out) (h0 : 0 < lo) (hb : Below w.heap.size w w') : RowIn lo hi w' v out :=
  h.grown (row := none) h0 ⟨hb.os, hb.tape, hb.output, hb.size, fun k hk _ => hb.block k hk⟩ (fun g e => by cases e)

theorem RowIn.fracs {lo hi : Nat} {w : World} {v : Value} {out : List Fr} (h : RowIn lo hi w v out) (hh : hi ≤ w.heap.size) : Fracs lo w.heap.size w v out := by
  obtain ⟨cs, g1, g2, g3, g4, g5⟩ := h
  exact RowOf.ofOwn (by decide) g1 g3 g4 (fun i x c hx hc => (g5 i x c hx hc).wide (Nat.le_refl _) hh)

/-- rows of fractions in a row, with the bounds f between them -/
def MatParts (B : Nat) (w : World) (v : Value) (m : List (List Fr)) (rs : List Value) (f : Nat → Nat) : Prop :=
  w.ownsRow B 35 1 v m.length rs ∧ rs.length = m.length ∧ B ≤ f 0 ∧ (∀ i, f i ≤ f (i + 1)) ∧ f m.length ≤ w.heap.size ∧
    ∀ (i : Nat) (x : List Fr) (r : Value), m[i]? = some x → rs[i]? = some r → RowIn (f i) (f (i + 1)) w r x

theorem MatParts.mono {B : Nat} {w : World} {v : Value} {m : List (List Fr)} {rs : List Value} {f : Nat → Nat} (h : MatParts B w v m rs f) : ∀ i j, i ≤ j → f i ≤ f j := by
  intro i j hij
  obtain ⟨d, rfl⟩ := Nat.exists_eq_add_of_le hij
  induction d with
  | zero => exact Nat.le_refl _
  | succ d ih => exact Nat.le_trans (ih (by omega)) (h.2.2.2.1 _)

theorem MatParts.nil {B : Nat} {w : World} (hB : B ≤ w.heap.size) : MatParts B w (.slice none 0 0) [] [] (fun _ => B) :=
  ⟨World.ownsRow_nil _ _ _ _, rfl, Nat.le_refl _, fun _ => Nat.le_refl _, hB, by simp⟩

theorem MatParts.grown {B : Nat} {w w' : World} {v : Value} {m : List (List Fr)} {rs : List Value} {f : Nat → Nat} {row : Option Nat} (h : MatParts B w v m rs f) (h0 : 0 < B) (hg : w.grownBy w' row)
    (hr : ∀ g, row = some g → ∃ c T f, w.heap[g]? = some (.cells c T f) ∧ T ≠ 96 ∧ T ≠ 42 ∧ T ≠ 35) : MatParts B w' v m rs f := by
  have hm := h.mono
  obtain ⟨h1, h2, h3, h4, h5, h6⟩ := h
  refine ⟨h1.kept hg ?_, h2, h3, h4, Nat.le_trans h5 hg.size, fun i x r hx hrr => (h6 i x r hx hrr).grown (by have := hm 0 i (Nat.zero_le _); omega) hg fun g e => ?_⟩
  · by_cases hv : v.ownBlock = none
    · exact .inl hv
    · right
      intro e
      obtain ⟨g, hgg⟩ := Option.ne_none_iff_exists'.1 hv
      obtain ⟨c1, e1⟩ := own_ty h1 g hgg
      obtain ⟨c, T, f, e2, _, _, e3⟩ := hr g (e ▸ hgg)
      rw [e1] at e2
      simp at e2
      exact e3 e2.2.1.symm
  · obtain ⟨c, T, f, e2, e3, e4, _⟩ := hr g e
    exact .inr ⟨c, T, f, e2, e3, e4⟩

theorem MatParts.later {B : Nat} {w w' : World} {v : Value} {m : List (List Fr)} {rs : List Value} {f : Nat → Nat} (h : MatParts B w v m rs f) (h0 : 0 < B) (hb : Below w.heap.size w w') : MatParts B w' v m rs f :=
  h.grown (row := none) h0 ⟨hb.os, hb.tape, hb.output, hb.size, fun k hk _ => hb.block k hk⟩ (fun g e => by cases e)

theorem MatParts.one {B : Nat} {w : World} {v : Value} {m : List (List Fr)} {rs : List Value} {f : Nat → Nat} (h : MatParts B w v m rs f) : ∀ u, u ∈ rs → u.oneCell' = true := by
  intro u hu
  obtain ⟨i, hi, rfl⟩ := List.mem_iff_getElem.1 hu
  have h1 := h.2.1
  obtain ⟨ad, cap, e⟩ := (h.2.2.2.2.2 i _ _ (List.getElem?_eq_getElem (by omega)) (List.getElem?_eq_getElem hi)).shape
  rw [e]; rfl

/-- one row more -/
theorem MatParts.snoc {B : Nat} {w w2 w6 : World} {vo v' r : Value} {m : List (List Fr)} {x : List Fr} {rs : List Value} {f : Nat → Nat} (h : MatParts B w vo m rs f) (h0 : 0 < B) (hb : Below w.heap.size w w2)
    (hr : OutRow w.heap.size w2 r x) (ho : w6.ownsRow B 35 1 v' (m.length + 1) (rs ++ [r])) (hg : (w2.alloc (.cells #[r] 35)).grownBy w6 vo.ownBlock) :
    ∃ f', MatParts B w6 v' (m ++ [x]) (rs ++ [r]) f' := by
  have hm := h.mono
  have hl2 := h.later h0 hb
  have hal : Below w2.heap.size w2 (w2.alloc (.cells #[r] 35)) := (Below.refl _ _).alloc (Nat.le_refl _) _
  have hl3 := hl2.later h0 hal
  have hty : ∀ g, vo.ownBlock = some g → ∃ c T f, (w2.alloc (.cells #[r] 35)).heap[g]? = some (.cells c T f) ∧ T ≠ 96 ∧ T ≠ 42 := fun g e => by
    obtain ⟨c, hc⟩ := own_ty hl3.1 g e
    exact ⟨c, _, _, hc, by decide, by decide⟩
  have hs6 : w2.heap.size ≤ w6.heap.size := Nat.le_trans hal.size hg.size
  obtain ⟨h1, h2, h3, h4, h5, h6⟩ := h
  have hfm : f m.length ≤ w2.heap.size := Nat.le_trans h5 hb.size
  refine ⟨fun i => if i ≤ m.length then f i else w2.heap.size, by simpa using ho, by simp [h2], ?_, ?_, ?_, ?_⟩
  · simpa using h3
  · intro i
    dsimp only
    split
    · split
      · exact h4 i
      · exact Nat.le_trans (hm i m.length (by omega)) hfm
    · split
      · omega
      · exact Nat.le_refl _
  · simp only [List.length_append, List.length_cons, List.length_nil]
    rw [if_neg (by omega)]
    exact hs6
  · intro i y u hy hu
    dsimp only
    rcases Nat.lt_or_ge i m.length with hi | hi
    · rw [List.getElem?_append_left hi] at hy
      rw [List.getElem?_append_left (by omega)] at hu
      rw [if_pos (by omega), if_pos (by omega)]
      exact (hl3.2.2.2.2.2 i y u hy hu).grown (by have := hm 0 i (Nat.zero_le _); omega) hg fun g e => .inr (hty g e)
    · rw [List.getElem?_append_right hi] at hy
      rw [List.getElem?_append_right (by omega), h2] at hu
      obtain ⟨j, hj⟩ : ∃ j, i - m.length = j := ⟨_, rfl⟩
      rw [hj] at hy hu
      cases j with
      | zero =>
        simp only [List.getElem?_cons_zero, Option.some.injEq] at hy hu
        subst hy hu
        have e : i = m.length := by omega
        subst e
        rw [if_pos (Nat.le_refl _), if_neg (by omega)]
        have hw0 : 0 < w.heap.size := by have := hm 0 m.length (Nat.zero_le _); omega
        exact (((RowIn.ofOut hr).later hw0 hal).grown hw0 hg fun g e => .inr (hty g e)).wide h5 (Nat.le_refl _)
      | succ j => simp at hy

def MatOwn (B : Nat) (w : World) (v : Value) (m : List (List Fr)) : Prop := ∃ rs f, MatParts B w v m rs f

theorem MatOwn.shape {B : Nat} {w : World} {v : Value} {m : List (List Fr)} (h : MatOwn B w v m) : ∃ ad cap, v = .slice ad m.length cap := by
  obtain ⟨rs, f, h1, _⟩ := h
  exact own_shape h1

theorem MatOwn.later {B : Nat} {w w' : World} {v : Value} {m : List (List Fr)} (h : MatOwn B w v m) (h0 : 0 < B) (hb : Below w.heap.size w w') : MatOwn B w' v m := by
  obtain ⟨rs, f, h1⟩ := h
  exact ⟨rs, f, h1.later h0 hb⟩

theorem MatOwn.base {B B' : Nat} {w : World} {v : Value} {m : List (List Fr)} (h : MatOwn B w v m) (hB : B' ≤ B) : MatOwn B' w v m := by
  obtain ⟨rs, f, h1, h2, h3, h4⟩ := h
  exact ⟨rs, f, own_base h1 hB, h2, Nat.le_trans hB h3, h4⟩

theorem MatOwn.nil {B : Nat} {w : World} (hB : B ≤ w.heap.size) : MatOwn B w (.slice none 0 0) [] := ⟨_, _, MatParts.nil hB⟩

/-- a matrix' value -/
def MatTold (w w' : World) (e : Ending) (x : List (List Fr) × Nat × Nat × Nat) : Prop :=
  ∃ r, e = .returned (.tuple #[r, .int .i64 (x.2.1 : Nat), .int .i64 (x.2.2.1 : Nat), .int .i64 (x.2.2.2 : Nat)]) ∧ MatOwn w.heap.size w' r x.1

set_option maxRecDepth 100000 in
set_option maxHeartbeats 6400000 in
/-- simileref02.Matrix -/
theorem matrix02_any (s : ByteArray) (w : World) (hs : s.size ≤ 400000000) (h0 : 0 < w.heap.size) :
    Calls Tryd.prog 18 #[.string s] w fun e w' => Below w.heap.size w w' ∧ MatTold w w' e (matR (runesOf s)) := by
  have hrl := runesAt_len s 0
  have hrs : (runesOf s).length ≤ 400000000 := by unfold runesOf; omega
  have hrb : ∀ r, r ∈ runesOf s → r < 2097152 := runesAt_lt s 0
  have Q1 := hid (runes02_any s w (by omega))
  have hCm : ∀ c, c ∈ partedL isEnd (runesOf s) → c.length ≤ 400000000 ∧ ∀ r, r ∈ c → r < 2097152 := fun c hc => by
    have h1 := sumLen_mem _ c hc
    rw [parted_len] at h1
    exact ⟨by omega, fun r hr => hrb r (parted_mem isEnd _ c hc r hr)⟩
  have hCl : (partedL isEnd (runesOf s)).length ≤ 400000001 := by
    have := sumLen_len (partedL isEnd (runesOf s))
    rw [parted_len] at this
    omega
  have Q2 := hid fun (r : Value) (w1 : World) (hn : Nums .i32 w.heap.size w1.heap.size w1 r (runesOf s)) => parted_any _ _ r _ ⟨#[59, 10]⟩ w1 hn (Nat.le_refl _) (by omega) (by decide)
  rw [parts_end] at Q2
  unfold matR
  obtain ⟨C, hC⟩ : ∃ C, partedL isEnd (runesOf s) = C := ⟨_, rfl⟩
  rw [hC] at hCm hCl Q2 ⊢
  obtain ⟨X, hX⟩ : ∃ X, matGo [] C = X := ⟨_, rfl⟩
  rw [hX]
  have HX := hid hX
  have HCM := hid hCm
  clear hC hX hCm hrl hrs hrb
  go_enter Tryd.func18, Tryd.ntmps18
  go_wp2_with fail
  refine Q1.out.mono ?_
  rintro e w0 ⟨r0, rfl, hn, hb0⟩
  have Q3 := hid (Q2.out r0 w0 hn)
  clear Q1 Q2 hn
  go_wp2_with fail
  refine Q3.out.mono ?_
  rintro e w1 ⟨hb01, r1, rfl, hrows⟩
  have hb1 := hb0.trans (hb01.mono hb0.size)
  obtain ⟨ad, cap, rfl⟩ := RowOf.shape hrows
  have HROWS := hid hrows
  clear Q3 hrows hb0 hb01
  go_wp2
  go_loopw [6, 16] (fun ov iv wr => ∃ (k : Nat) (out : List (List Fr)), iv = .int .i64 k ∧ k ≤ C.length ∧ MatOwn w1.heap.size wr ov out ∧ Below w1.heap.size w1 wr ∧ matGo out (C.drop k) = X ∧ out.length = k)
    (fun _ iv _ => C.length - (intOf iv).toNat)
  case atStart => exact ⟨0, [], rfl, Nat.zero_le _, MatOwn.nil (Nat.le_refl _), Below.refl _ _, HX.out, rfl⟩
  case round =>
    obtain ⟨k, out, rfl, hk, hout, hbel, hgo, hol⟩ := hrel
    have HGO := hid hgo
    have HOUT := hid hout
    have HOL := hid hol
    have hol2 : out.length ≤ 400000001 := by omega
    clear hgo hout hol
    by_cases hkl : k < C.length
    · obtain ⟨c, hx⟩ : ∃ c, C[k]? = some c := ⟨_, List.getElem?_eq_getElem hkl⟩
      obtain ⟨b, off, cap', r, hsh, hcap, _, hbw, hnr, hcell⟩ := HROWS.out.at k c hx
      simp only [Value.slice.injEq, true_and] at hsh
      obtain ⟨rfl, rfl⟩ := hsh
      have d0 : wr.cell? ⟨b, off + k, none⟩ = some r := (hbel.cell (p := ⟨b, off + k, none⟩) hbw).trans hcell
      obtain ⟨hcl, hcr⟩ := HCM.out c (List.mem_of_getElem? hx)
      have hdrop := drop_at C k c hx
      have hgo := HGO.out
      rw [hdrop, matGo] at hgo
      have f1 : (k : Int) < (C.length : Int) := by omega
      have q1 := row02_any _ _ r c wr (hnr.below hbel (Nat.le_refl _)) hbel.size hcl hcr
      obtain ⟨adr, cr, hrs⟩ : ∃ ad cp, r = .slice ad c.length cp := by obtain ⟨ad, cp, hv, _⟩ := hnr.open; exact ⟨ad, cp, hv⟩
      subst hrs
      obtain ⟨⟨RL, RN, RC⟩, hy⟩ : ∃ y, rowR c = y := ⟨_, rfl⟩
      rw [hy] at q1 hgo
      have Q1 := hid q1
      have HGO1 := hid hgo
      have HBEL := hid hbel
      have hsb := hbel.size
      obtain ⟨ado, co, hos⟩ := HOUT.out.shape
      subst hos
      clear hcell hnr hdrop hgo q1 hx hcr HGO hbel hy
      go_wp2_with fail
      refine Q1.out.mono ?_
      clear Q1
      rintro e w2 ⟨hb2, r2, rfl, hr2⟩
      obtain ⟨ad2, cap2, rfl⟩ := hr2.shape
      have HR2 := hid hr2
      have hC := HBEL.out.trans (hb2.mono hsb)
      have HC := hid hC
      have hB0 : 0 < w1.heap.size := by have := hb1.size; omega
      by_cases hce : RC = 0
      · subst hce
        have hg5 := HGO1.out
        rw [if_neg (by simp)] at hg5
        have HG5 := hid hg5
        obtain ⟨rs, f, hparts⟩ := HOUT.out
        have HPARTS := hid hparts
        have HOWN := hid (hparts.later hB0 hb2).1
        have HB2 := hid hb2
        clear HGO1 hg5 hparts hr2 hC hb2
        go_wp2_with (at_builtin; refine wpl_append1 elemFracRow rfl _ _ rfl w1.heap.size out.length 1 1 _ rs #[.slice ad2 RL.length cap2] HOWN.out rfl rfl rfl (by simp [Value.oneCell']) (by omega) (by decide) (by unfold maxLen; omega) HC.out HC.out.size ?_)
        intro g6 c6 w6 ho6 hb6 hg6
        have hsn := HPARTS.out.snoc hB0 HB2.out HR2.out (by simpa using ho6) hg6
        have HSN := hid hsn
        have HB6 := hid hb6
        clear hsn ho6 hb6 hg6
        go_wp2
        go_roundw
        case rel =>
          obtain ⟨f', hf'⟩ := HSN.out
          exact ⟨k + 1, out ++ [RL], by go_num, by omega, ⟨_, _, by simpa using hf'⟩, HB6.out, HG5.out, by have := HOL.out; simp; omega⟩
        case measure => simp [intOf]; omega
      · have hg5 := HGO1.out
        rw [if_pos hce] at hg5
        have hne : (((RC : Nat) : Int) != 0) = true := by simp; omega
        have HG5 := hid hg5
        clear HGO1 hg5 hr2 hC hb2
        go_wp2
        exact bodyPost_ret (v := .tuple #[.slice none 0 0, .int .i64 ((k : Int) + 1), .int .i64 (RN : Nat), .int .i64 (RC : Nat)]) (by simp [results, Tryd.results18, go_sem]) rfl ⟨hb1.trans (HC.out.mono hb1.size), by
          rw [← HG5.out]
          have := HOL.out
          refine ⟨_, ?_, MatOwn.nil (Nat.le_trans hb1.size HC.out.size)⟩
          simp [this]⟩
    · obtain rfl : k = C.length := by omega
      have hgo := HGO.out
      rw [List.drop_length, matGo] at hgo
      obtain ⟨ado, co, hos⟩ := HOUT.out.shape
      subst hos
      have HG := hid hgo
      have HBEL := hid hbel
      clear hgo hbel
      go_wp2
      exact bodyPost_ret (v := .tuple #[.slice ado out.length co, .int .i64 0, .int .i64 0, .int .i64 0]) (by simp [results, Tryd.results18, go_sem]) rfl ⟨hb1.trans (HBEL.out.mono hb1.size), by
        rw [← HG.out]
        exact ⟨_, rfl, HOUT.out.base hb1.size⟩⟩
end Go.Proofs.YtjjidmgeladicaaDoor

/- numeral.Matrix: a matrix' rows, or where it is wrong. -/
namespace Go.Proofs.YtjjidmgeladicaaDoor
open Go.RowKit Go.Shelf

theorem semi_grows (w : World) : PredGrows Tryd.prog 44 #[] isSemi w := by
  intro W x hx hb
  show Calls Tryd.prog 44 #[.int .i32 (x : Nat)] W _
  by_cases h : x = 59
  · subst h
    go_enter Tryd.func44, Tryd.ntmps44
    go_wp2
    go_ret
    exact ⟨rfl, Below.refl _ _⟩
  · have h2 : ((x : Int) == 59) = false := by simp; omega
    have h3 : isSemi x = false := by simp [isSemi, h]
    rw [h3]
    clear h h3
    go_enter Tryd.func44, Tryd.ntmps44
    go_wp2
    go_ret
    exact ⟨rfl, Below.refl _ _⟩

theorem mk_size (l : List UInt8) : (⟨l.toArray⟩ : ByteArray).size = l.length := by show l.toArray.size = _; simp

/-- what numeral.Matrix parts, as a string -/
def matS (s : ByteArray) : ByteArray := ⟨(matB2 s).toArray⟩

theorem matS_size (s : ByteArray) : (matS s).size ≤ 2 * s.size + 1 := by
  unfold matS
  rw [mk_size]
  exact matB2_len s

/-- the fields, with what stands in them -/
theorem matS_fields (s : ByteArray) : ∃ FL : List ByteArray, Lib.goFieldsP isSemi (matS s) = FL ∧ FL.length = (partedL isEnd (runesOf s)).length ∧
    ∀ (k : Nat) (t : ByteArray), FL[k]? = some t → ∃ c, (partedL isEnd (runesOf s))[k]? = some c ∧ 1 ≤ t.size ∧ runesOf (t.extract 1 t.size) = c := by
  have h := fields_mat s
  obtain ⟨FL, hFL⟩ : ∃ FL, Lib.goFieldsP isSemi (matS s) = FL := ⟨_, rfl⟩
  have h2 : FL.map runesOf = (partedL isEnd (runesOf s)).map (120 :: ·) := by rw [← hFL]; exact h
  refine ⟨FL, hFL, by simpa using congrArg List.length h2, fun k t ht => ?_⟩
  have h3 := congrArg (fun l => l[k]?) h2
  simp only [List.getElem?_map, ht, Option.map_some] at h3
  cases hc : (partedL isEnd (runesOf s))[k]? with
  | none => rw [hc] at h3; cases h3
  | some c =>
    rw [hc] at h3
    simp only [Option.map_some, Option.some.injEq] at h3
    obtain ⟨g1, g2⟩ := tail_x t c h3
    exact ⟨c, rfl, g1, g2⟩

set_option maxRecDepth 100000 in
set_option maxHeartbeats 6400000 in
/-- numeral.Matrix -/
theorem matrix_any (s : ByteArray) (w : World) (hs : s.size ≤ 100000000) (m : Int) (hm : w.cell? ⟨2, 0, none⟩ = some (.int .i64 m)) :
    Calls Tryd.prog 17 #[.string s] w fun e w' => Below w.heap.size w w' ∧ MatTold w w' e (matR (runesOf s)) := by
  have h20 : 2 < w.heap.size := World.block_lt_of_cell? w ⟨2, 0, none⟩ hm
  obtain ⟨FL, hFL, hFl, hFt⟩ := matS_fields s
  have hms := matS_size s
  unfold matR
  have hrl := runesAt_len s 0
  have hCl : (partedL isEnd (runesOf s)).length ≤ 100000001 := by
    have := sumLen_len (partedL isEnd (runesOf s))
    rw [parted_len] at this
    unfold runesOf at this
    unfold runesOf
    omega
  have hsz : ∀ t, t ∈ FL → t.size ≤ 200000001 := by
    intro t ht
    rw [← hFL] at ht
    unfold Lib.goFieldsP at ht
    obtain ⟨x, _, rfl⟩ := List.mem_map.1 ht
    rw [ByteArray.size_extract]
    omega
  obtain ⟨C, hC⟩ : ∃ C, partedL isEnd (runesOf s) = C := ⟨_, rfl⟩
  rw [hC] at hFl hFt hCl ⊢
  obtain ⟨X, hX⟩ : ∃ X, matGo [] C = X := ⟨_, rfl⟩
  rw [hX]
  have HX := hid hX
  have HFT := hid hFt
  have HSZ := hid hsz
  have c1 : Lib.countB s ⟨#[59]⟩ ≤ s.size := Lib.countB_le ⟨#[59]⟩ (by decide) s.size s (Nat.le_refl _)
  have Q1 := hid (Tryd.strings_ReplaceAll s ⟨#[59]⟩ ⟨#[59, 120]⟩ m w (by omega) hm (by decide) (by show _ + _ * 2 ≤ _; omega))
  obtain ⟨s1, hs1⟩ : ∃ s1, (⟨(Lib.replaceAll s.data.toList (⟨#[59]⟩ : ByteArray).data.toList (⟨#[59, 120]⟩ : ByteArray).data.toList).toArray⟩ : ByteArray) = s1 := ⟨_, rfl⟩
  rw [hs1] at Q1
  have hl1 : s1.size ≤ 2 * s.size := by
    rw [← hs1, mk_size]
    show (Lib.replaceAll s.data.toList [59] [59, 120]).length ≤ _
    rw [replaceAll_sub 59 (.inr trivial)]
    have hz : s.data.toList.length = s.size := by rw [Array.length_toList]; rfl
    have : ∀ l : List UInt8, (l.flatMap (subB 59)).length ≤ 2 * l.length := by
      intro l
      induction l with
      | nil => simp
      | cons b l ih =>
        rw [List.flatMap_cons, List.length_append, List.length_cons]
        have : (subB 59 b).length ≤ 2 := by unfold subB; split <;> simp
        omega
    have := this s.data.toList
    omega
  have c2 : Lib.countB s1 ⟨#[10]⟩ ≤ s1.size := Lib.countB_le ⟨#[10]⟩ (by decide) s1.size s1 (Nat.le_refl _)
  have Q2 := hid fun (w1 : World) (hm1 : w1.cell? ⟨2, 0, none⟩ = some (.int .i64 m)) => Tryd.strings_ReplaceAll s1 ⟨#[10]⟩ ⟨#[59, 120]⟩ m w1 (by omega) hm1 (by decide) (by show _ + _ * 2 ≤ _; omega)
  obtain ⟨s2, hs2⟩ : ∃ s2, (⟨(Lib.replaceAll s1.data.toList (⟨#[10]⟩ : ByteArray).data.toList (⟨#[59, 120]⟩ : ByteArray).data.toList).toArray⟩ : ByteArray) = s2 := ⟨_, rfl⟩
  rw [hs2] at Q2
  have hS : matS s = ⟨#[120]⟩ ++ s2 := by
    have h1 : matS s = ⟨(120 :: s2.data.toList).toArray⟩ := by rw [← hs2, ← hs1]; rfl
    rw [h1]
    apply ByteArray.ext
    rw [ByteArray.data_append]
    apply Array.toList_inj.1
    simp
  have hl2 : s2.size ≤ 200000000 := by
    have h1 := hms
    rw [hS, ByteArray.size_append] at h1
    have h3 : (⟨#[120]⟩ : ByteArray).size = 1 := rfl
    omega
  have HM := hid hm
  have Q3 := hid fun (w1 : World) => Tryd.strings_FieldsFunc_grows 44 #[] (enters_of Tryd.func44 (by kernel_rfl) rfl) isSemi (matS s) w1 (by omega) (semi_grows w1)
  rw [hFL, hS] at Q3
  have HFL := hid hFl
  have hFle : FL.length ≤ 100000001 := by omega
  clear hC hX hFt hFL hsz hms hs1 hs2 hS hm hrl c1 c2 hl1 hFl
  go_enter Tryd.func17, Tryd.ntmps17
  go_wp2_with fail
  refine Q1.out.mono ?_
  clear Q1
  rintro e w0 ⟨rfl, hb0⟩
  have Q2' := hid (Q2.out w0 ((hb0.cell (p := ⟨2, 0, none⟩) h20).trans HM.out))
  clear Q2
  go_wp2_with fail
  refine Q2'.out.mono ?_
  clear Q2'
  rintro e w1 ⟨rfl, hb01⟩
  have hb1 := hb0.trans (hb01.mono hb0.size)
  clear hb0 hb01
  have Q3' := hid (Q3.out w1)
  clear Q3
  go_wp2_with fail
  refine Q3'.out.mono ?_
  clear Q3'
  rintro e w2 ⟨A, rfl, hA, hown, hb2⟩
  have hb := hb1.trans (hb2.mono hb1.size)
  have HOWNS := hid hown
  have HB := hid hb
  clear hb hb1 hb2 hown
  go_wp2
  have hB0 : 0 < w2.heap.size := by have := HB.out.size; omega
  go_loopw [6, 18] (fun ov iv wr => ∃ (k : Nat) (out : List (List Fr)), iv = .int .i64 k ∧ k ≤ FL.length ∧ MatOwn w2.heap.size wr ov out ∧ Below w2.heap.size w2 wr ∧ matGo out (C.drop k) = X ∧ out.length = k)
    (fun _ iv _ => FL.length - (intOf iv).toNat)
  case atStart => exact ⟨0, [], rfl, Nat.zero_le _, MatOwn.nil (Nat.le_refl _), Below.refl _ _, HX.out, rfl⟩
  case round =>
    obtain ⟨k, out, rfl, hk, hout, hbel, hgo, hol⟩ := hrel
    have HGO := hid hgo
    have HOUT := hid hout
    have HOL := hid hol
    have hol2 : out.length ≤ 100000001 := by omega
    clear hgo hout hol
    by_cases hkl : k < FL.length
    · obtain ⟨t, ht⟩ : ∃ t, FL[k]? = some t := ⟨_, List.getElem?_eq_getElem hkl⟩
      obtain ⟨c, hc, ht1, htr⟩ := HFT.out k t ht
      have htz := HSZ.out t (List.mem_of_getElem? ht)
      obtain ⟨d0, _⟩ := own_atV HOWNS.out k (.string t) (by rw [List.getElem?_map, ht]; rfl)
      have hAlt : A < w2.heap.size := (HOWNS.out.lt A rfl).2
      have d1 : wr.cell? ⟨A, k, none⟩ = some (.string t) := (hbel.cell (p := ⟨A, k, none⟩) hAlt).trans d0
      have hdrop := drop_at C k c hc
      have hgo := HGO.out
      rw [hdrop, matGo] at hgo
      have f1 : (k : Int) < (FL.length : Int) := by omega
      have f2 : (1 : Int) ≤ (t.size : Int) := by omega
      have q1 := row_own (t.extract 1 t.size) wr (by rw [ByteArray.size_extract]; omega)
      rw [rowOf_R, htr] at q1
      obtain ⟨⟨RL, RN, RC⟩, hy⟩ : ∃ y, rowR c = y := ⟨_, rfl⟩
      rw [hy] at q1 hgo
      have Q1 := hid q1
      have HGO1 := hid hgo
      have HBEL := hid hbel
      have hsb := hbel.size
      obtain ⟨ado, co, hos⟩ := HOUT.out.shape
      subst hos
      clear d0 hdrop hgo q1 hc ht htr HGO hbel hy
      go_wp2_with fail
      refine Q1.out.mono ?_
      clear Q1
      rintro e w3 ⟨hb3, r2, rfl, hr2⟩
      obtain ⟨ad2, cap2, rfl⟩ := hr2.shape
      have HR2 := hid hr2
      have hC := HBEL.out.trans (hb3.mono hsb)
      have HC := hid hC
      by_cases hce : RC = 0
      · subst hce
        have hg5 := HGO1.out
        rw [if_neg (by simp)] at hg5
        have HG5 := hid hg5
        obtain ⟨rs, f, hparts⟩ := HOUT.out
        have HPARTS := hid hparts
        have HOWN := hid (hparts.later hB0 hb3).1
        have HB2 := hid hb3
        clear HGO1 hg5 hparts hr2 hC hb3
        go_wp2_with (at_builtin; refine wpl_append1 elemFracRow rfl _ _ rfl w2.heap.size out.length 1 1 _ rs #[.slice ad2 RL.length cap2] HOWN.out rfl rfl rfl (by simp [Value.oneCell']) (by omega) (by decide) (by unfold maxLen; omega) HC.out HC.out.size ?_)
        intro g6 c6 w6 ho6 hb6 hg6
        have hsn := HPARTS.out.snoc hB0 HB2.out HR2.out (by simpa using ho6) hg6
        have HSN := hid hsn
        have HB6 := hid hb6
        clear hsn ho6 hb6 hg6
        go_wp2
        go_roundw
        case rel =>
          obtain ⟨f', hf'⟩ := HSN.out
          exact ⟨k + 1, out ++ [RL], by go_num, by omega, ⟨_, _, by simpa using hf'⟩, HB6.out, HG5.out, by have := HOL.out; simp; omega⟩
        case measure => simp [intOf]; omega
      · have hg5 := HGO1.out
        rw [if_pos hce] at hg5
        have hne : (((RC : Nat) : Int) != 0) = true := by simp; omega
        have HG5 := hid hg5
        clear HGO1 hg5 hr2 hC hb3
        go_wp2
        exact bodyPost_ret (v := .tuple #[.slice none 0 0, .int .i64 ((out.length : Int) + 1), .int .i64 (RN : Nat), .int .i64 (RC : Nat)]) (by simp [results, Tryd.results17, go_sem]) rfl ⟨HB.out.trans (HC.out.mono HB.out.size), by
          rw [← HG5.out]
          refine ⟨_, ?_, MatOwn.nil (Nat.le_trans HB.out.size HC.out.size)⟩
          simp⟩
    · obtain rfl : k = FL.length := by omega
      have hgo := HGO.out
      rw [HFL.out, List.drop_length, matGo] at hgo
      obtain ⟨ado, co, hos⟩ := HOUT.out.shape
      subst hos
      have HG := hid hgo
      have HBEL := hid hbel
      clear hgo hbel
      go_wp2
      exact bodyPost_ret (v := .tuple #[.slice ado out.length co, .int .i64 0, .int .i64 0, .int .i64 0]) (by simp [results, Tryd.results17, go_sem]) rfl ⟨HB.out.trans (HBEL.out.mono HB.out.size), by
        rw [← HG.out]
        exact ⟨_, rfl, HOUT.out.base HB.out.size⟩⟩
end Go.Proofs.YtjjidmgeladicaaDoor

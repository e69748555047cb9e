/- strings.FieldsFunc and strings.ReplaceAll, as numeral.Matrix uses them, by runes. Plain; no condition. -/
import Derived.Test.YtjjidmgeladicaaDoorRowRef
import Derived.Test.YtjjidmgeladicaaDoorApartSeg
import Derived.Lib.FieldsP
import Derived.Lib.ReplaceLaws
namespace Go.Proofs.YtjjidmgeladicaaDoor

/-! ### fields by runes -/

def fldR (p : Nat → Bool) : Option (List Nat) → List Nat → List (List Nat)
  | fr, [] => fr.toList
  | fr, r :: L => if p r = true then fr.toList ++ fldR p none L else fldR p (some (fr.getD [] ++ [r])) L

def spanR (s : ByteArray) (x : Nat × Nat) : List Nat := runesOf (s.extract x.1 x.2)

theorem spans_R (p : Nat → Bool) (s : ByteArray) : ∀ (f pos : Nat) (st : Option Nat) (acc : List (Nat × Nat)), s.size ≤ pos + f → pos ≤ s.size → (∀ a, st = some a → a ≤ pos ∧ Bd (s.data.toList.drop a) (pos - a)) →
    (Lib.closeSpans s (Lib.spansFromP p s f pos st acc)).map (spanR s) = acc.map (spanR s) ++ fldR p (st.map fun a => rb s a pos) (runesAt s pos) := by
  have hend : ∀ (f pos : Nat) (st : Option Nat) (acc : List (Nat × Nat)), ¬ pos < s.size → pos ≤ s.size → 
      (Lib.closeSpans s (Lib.spansFromP p s f pos st acc)).map (spanR s) = acc.map (spanR s) ++ fldR p (st.map fun a => rb s a pos) (runesAt s pos) := by
    intro f pos st acc h hp
    rw [Lib.spansFromP_end p s f pos st acc h, runesAt_end s pos h]
    obtain rfl : pos = s.size := by omega
    cases st with
    | none => simp [Lib.closeSpans, fldR]
    | some a => simp [Lib.closeSpans, fldR, spanR, rb_runes]
  intro f
  induction f with
  | zero => intro pos st acc h1 h2 _; exact hend 0 pos st acc (by omega) h2
  | succ f ih =>
    intro pos st acc h1 h2 hst
    by_cases h : pos < s.size
    · have hw := decode_width s pos
      have hen := decode_end s pos h
      rw [Lib.spansFromP.eq_def]
      simp only
      rw [if_pos h, runesAt_step s pos h, fldR]
      have sn := fun a ha hb => rb_snoc s a pos ha h hb
      obtain ⟨wd, hwd⟩ : ∃ wd, (Utf8.decode s pos).2 = wd := ⟨_, rfl⟩
      obtain ⟨r, hr⟩ : ∃ r, (Utf8.decode s pos).1 = r := ⟨_, rfl⟩
      rw [hwd, hr] at sn
      rw [hwd] at hw hen
      rw [hwd, hr]
      by_cases hp : p r = true
      · rw [if_pos hp, if_pos hp]
        cases st with
        | none =>
          have := ih (pos + wd) none acc (by omega) hen (by simp)
          simpa using this
        | some a =>
          have := ih (pos + wd) none (acc ++ [(a, pos)]) (by omega) hen (by simp)
          simp only [Option.map_none] at this
          simp only [this]
          simp [spanR, rb_runes]
      · rw [if_neg hp, if_neg hp]
        cases st with
        | none =>
          obtain ⟨s3, s4⟩ := sn pos (Nat.le_refl _) (by rw [Nat.sub_self]; exact Bd.zero _)
          rw [rb_self, List.nil_append] at s3
          have := ih (pos + wd) (some pos) acc (by omega) hen (by
            intro a ha
            simp only [Option.some.injEq] at ha
            subst ha
            exact ⟨by omega, s4⟩)
          simp only [Option.map_some, s3] at this
          simpa using this
        | some a =>
          obtain ⟨g1, g2⟩ := hst a rfl
          obtain ⟨s1, s2⟩ := sn a g1 g2
          have := ih (pos + wd) (some a) acc (by omega) hen (by
            intro a' ha
            simp only [Option.some.injEq] at ha
            subst ha
            exact ⟨by omega, s2⟩)
          simp only [Option.map_some, s1] at this
          simpa using this
    · exact hend _ pos st acc h h2

theorem fields_R (p : Nat → Bool) (s : ByteArray) : (Lib.goFieldsP p s).map runesOf = fldR p none (runesOf s) := by
  have h := spans_R p s s.size 0 none [] (by omega) (Nat.zero_le _) (by simp)
  unfold Lib.goFieldsP Lib.spansOfP
  rw [List.map_map]
  have e : (runesOf ∘ fun x : Nat × Nat => s.extract x.1 x.2) = spanR s := rfl
  rw [e, h]
  rfl

/-! ### a byte of one rune put in the place of another -/

def subB (c : UInt8) (b : UInt8) : List UInt8 := if b = c then [59, 120] else [b]
def subR (c : Nat) (r : Nat) : List Nat := if r = c then [59, 120] else [r]

theorem replace_sub (c : UInt8) : ∀ (k : Nat) (s : List UInt8), Lib.count s [c] = k → Lib.replaceK [c] [59, 120] k s = s.flatMap (subB c)
  | k, [], h => by
    have : Lib.index ([] : List UInt8) [c] = -1 := by simp [Lib.index]
    cases k with
    | zero => rfl
    | succ k => rw [Lib.replaceK, this]; rfl
  | k, b :: s, h => by
    by_cases hb : b = c
    · subst hb
      rw [Lib.count_cons_eq] at h
      obtain ⟨k, rfl⟩ : ∃ j, k = j + 1 := ⟨k - 1, by omega⟩
      have hix : Lib.index (b :: s) [b] = ((0 : Nat) : Int) := by rw [Lib.index]; simp [List.isPrefixOf]
      rw [Lib.replaceK_hit _ _ _ _ 0 hix]
      have := replace_sub b k s (by omega)
      simp only [List.take_zero, List.nil_append, List.length_cons, List.length_nil, Nat.zero_add, List.drop_succ_cons, List.drop_zero, List.flatMap_cons]
      rw [this]
      simp [subB]
    · rw [Lib.count_cons_ne b c s hb] at h
      have ih := replace_sub c k s h
      rw [List.flatMap_cons, ← ih]
      have hs : subB c b = [b] := by simp [subB, hb]
      rw [hs]
      have hp : ([c] : List UInt8).isPrefixOf (b :: s) = false := by simp [List.isPrefixOf, Ne.symm hb]
      have hix : Lib.index (b :: s) [c] = if Lib.index s [c] == -1 then -1 else Lib.index s [c] + 1 := by rw [Lib.index, hp]; simp
      cases k with
      | zero => simp [Lib.replaceK]
      | succ k =>
        obtain ⟨i, hi⟩ := Lib.index_of_count (s := s) (old := [c]) (by omega)
        have hm : ¬ (Lib.index s [c] == -1) = true := fun e => by have := beq_iff_eq.1 e; omega
        rw [if_neg hm, hi] at hix
        have hix' : Lib.index (b :: s) [c] = ((i + 1 : Nat) : Int) := by rw [hix]; omega
        rw [Lib.replaceK_hit _ _ _ _ _ hix', Lib.replaceK_hit _ _ _ _ _ hi]
        simp [Nat.add_right_comm]

theorem replaceAll_sub (c : UInt8) (hc : c ≠ 59 ∨ True) (s : List UInt8) : Lib.replaceAll s [c] [59, 120] = s.flatMap (subB c) := by
  unfold Lib.replaceAll Lib.replace Lib.replaceNum
  rw [if_neg (by simp), if_pos (.inl (by decide))]
  exact replace_sub c _ s rfl

/-! ### decoding looks at no byte behind one below 128 -/

/-- two bytes that are the same to whoever looks for more of a rune -/
def AlikeB (a b : Nat) : Prop := a = b ∨ (a < 128 ∧ b < 128)

set_option maxRecDepth 100000 in
set_option maxHeartbeats 4000000 in
theorem decodeN_alike (n m b0 b1 b2 b3 c1 c2 c3 : Nat) (h0 : 128 ≤ b0) (hn : (n ≤ 1 → b1 < 128) ∧ (n ≤ 2 → b2 < 128) ∧ (n ≤ 3 → b3 < 128)) (hm : (m ≤ 1 → c1 < 128) ∧ (m ≤ 2 → c2 < 128) ∧ (m ≤ 3 → c3 < 128))
    (h1 : AlikeB b1 c1) (h2 : 128 ≤ b1 → AlikeB b2 c2) (h3 : 128 ≤ b1 → 128 ≤ b2 → AlikeB b3 c3) : Lib.decodeN n b0 b1 b2 b3 = Lib.decodeN m b0 c1 c2 c3 := by
  unfold AlikeB at *
  by_cases e1 : 128 ≤ b1
  · obtain rfl : b1 = c1 := by omega
    have h2 := h2 e1
    by_cases e2 : 128 ≤ b2
    · obtain rfl : b2 = c2 := by omega
      have h3 := h3 e1 e2
      by_cases e3 : 128 ≤ b3
      · obtain rfl : b3 = c3 := by omega
        unfold Lib.decodeN
        have : (1 < n) = (1 < m) := by simp; omega
        have : (2 < n) = (2 < m) := by simp; omega
        have : (3 < n) = (3 < m) := by simp; omega
        simp_all
      · unfold Lib.decodeN
        have a1 : ¬ b3 / 64 = 2 := by omega
        have a2 : ¬ c3 / 64 = 2 := by omega
        have : (1 < n) = (1 < m) := by simp; omega
        have : (2 < n) = (2 < m) := by simp; omega
        simp_all
    · unfold Lib.decodeN
      have a1 : ¬ b2 / 64 = 2 := by omega
      have a2 : ¬ c2 / 64 = 2 := by omega
      have : (1 < n) = (1 < m) := by simp; omega
      simp_all
  · unfold Lib.decodeN
    have a1 : ¬ b1 / 64 = 2 := by omega
    have a2 : ¬ c1 / 64 = 2 := by omega
    simp_all

set_option maxRecDepth 100000 in
theorem decodeN_shape2 (n b0 b1 b2 b3 : Nat) (h0 : 128 ≤ b0) (hb : b0 < 256) : 128 ≤ (Lib.decodeN n b0 b1 b2 b3).1 ∧ (2 ≤ (Lib.decodeN n b0 b1 b2 b3).2 → 128 ≤ b1 ∧ 1 < n) ∧ (3 ≤ (Lib.decodeN n b0 b1 b2 b3).2 → 128 ≤ b2 ∧ 2 < n) ∧ (4 ≤ (Lib.decodeN n b0 b1 b2 b3).2 → 128 ≤ b3 ∧ 3 < n) ∧ (Lib.decodeN n b0 b1 b2 b3).2 ≤ 4 := by
  unfold Lib.decodeN
  repeat' split
  all_goals (refine ⟨?_, ?_, ?_, ?_, ?_⟩ <;> first | omega | (intro h; first | omega | (simp only at h; omega)) | (simp only; omega))

/-- the bytes of one rune that is no ASCII: they are above 127 -/
theorem decodeL_high (l : List UInt8) (hne : l ≠ []) (h0 : 128 ≤ (l.getD 0 0).toNat) : 128 ≤ (Lib.decodeL l).1 ∧ ∀ b, b ∈ l.take (Lib.decodeL l).2 → 128 ≤ b.toNat := by
  have hb := UInt8.toNat_lt (l.getD 0 0)
  rw [Lib.decodeL_N]
  obtain ⟨k1, k2, k3, k4, k5⟩ := decodeN_shape2 l.length (l.getD 0 0).toNat (l.getD 1 0).toNat (l.getD 2 0).toNat (l.getD 3 0).toNat h0 (by omega)
  refine ⟨k1, fun b hb => ?_⟩
  obtain ⟨i, hi, rfl⟩ := List.mem_iff_getElem.1 hb
  simp only [List.length_take] at hi
  rw [List.getElem_take]
  have hg : ∀ j, l.getD j 0 = if h : j < l.length then l[j] else 0 := fun j => by
    rw [List.getD_eq_getElem?_getD]
    split
    · rename_i h; rw [List.getElem?_eq_getElem h]; rfl
    · rename_i h; rw [List.getElem?_eq_none (by omega)]; rfl
  have hgi := hg i
  rw [dif_pos (by omega)] at hgi
  rw [← hgi]
  match i, hi with
  | 0, _ => exact h0
  | 1, _ => exact (k2 (by omega)).1
  | 2, _ => exact (k3 (by omega)).1
  | 3, _ => exact (k4 (by omega)).1
  | i + 4, _ => omega

theorem sub_len (c b : UInt8) : 1 ≤ (subB c b).length := by unfold subB; split <;> simp
theorem sub_high (c b : UInt8) (hc : c.toNat < 128) (h : 128 ≤ b.toNat) : subB c b = [b] := by
  unfold subB
  rw [if_neg (fun e => by rw [e] at h; omega)]
theorem sub_low (c b : UInt8) (h : b.toNat < 128) : ∃ x t, subB c b = x :: t ∧ x.toNat < 128 := by
  unfold subB
  split
  · exact ⟨59, [120], rfl, by decide⟩
  · exact ⟨b, [], rfl, h⟩

theorem flat_high (c : UInt8) (hc : c.toNat < 128) : ∀ (l : List UInt8), (∀ b, b ∈ l → 128 ≤ b.toNat) → l.flatMap (subB c) = l
  | [], _ => rfl
  | b :: l, h => by
    rw [List.flatMap_cons, sub_high c b hc (h b (List.mem_cons_self ..)), flat_high c hc l fun x hx => h x (List.mem_cons_of_mem _ hx)]
    rfl

/-- the first byte behind the substitution -/
theorem flat_first (c : UInt8) (hc : c.toNat < 128) (l : List UInt8) : AlikeB (l.getD 0 0).toNat ((l.flatMap (subB c)).getD 0 0).toNat := by
  cases l with
  | nil => exact .inl rfl
  | cons b l =>
    rw [List.flatMap_cons]
    by_cases h : 128 ≤ b.toNat
    · rw [sub_high c b hc h]; exact .inl rfl
    · obtain ⟨x, t, e, hx⟩ := sub_low c b (by omega)
      rw [e]
      exact .inr ⟨by show b.toNat < 128; omega, by simpa using hx⟩

theorem decodeL_sub (c : UInt8) (hc : c.toNat < 128) (l : List UInt8) (h0 : 128 ≤ (l.getD 0 0).toNat) : Lib.decodeL (l.flatMap (subB c)) = Lib.decodeL l := by
  have z : ∀ (l : List UInt8) (i : Nat), l.length ≤ i → (l.getD i 0).toNat < 128 := fun l i h => by
    rw [List.getD_eq_getElem?_getD, List.getElem?_eq_none h]; decide
  have tl : ∀ (b : UInt8) (t : List UInt8) (i : Nat), (b :: t).getD (i + 1) 0 = t.getD i 0 := fun b t i => by simp
  cases l with
  | nil => rfl
  | cons b0 l =>
    simp only [List.getD_cons_zero] at h0
    rw [List.flatMap_cons, sub_high c b0 hc h0, List.singleton_append, Lib.decodeL_N, Lib.decodeL_N]
    simp only [List.getD_cons_zero, tl]
    have zz : ∀ (l : List UInt8), ((b0 :: l).length ≤ 1 → (l.getD 0 0).toNat < 128) ∧ ((b0 :: l).length ≤ 2 → (l.getD 1 0).toNat < 128) ∧ ((b0 :: l).length ≤ 3 → (l.getD 2 0).toNat < 128) := fun l =>
      ⟨fun h => z l 0 (by simp only [List.length_cons] at h; omega), fun h => z l 1 (by simp only [List.length_cons] at h; omega), fun h => z l 2 (by simp only [List.length_cons] at h; omega)⟩
    refine (decodeN_alike _ _ _ _ _ _ _ _ _ h0 (zz l) (zz (l.flatMap (subB c))) (flat_first c hc l) (fun h1 => ?_) (fun h1 h2 => ?_)).symm
    · cases l with
      | nil => simp at h1
      | cons b1 l =>
        simp only [List.getD_cons_zero] at h1
        rw [List.flatMap_cons, sub_high c b1 hc h1, List.singleton_append, tl, tl]
        exact flat_first c hc l
    · cases l with
      | nil => simp at h1
      | cons b1 l =>
        simp only [List.getD_cons_zero] at h1
        rw [tl] at h2
        rw [List.flatMap_cons, sub_high c b1 hc h1, List.singleton_append, tl, tl]
        cases l with
        | nil => simp at h2
        | cons b2 l =>
          simp only [List.getD_cons_zero] at h2
          rw [List.flatMap_cons, sub_high c b2 hc h2, List.singleton_append, tl, tl]
          exact flat_first c hc l

theorem decodeL_low (b : UInt8) (t : List UInt8) (h : b.toNat < 128) : Lib.decodeL (b :: t) = (b.toNat, 1) := by
  rw [Lib.decodeL_N]
  simp only [List.getD_cons_zero]
  unfold Lib.decodeN
  rw [if_pos h]

theorem runesB_low (b : UInt8) (t : List UInt8) (h : b.toNat < 128) : runesB (b :: t) = b.toNat :: runesB t := by
  rw [runesB_step _ (by simp), decodeL_low b t h]; rfl

theorem runesB_sub (c : UInt8) (hc : c.toNat < 128) : ∀ (n : Nat) (l : List UInt8), l.length ≤ n → runesB (l.flatMap (subB c)) = (runesB l).flatMap (subR c.toNat)
  | n, [], _ => rfl
  | 0, b :: l, h => by simp at h
  | n + 1, b :: l, h => by
    by_cases hb : b.toNat < 128
    · rw [List.flatMap_cons, runesB_low b l hb, List.flatMap_cons]
      have ih := runesB_sub c hc n l (by simp at h; omega)
      by_cases e : b = c
      · subst e
        have e1 : subB b b = [59, 120] := by simp [subB]
        have e2 : subR b.toNat b.toNat = [59, 120] := by simp [subR]
        rw [e1, e2, List.cons_append, List.cons_append, List.nil_append, runesB_low _ _ (by decide), runesB_low _ _ (by decide), ih]
        rfl
      · have e1 : subB c b = [b] := by simp [subB, e]
        have e2 : subR c.toNat b.toNat = [b.toNat] := by
          unfold subR
          rw [if_neg (fun h => e (UInt8.toNat_inj.1 h))]
        rw [e1, e2, List.singleton_append, List.singleton_append, runesB_low b _ hb, ih]
    · have h0 : 128 ≤ ((b :: l).getD 0 0).toNat := by simpa using by omega
      have hne : b :: l ≠ [] := by simp
      obtain ⟨k1, k2⟩ := decodeL_high _ hne h0
      have hd := decodeL_sub c hc (b :: l) h0
      have hp := decodeL_pos (b :: l)
      have hle := Lib.decodeL_le _ hne
      obtain ⟨wd, hwd⟩ : ∃ wd, (Lib.decodeL (b :: l)).2 = wd := ⟨_, rfl⟩
      obtain ⟨r, hr⟩ : ∃ r, (Lib.decodeL (b :: l)).1 = r := ⟨_, rfl⟩
      have hne2 : (b :: l).flatMap (subB c) ≠ [] := by
        rw [List.flatMap_cons, sub_high c b hc (by omega)]; simp
      have hsp : (b :: l).flatMap (subB c) = (b :: l).take wd ++ ((b :: l).drop wd).flatMap (subB c) := by
        rw [hwd] at k2
        conv => lhs; rw [← List.take_append_drop wd (b :: l)]
        rw [List.flatMap_append, flat_high c hc _ k2]
      rw [hwd] at hp hle
      rw [hr] at k1
      have hs : subR c.toNat r = [r] := by
        unfold subR
        rw [if_neg (by omega)]
      have hdr : ((b :: l).flatMap (subB c)).drop wd = ((b :: l).drop wd).flatMap (subB c) := by
        rw [hsp, List.drop_append, List.drop_of_length_le (by rw [List.length_take]; omega), List.nil_append, List.length_take, Nat.min_eq_left hle, Nat.sub_self, List.drop_zero]
      rw [runesB_step _ hne, runesB_step _ hne2, hd, hwd, hr, hdr, List.flatMap_cons, hs, List.singleton_append, runesB_sub c hc n _ (by rw [List.length_drop]; simp only [List.length_cons] at h ⊢; omega)]

/-! ### a matrix' rows -/

def isSemi (r : Nat) : Bool := r == 59

theorem fld_parts : ∀ (L cur : List Nat), fldR isSemi (some (120 :: cur)) ((L.flatMap (subR 59)).flatMap (subR 10)) = ((partSt isEnd cur L).1 ++ [(partSt isEnd cur L).2]).map (120 :: ·)
  | [], cur => rfl
  | r :: L, cur => by
    rw [partSt_cons, List.flatMap_cons, List.flatMap_append]
    have ih0 := fld_parts L []
    by_cases h : isEnd r = true
    · rw [if_pos h]
      have e : (subR 59 r).flatMap (subR 10) = [59, 120] := by
        unfold isEnd at h
        simp only [Bool.or_eq_true, beq_iff_eq] at h
        rcases h with rfl | rfl <;> rfl
      rw [e, List.cons_append, List.cons_append, List.nil_append, fldR, if_pos (by rfl), fldR, if_neg (by decide), Option.getD_none, List.nil_append, ih0]
      simp
    · rw [if_neg h]
      have h1 : r ≠ 59 := fun e => h (by simp [isEnd, e])
      have h2 : r ≠ 10 := fun e => h (by simp [isEnd, e])
      have e : (subR 59 r).flatMap (subR 10) = [r] := by simp [subR, h1, h2]
      rw [e, List.singleton_append, fldR, if_neg (by simp [isSemi, h1]), Option.getD_some, List.cons_append, fld_parts L (cur ++ [r])]

/-- the bytes that numeral.Matrix parts -/
def matB2 (s : ByteArray) : List UInt8 := 120 :: Lib.replaceAll (Lib.replaceAll s.data.toList [59] [59, 120]) [10] [59, 120]

theorem matB2_runes (s : ByteArray) : runesB (matB2 s) = 120 :: ((runesOf s).flatMap (subR 59)).flatMap (subR 10) := by
  unfold matB2
  rw [runesB_low _ _ (by decide), replaceAll_sub 10 (.inr trivial), replaceAll_sub 59 (.inr trivial), runesB_sub 10 (by decide) _ _ (Nat.le_refl _), runesB_sub 59 (by decide) _ _ (Nat.le_refl _), ← runesOf_B]
  rfl

theorem fields_mat (s : ByteArray) : (Lib.goFieldsP isSemi ⟨(matB2 s).toArray⟩).map runesOf = (partedL isEnd (runesOf s)).map (120 :: ·) := by
  rw [fields_R, runesOf_B]
  show fldR isSemi none (runesB (matB2 s)) = _
  rw [matB2_runes, fldR, if_neg (by decide)]
  exact fld_parts _ []

theorem decodeL_one (l : List UInt8) (hne : l ≠ []) (h : (Lib.decodeL l).1 < 128) : (Lib.decodeL l).2 = 1 := by
  by_cases h0 : 128 ≤ (l.getD 0 0).toNat
  · have := (decodeL_high l hne h0).1
    omega
  · cases l with
    | nil => exact absurd rfl hne
    | cons b t =>
      rw [decodeL_low b t (by simpa using h0)]

/-- a field without its x -/
theorem tail_x (t : ByteArray) (L : List Nat) (h : runesOf t = 120 :: L) : 1 ≤ t.size ∧ runesOf (t.extract 1 t.size) = L := by
  have hsz : t.data.toList.length = t.size := by rw [Array.length_toList]; rfl
  rw [runesOf_B] at h
  have hne : t.data.toList ≠ [] := by intro e; rw [e] at h; cases h
  rw [runesB_step _ hne] at h
  simp only [List.cons.injEq] at h
  obtain ⟨h1, h2⟩ := h
  have hw := decodeL_one _ hne (by omega)
  have hp : 0 < t.data.toList.length := List.length_pos_iff.2 hne
  refine ⟨by omega, ?_⟩
  rw [runesOf_B, extract_B, List.take_of_length_le (by rw [List.length_drop]; omega), ← hw, h2]

theorem matB2_len (s : ByteArray) : (matB2 s).length ≤ 2 * s.size + 1 := by
  have hsz : s.data.toList.length = s.size := by rw [Array.length_toList]; rfl
  have hc : ∀ (l : List UInt8), ((l.flatMap (subB 59)).flatMap (subB 10)).length ≤ 2 * l.length := by
    intro l
    induction l with
    | nil => simp
    | cons b l ih =>
      rw [List.flatMap_cons, List.flatMap_append, List.length_append, List.length_cons]
      have : ((subB 59 b).flatMap (subB 10)).length ≤ 2 := by
        by_cases h : b = 59
        · subst h; decide
        · have : subB 59 b = [b] := by simp [subB, h]
          rw [this, List.flatMap_cons, List.flatMap_nil, List.append_nil]
          unfold subB
          split <;> simp
      omega
  unfold matB2
  rw [replaceAll_sub 10 (.inr trivial), replaceAll_sub 59 (.inr trivial), List.length_cons]
  have := hc s.data.toList
  omega
end Go.Proofs.YtjjidmgeladicaaDoor

/- What stands between the words of a text, by its places and by its runes. Plain; no condition. -/
import Derived.Test.YtjjidmgeladicaaDoorApartLaw
namespace Go.Proofs.YtjjidmgeladicaaDoor

/-- the runes of the bytes from a to i -/
def rb (s : ByteArray) (a i : Nat) : List Nat := runesB ((s.data.toList.drop a).take (i - a))

theorem rb_runes (s : ByteArray) (a i : Nat) : runesOf (s.extract a i) = rb s a i := by rw [runesOf_B, extract_B]; rfl
theorem rb_self (s : ByteArray) (a : Nat) : rb s a a = [] := by simp [rb, runesB_nil]

theorem rb_snoc (s : ByteArray) (a pos : Nat) (ha : a ≤ pos) (h : pos < s.size) (hb : Bd (s.data.toList.drop a) (pos - a)) :
    rb s a (pos + (Utf8.decode s pos).2) = rb s a pos ++ [(Utf8.decode s pos).1] ∧ Bd (s.data.toList.drop a) (pos + (Utf8.decode s pos).2 - a) := by
  have hsz : s.data.toList.length = s.size := by rw [Array.length_toList]; rfl
  have hne : s.data.toList.drop pos ≠ [] := by intro e; have := List.drop_eq_nil_iff.1 e; omega
  obtain ⟨wd, hwd⟩ : ∃ wd, (Utf8.decode s pos).2 = wd := ⟨_, rfl⟩
  obtain ⟨r, hr⟩ : ∃ r, (Utf8.decode s pos).1 = r := ⟨_, rfl⟩
  rw [hwd, hr]
  have hd : (s.data.toList.drop a).drop (pos - a) = s.data.toList.drop pos := by rw [List.drop_drop, Nat.add_sub_cancel' ha]
  have h3 := hb.snoc (by rw [hd]; exact hne)
  have h4 := hb.split
  have h5 := h3.split
  rw [hd, Lib.decodeL_drop, hwd] at h3 h5
  rw [hd] at h4
  rw [show pos - a + wd = pos + wd - a by omega] at h3 h5
  refine ⟨?_, h3⟩
  have h6 : runesB (s.data.toList.drop pos) = r :: runesB ((s.data.toList.drop a).drop (pos + wd - a)) := by
    rw [runesB_step _ hne, Lib.decodeL_drop, hwd, hr, List.drop_drop, List.drop_drop, show a + (pos + wd - a) = pos + wd by omega]
  rw [h6] at h4
  rw [h4] at h5
  have h7 : runesB ((s.data.toList.drop a).take (pos - a)) ++ [r] ++ runesB ((s.data.toList.drop a).drop (pos + wd - a)) = runesB ((s.data.toList.drop a).take (pos + wd - a)) ++ runesB ((s.data.toList.drop a).drop (pos + wd - a)) := by
    rw [← h5]; simp
  exact (List.append_cancel_right h7).symm

/-- what stands ahead of each word, with the word; and behind the last -/
def seg (s : ByteArray) : Nat → List (Nat × ByteArray) → List (List Nat × List Nat) × List Nat
  | last, [] => ([], rb s last s.size)
  | last, (at_, w) :: r => ((rb s last at_, runesOf w) :: (seg s (at_ + w.size) r).1, (seg s (at_ + w.size) r).2)

/-- the words stand one behind the other, within the text -/
def chainW (s : ByteArray) : Nat → List (Nat × ByteArray) → Prop
  | last, [] => last ≤ s.size
  | last, (at_, w) :: r => last ≤ at_ ∧ at_ + w.size ≤ s.size ∧ w = s.extract at_ (at_ + w.size) ∧ chainW s (at_ + w.size) r

theorem seg_wds (s : ByteArray) : ∀ (n pos : Nat) (fr : Option Nat) (last : Nat), s.size - pos = n → pos ≤ s.size → last ≤ pos → Bd (s.data.toList.drop last) ((fr.getD pos) - last) →
    (∀ a, fr = some a → last ≤ a ∧ a ≤ pos ∧ Bd (s.data.toList.drop a) (pos - a)) →
    seg s last (wds s fr (placesAt s pos)) = apw (fr.map fun a => rb s a pos) (rb s last (fr.getD pos)) (runesAt s pos) ∧ chainW s last (wds s fr (placesAt s pos)) := by
  intro n
  induction n using Nat.strongRecOn with
  | ind n ih =>
    intro pos fr last hn hp hlp hbl hfr
    by_cases h : pos < s.size
    · have hw := decode_width s pos
      have hen := decode_end s pos h
      rw [placesAt_step s pos h, runesAt_step s pos h, wds]
      obtain ⟨wd, hwd⟩ : ∃ wd, (Utf8.decode s pos).2 = wd := ⟨_, rfl⟩
      obtain ⟨r, hr⟩ : ∃ r, (Utf8.decode s pos).1 = r := ⟨_, rfl⟩
      have sn := fun a ha hb => rb_snoc s a pos ha h hb
      rw [hwd, hr] at sn
      rw [hwd] at hw hen ⊢
      rw [hr]
      cases fr with
      | none =>
        simp only [Option.getD_none] at hbl
        simp only [Option.map_none, Option.getD_none]
        rw [apw]
        obtain ⟨s1, s2⟩ := sn last hlp hbl
        by_cases hs : isSep r = true
        · rw [if_pos hs, if_pos hs]
          have := ih (s.size - (pos + wd)) (by omega) (pos + wd) none last rfl hen (by omega) (by simpa using s2) (by simp)
          simp only [Option.map_none, Option.getD_none, s1] at this
          simpa [flushW] using this
        · rw [if_neg hs, if_neg hs]
          obtain ⟨s3, s4⟩ := sn pos (Nat.le_refl _) (by rw [Nat.sub_self]; exact Bd.zero _)
          rw [rb_self, List.nil_append] at s3
          have := ih (s.size - (pos + wd)) (by omega) (pos + wd) (some pos) last rfl hen (by omega) (by simpa using hbl) (by
            intro a ha
            simp only [Option.some.injEq] at ha
            subst ha
            exact ⟨hlp, by omega, s4⟩)
          simp only [Option.map_some, Option.getD_some, s3] at this
          exact this
      | some a =>
        obtain ⟨h1, h2, h3⟩ := hfr a rfl
        simp only [Option.getD_some] at hbl
        simp only [Option.map_some, Option.getD_some]
        rw [apw]
        obtain ⟨s1, s2⟩ := sn a h2 h3
        by_cases hs : isSep r = true
        · rw [if_pos hs, if_pos hs]
          obtain ⟨s3, s4⟩ := sn pos (Nat.le_refl _) (by rw [Nat.sub_self]; exact Bd.zero _)
          rw [rb_self, List.nil_append] at s3
          have := ih (s.size - (pos + wd)) (by omega) (pos + wd) none pos rfl hen (by omega) (by simpa using s4) (by simp)
          simp only [Option.map_none, Option.getD_none, s3] at this
          have hz : a + (s.extract a pos).size = pos := by simp [ByteArray.size_extract]; omega
          simp only [flushW, List.cons_append, List.nil_append, seg, chainW, hz, this.1, rb_runes]
          exact ⟨trivial, h1, by omega, trivial, this.2⟩
        · rw [if_neg hs, if_neg hs]
          have := ih (s.size - (pos + wd)) (by omega) (pos + wd) (some a) last rfl hen (by omega) (by simpa using hbl) (by
            intro a' ha
            simp only [Option.some.injEq] at ha
            subst ha
            exact ⟨h1, by omega, s2⟩)
          simp only [Option.map_some, Option.getD_some, s1] at this
          exact this
    · have hpe : pos = s.size := by omega
      rw [placesAt_end s pos h, runesAt_end s pos h, wds]
      cases fr with
      | none =>
        simp only [flushW, seg, chainW, Option.map_none, Option.getD_none, apw, hpe]
        exact ⟨trivial, by omega⟩
      | some a =>
        obtain ⟨h1, h2, h3⟩ := hfr a rfl
        have hz : a + (s.extract a s.size).size = s.size := by simp [ByteArray.size_extract]; omega
        simp only [flushW, seg, chainW, Option.map_some, Option.getD_some, apw, hz, rb_runes, rb_self, hpe]
        exact ⟨trivial, h1, Nat.le_refl _, trivial, Nat.le_refl _⟩

theorem seg_words (s : ByteArray) : seg s 0 (wordsOf s) = apw none [] (runesOf s) ∧ chainW s 0 (wordsOf s) := by
  have := seg_wds s _ 0 none 0 rfl (Nat.zero_le _) (Nat.le_refl _) (by simpa using Bd.zero _) (by simp)
  simp only [Option.map_none, Option.getD_none, rb_self] at this
  exact this

/-! ### what the law's loop has behind some words -/

def lastOf (pre : List (Nat × ByteArray)) : Nat := pre.foldl (fun _ x => x.1 + x.2.size) 0

theorem lastOf_snoc (pre : List (Nat × ByteArray)) (x : Nat × ByteArray) : lastOf (pre ++ [x]) = x.1 + x.2.size := by simp [lastOf]

/-- are the words so far, and what stands ahead of them, good? -/
def goodG (s : ByteArray) : Bool → Nat → List (Nat × ByteArray) → Bool
  | _, _, [] => true
  | first, last, (at_, w) :: r => okB first false (rb s last at_) && okU (runesOf w) && goodG s false (at_ + w.size) r

def goodW (s : ByteArray) (pre : List (Nat × ByteArray)) : Bool := goodG s true 0 pre

theorem goodG_snoc (s : ByteArray) : ∀ (pre : List (Nat × ByteArray)) (first : Bool) (last : Nat) (x : Nat × ByteArray),
    goodG s first last (pre ++ [x]) = (goodG s first last pre && okB (first && pre.isEmpty) false (rb s (pre.foldl (fun _ x => x.1 + x.2.size) last) x.1) && okU (runesOf x.2))
  | [], first, last, (at_, w) => by simp [goodG]
  | (a, v) :: pre, first, last, x => by
    rw [List.cons_append, goodG, goodG_snoc s pre false _ x, goodG]
    simp only [List.foldl_cons, List.isEmpty_cons, Bool.and_false, Bool.false_and]
    cases okB first false (rb s last a) <;> cases okU (runesOf v) <;> simp

theorem goodW_snoc (s : ByteArray) (pre : List (Nat × ByteArray)) (x : Nat × ByteArray) :
    goodW s (pre ++ [x]) = (goodW s pre && okB pre.isEmpty false (rb s (lastOf pre) x.1) && okU (runesOf x.2)) := by
  unfold goodW lastOf
  rw [goodG_snoc]
  simp

theorem goodG_all (s : ByteArray) : ∀ (ws : List (Nat × ByteArray)) (first : Bool) (last : Nat),
    goodR first (seg s last ws).1 (seg s last ws).2 = (goodG s first last ws && okB true true (rb s (ws.foldl (fun _ x => x.1 + x.2.size) last) s.size))
  | [], first, last => by simp [seg, goodR, goodG]
  | (at_, w) :: r, first, last => by
    rw [seg, goodR, goodG_all s r, goodG]
    simp only [List.foldl_cons, Bool.and_assoc]

def numsW (pre : List (Nat × ByteArray)) : List (Bool × List Nat × Bool × List Nat) := pre.map fun x => fracL (fracR (runesOf x.2))

theorem numsW_seg (s : ByteArray) : ∀ (ws : List (Nat × ByteArray)) (last : Nat), numsR (seg s last ws).1 = numsW ws
  | [], _ => rfl
  | (at_, w) :: r, last => by
    have := numsW_seg s r (at_ + w.size)
    simp only [seg, numsR, numsW, List.map_cons] at this ⊢
    rw [this]

/-- the law, as the loop has it -/
theorem apart_words (s : ByteArray) : ((rowOf s).2.2 = 0 ↔ (goodW s (wordsOf s) && okB true true (rb s (lastOf (wordsOf s)) s.size)) = true) ∧
    ((goodW s (wordsOf s) && okB true true (rb s (lastOf (wordsOf s)) s.size)) = true → rowOf s = (numsW (wordsOf s), 0, 0)) := by
  have h := apart_law (runesOf s)
  obtain ⟨h1, _⟩ := seg_words s
  have h2 := goodG_all s (wordsOf s) true 0
  have h3 := numsW_seg s (wordsOf s) 0
  rw [h1] at h2 h3
  rw [h2, h3] at h
  rw [rowOf_R]
  exact h

theorem chain_at (s : ByteArray) : ∀ (pre : List (Nat × ByteArray)) (last : Nat) (x : Nat × ByteArray) (r : List (Nat × ByteArray)), chainW s last (pre ++ x :: r) → (pre.foldl (fun _ x => x.1 + x.2.size) last) ≤ x.1 ∧ x.1 + x.2.size ≤ s.size
  | [], last, (a, w), r, h => by
    obtain ⟨h1, h2, _, _⟩ := h
    exact ⟨h1, h2⟩
  | (b, v) :: pre, last, x, r, h => by
    obtain ⟨_, _, _, h4⟩ := h
    exact chain_at s pre (b + v.size) x r h4

theorem chain_end (s : ByteArray) : ∀ (ws : List (Nat × ByteArray)) (last : Nat), chainW s last ws → (ws.foldl (fun _ x => x.1 + x.2.size) last) ≤ s.size
  | [], last, h => h
  | (a, w) :: r, last, h => by
    obtain ⟨_, _, _, h4⟩ := h
    exact chain_end s r _ h4

theorem words_at (s : ByteArray) (pre : List (Nat × ByteArray)) (x : Nat × ByteArray) (h : pre ++ [x] <+: wordsOf s) : lastOf pre ≤ x.1 ∧ x.1 + x.2.size ≤ s.size := by
  obtain ⟨t, ht⟩ := h
  have := (seg_words s).2
  rw [← ht, List.append_assoc] at this
  exact chain_at s pre 0 x t this

theorem words_end (s : ByteArray) : lastOf (wordsOf s) ≤ s.size := chain_end s _ 0 (seg_words s).2
end Go.Proofs.YtjjidmgeladicaaDoor

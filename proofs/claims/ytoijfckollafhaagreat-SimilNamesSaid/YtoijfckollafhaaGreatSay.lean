/- The plain law: what numeral reads is what the document says. -/
import Derived.Test.YtoijfckollafhaaGreatFrac02
namespace Go.Proofs.YtoijfckollafhaaGreat

theorem ahead2 (L : List Nat) : ahead 2 L = negative L := by
  cases L with
  | nil => rfl
  | cons r L =>
    show (kindOf r == 2) = isMinus r
    rw [Bool.eq_iff_iff, beq_iff_eq]
    exact kindOf_minus r

theorem behind2 (L : List Nat) : behind 2 L = if negative L then L.tail else L := by unfold behind; rw [ahead2]

theorem worth_ten (r : Nat) : worth r < 10 ↔ isDg r = true := by
  constructor
  · intro h
    rw [isDg_iff]
    rcases worth_cases r with ⟨d, rfl, _, _, _⟩ | ⟨d, _, h1, _, h3⟩ | ⟨d, _, h1, _, h3⟩ | ⟨_, _, _, h3⟩ <;> omega
  · intro h
    exact (worth_dg r h).2

theorem allOk_ten (U : List Nat) : AllOk 10 U ↔ ∀ r, r ∈ U → isDg r = true :=
  ⟨fun h r hr => (worth_ten r).1 (h r hr), fun h r hr => (worth_ten r).2 (h r hr)⟩

theorem past_nil (U : List Nat) : past U = [] ↔ ∀ r, r ∈ U → isDg r = true := by
  unfold past
  induction U with
  | nil => simp
  | cons x U ih =>
    by_cases h : isDg x = true
    · rw [List.dropWhile_cons_of_pos h, ih]
      simp [h]
    · rw [List.dropWhile_cons_of_neg h]
      simp [h]

theorem int_says (L : List Nat) : ((readF false L).1, (readF false L).2.1, (readF false L).2.2.2) = parseB 10 L := by
  obtain ⟨U, hU⟩ : ∃ U, behind 2 L = U := ⟨_, rfl⟩
  have hU2 : (if negative L then L.tail else L) = U := by rw [← behind2]; exact hU
  have hn : num1 L = digs U := by unfold num1; rw [hU]
  have he : end1 L = past U := by unfold end1; rw [hU]
  have hg : neg1 L = negative L := ahead2 L
  unfold readF
  rw [hn, he, hg]
  by_cases hall : ∀ r, r ∈ U → isDg r = true
  · obtain ⟨h1, h2⟩ := digs_all U hall
    rw [h1, h2]
    by_cases h0 : U = []
    · rw [parse_bad 10 L U hU2 (.inl h0), if_pos h0]
    · by_cases hb : 10000 < U.length
      · rw [parse_long 10 L U hU2 h0 ((allOk_ten U).2 hall) hb]
        simp [h0, hb]
      · rw [parse_ok 10 L U hU2 h0 ((allOk_ten U).2 hall) hb]
        simp [h0, hb]
  · have hp : past U ≠ [] := fun h => hall ((past_nil U).1 h)
    rw [parse_bad 10 L U hU2 (.inr fun h => hall ((allOk_ten U).1 h))]
    by_cases h0 : digs U = []
    · simp [h0]
    · simp [h0, hp]

theorem split_bar (L : List Nat) : L = upper L ++ L.dropWhile notBar := (List.takeWhile_append_dropWhile ..).symm

theorem lower_flag (L : List Nat) : (upper L).length < L.length ↔ L.dropWhile notBar ≠ [] := by
  have h := congrArg List.length (split_bar L)
  rw [List.length_append] at h
  rw [← List.length_pos_iff]
  omega

theorem lower_tail (L : List Nat) (h : L.dropWhile notBar ≠ []) : lower L = (L.dropWhile notBar).tail := by
  unfold lower
  rw [if_pos ((lower_flag L).2 h)]
  conv => lhs; rw [split_bar L]
  have e : upper (upper L ++ L.dropWhile notBar) = upper L := by rw [← split_bar L]
  rw [e, List.drop_append, List.drop_of_length_le (by omega), List.nil_append, Nat.add_sub_cancel_left, List.drop_one]

theorem lower_one (L : List Nat) (h : L.dropWhile notBar = []) : lower L = [49] := by
  unfold lower
  rw [if_neg fun h9 => (lower_flag L).1 h9 h]

theorem minus_bar_no (r : Nat) (h : isMinus r = true) : isBar r = false := by
  unfold isMinus at h
  unfold isBar
  simp only [Bool.or_eq_true, beq_iff_eq] at h
  rcases h with rfl | rfl <;> decide

theorem neg_upper (L : List Nat) : negative (upper L) = negative L := by
  cases L with
  | nil => rfl
  | cons r L =>
    by_cases h : isBar r = true
    · have : upper (r :: L) = [] := by unfold upper; rw [List.takeWhile_cons_of_neg (by unfold notBar; simp [h])]
      rw [this]
      show false = isMinus r
      cases hm : isMinus r
      · rfl
      · rw [minus_bar_no r hm] at h; cases h
    · have : upper (r :: L) = r :: upper L := by unfold upper; rw [List.takeWhile_cons_of_pos (by unfold notBar; simp [h])]
      rw [this]
      rfl

theorem upS_behind (L : List Nat) : upS L = upper (behind 2 L) ∧ L.dropWhile notBar = (behind 2 L).dropWhile notBar := by
  rw [behind2]
  unfold upS
  rw [neg_upper]
  cases L with
  | nil => exact ⟨rfl, rfl⟩
  | cons r L =>
    by_cases h : negative (r :: L) = true
    · have hm : isMinus r = true := h
      have hb := minus_bar_no r hm
      rw [if_pos h, if_pos h]
      have : upper (r :: L) = r :: upper L := by unfold upper; rw [List.takeWhile_cons_of_pos (by unfold notBar; simp [hb])]
      rw [this]
      refine ⟨rfl, ?_⟩
      rw [List.dropWhile_cons_of_pos (by unfold notBar; simp [hb])]
      rfl
    · rw [if_neg h, if_neg h]
      exact ⟨rfl, rfl⟩

theorem dg_notBar (r : Nat) (h : isDg r = true) : notBar r = true := by
  rw [isDg_iff] at h
  have h1 : ∀ k, (k < 48 ∨ 57 < k) → (r == k) = false := by intro k hk; simp; omega
  unfold notBar isBar
  rw [h1 47 (by omega), h1 8260 (by omega), h1 8725 (by omega)]
  rfl

theorem digs_dg (U : List Nat) : ∀ r, r ∈ digs U → isDg r = true := by
  unfold digs
  induction U with
  | nil => simp
  | cons x U ih =>
    intro r hr
    by_cases h : isDg x = true
    · rw [List.takeWhile_cons_of_pos h, List.mem_cons] at hr
      rcases hr with rfl | hr
      · exact h
      · exact ih r hr
    · rw [List.takeWhile_cons_of_neg h] at hr
      cases hr

theorem upper_digs (U : List Nat) : upper U = digs U ++ upper (past U) ∧ U.dropWhile notBar = (past U).dropWhile notBar := by
  have e : U = digs U ++ past U := (List.takeWhile_append_dropWhile ..).symm
  have hd : ∀ r, r ∈ digs U → notBar r = true := fun r hr => dg_notBar r (digs_dg U r hr)
  constructor
  · conv => lhs; rw [e]
    unfold upper
    rw [List.takeWhile_append_of_pos hd]
  · conv => lhs; rw [e]
    rw [List.dropWhile_append_of_pos hd]

theorem bad_false (D : List Nat) (h0 : D ≠ []) (h : ∀ r, r ∈ D → isDg r = true) : badB D = false := by
  cases hb : badB D
  · rfl
  · rcases (badB_iff D).1 hb with h1 | h1
    · exact absurd h1 h0
    · exact absurd ((allOk_ten D).2 h) h1

theorem bad_true (D : List Nat) (r : Nat) (hr : r ∈ D) (h : isDg r = false) : badB D = true :=
  (badB_iff D).2 (.inr fun h1 => by have := (allOk_ten D).1 h1 r hr; rw [h] at this; cases this)

theorem past_head (U : List Nat) (r : Nat) (R : List Nat) (h : past U = r :: R) : isDg r = false := by
  unfold past at h
  induction U with
  | nil => cases h
  | cons x U ih =>
    by_cases hx : isDg x = true
    · rw [List.dropWhile_cons_of_pos hx] at h
      exact ih h
    · rw [List.dropWhile_cons_of_neg hx] at h
      cases h
      simpa using hx

theorem frac_says (L : List Nat) : readF true L = fracR L := by
  obtain ⟨U, hU⟩ : ∃ U, behind 2 L = U := ⟨_, rfl⟩
  obtain ⟨h1, h2⟩ := upS_behind L
  rw [hU] at h1 h2
  obtain ⟨h3, h4⟩ := upper_digs U
  have hn : num1 L = digs U := by unfold num1; rw [hU]
  have he : end1 L = past U := by unfold end1; rw [hU]
  have hg : neg1 L = negative (upper L) := by rw [neg_upper]; exact ahead2 L
  have hdd := digs_dg U
  unfold readF fracR digN
  rw [hn, he, hg, h1, h3]
  cases hp : past U with
  | nil =>
    rw [hp] at h4
    have hl := lower_one L (h2.trans h4)
    have hf : ¬ (upper L).length < L.length := fun h => (lower_flag L).1 h (h2.trans h4)
    have hu : upper ([] : List Nat) = [] := rfl
    rw [hl, hu, List.append_nil, if_neg hf]
    by_cases h0 : digs U = []
    · rw [h0]; rfl
    · rw [if_neg h0, bad_false _ h0 hdd]
      have ha : ahead 3 ([] : List Nat) = false := rfl
      have hb : badB [49] = false := by decide
      have hz : allNought [49] = false := by decide
      have ho : ofDigits 10 ([49].map worth) = 1 := by decide
      rw [ha, hb, hz, ho]
      simp
  | cons r R =>
    have hr := past_head U r R hp
    by_cases hb : isBar r = true
    · have hu : upper (r :: R) = [] := by unfold upper; rw [List.takeWhile_cons_of_neg (by unfold notBar; simp [hb])]
      have hd : (r :: R).dropWhile notBar = r :: R := by rw [List.dropWhile_cons_of_neg (by unfold notBar; simp [hb])]
      rw [hp, hd] at h4
      have hne : L.dropWhile notBar ≠ [] := by rw [h2, h4]; simp
      have hl : lower L = R := by rw [lower_tail L hne, h2, h4]; rfl
      have hf := (lower_flag L).2 hne
      have ha : ahead 3 (r :: R) = true := by
        show (kindOf r == 3) = true
        rw [beq_iff_eq, kindOf_bar]
        refine ⟨?_, hb⟩
        cases hm : isMinus r
        · rfl
        · rw [minus_bar_no r hm] at hb; cases hb
      rw [hl, hu, List.append_nil, if_pos hf, ha]
      by_cases h0 : digs U = []
      · rw [h0]; rfl
      · rw [if_neg h0, bad_false _ h0 hdd]
        simp only [Bool.true_and, if_true, List.tail_cons, Bool.false_eq_true, if_false]
        by_cases hR0 : R = []
        · subst hR0; rfl
        · have hRe : R.isEmpty = false := by simp [hR0]
          simp only [hRe, Bool.not_false, Bool.and_true]
          by_cases hall : ∀ x, x ∈ R → isDg x = true
          · obtain ⟨e1, e2⟩ := digs_all R hall
            simp [bad_false R hR0 hall, e1, e2, hR0]
          · have hpn : past R ≠ [] := fun h => hall ((past_nil R).1 h)
            have hbad : badB R = true := (badB_iff R).2 (.inr fun h => hall ((allOk_ten R).1 h))
            have hno : allNought R = false := by
              cases h : allNought R
              · rfl
              · exfalso
                apply hall
                intro x hx
                unfold allNought at h
                rw [List.all_eq_true] at h
                have := h x hx
                rw [beq_iff_eq] at this
                subst this
                decide
            by_cases hd0 : digs R = []
            · simp [hd0, hbad, hno]
            · simp [hd0, hpn, hbad, hno]
    · have hbf : isBar r = false := by simpa using hb
      have ha : ahead 3 (r :: R) = false := by
        show (kindOf r == 3) = false
        rw [beq_eq_false_iff_ne]
        intro h
        rw [kindOf_bar] at h
        rw [hbf] at h
        cases h.2
      have hu : upper (r :: R) = r :: upper R := by unfold upper; rw [List.takeWhile_cons_of_pos (by unfold notBar; simp [hbf])]
      have hbad : badB (digs U ++ upper (r :: R)) = true := bad_true _ r (by rw [hu]; simp) hr
      rw [hbad, ha]
      by_cases h0 : digs U = []
      · simp [h0]
      · simp [h0]
end Go.Proofs.YtoijfckollafhaaGreat

/- The plain law of P2.10: a row is told just if its words are numbers, with at most one comma between two, and none at its ends. No condition. -/
import Derived.Test.YtjjidmgeladicaaDoorPlainLaw
import Derived.Test.YtjjidmgeladicaaDoorWords02
namespace Go.Proofs.YtjjidmgeladicaaDoor

/-! ### by runes -/

/-- what stands ahead of each word, with the word; and what stands behind the last one -/
def apw : Option (List Nat) → List Nat → List Nat → List (List Nat × List Nat) × List Nat
  | none, b, [] => ([], b)
  | some u, b, [] => ([(b, u)], [])
  | none, b, r :: L => if isSep r = true then apw none (b ++ [r]) L else apw (some [r]) b L
  | some u, b, r :: L => if isSep r = true then ((b, u) :: (apw none [r] L).1, (apw none [r] L).2) else apw (some (u ++ [r])) b L

def okRune (r : Nat) : Bool := r != 59 && r != 10
def commas (b : List Nat) : Nat := b.count 44
/-- may this stand between two words (first: ahead of the first one; last: behind the last one)? -/
def okB (first last : Bool) (b : List Nat) : Bool := b.all okRune && (commas b == 0 || (commas b == 1 && !first && !last))
def okU (u : List Nat) : Bool := (fracR u).2.2.2 == 0

/-- the words from some place on: are they good; and the numbers -/
def goodR : Bool → List (List Nat × List Nat) → List Nat → Bool
  | _, [], e => okB true true e
  | first, (b, u) :: X, e => okB first false b && okU u && goodR false X e

def numsR (X : List (List Nat × List Nat)) : List (Bool × List Nat × Bool × List Nat) := X.map fun x => fracL (fracR x.2)

theorem okB_last (f : Bool) (e : List Nat) : okB f true e = okB true true e := by simp [okB]

def commaP (b : List Nat) : List (List Nat × Bool) := List.replicate (commas b) ([], true)

def asm : List (List Nat × List Nat) → List Nat → List (List Nat × Bool)
  | [], e => commaP e
  | (b, u) :: X, e => commaP b ++ (u, false) :: asm X e

theorem sep_cases (r : Nat) : isSep r = true ↔ (kindOf r = 4 ∨ r = 44 ∨ (r = 59 ∨ r = 10)) := by
  unfold isSep kindOf isMinus isBar isGap isDigit
  simp only [Bool.or_eq_true, beq_iff_eq, Bool.and_eq_true, decide_eq_true_eq]
  constructor
  · intro h
    by_cases h1 : r = 45 ∨ r = 8722
    · omega
    · rw [if_neg h1]
      by_cases h2 : (r = 47 ∨ r = 8260) ∨ r = 8725
      · omega
      · rw [if_neg h2]
        by_cases h3 : ((r = 32 ∨ r = 9) ∨ r = 160) ∨ r = 8201
        · rw [if_pos h3]; omega
        · omega
  · intro h
    rcases h with h | h | h
    · by_cases h1 : r = 45 ∨ r = 8722
      · rw [if_pos h1] at h; omega
      · rw [if_neg h1] at h
        by_cases h2 : (r = 47 ∨ r = 8260) ∨ r = 8725
        · rw [if_pos h2] at h; omega
        · rw [if_neg h2] at h
          by_cases h3 : ((r = 32 ∨ r = 9) ∨ r = 160) ∨ r = 8201
          · omega
          · rw [if_neg h3] at h
            repeat' split at h
            all_goals omega
    · omega
    · omega

theorem kind_44 : kindOf 44 = 5 := by decide
theorem kind_5 (r : Nat) (h : kindOf r = 5) : r = 44 := by
  unfold kindOf at h
  repeat' split at h
  all_goals first | assumption | omega

theorem commas_snoc (b : List Nat) (r : Nat) : commas (b ++ [r]) = commas b + if r = 44 then 1 else 0 := by
  unfold commas
  rw [List.count_append, List.count_singleton]
  by_cases h : r = 44
  · simp [h]
  · simp [h]

theorem commaP_snoc (b : List Nat) (r : Nat) : commaP (b ++ [r]) = commaP b ++ if r = 44 then [([], true)] else [] := by
  unfold commaP
  rw [commas_snoc]
  by_cases h : r = 44
  · rw [if_pos h, if_pos h, List.replicate_succ']
  · rw [if_neg h, if_neg h]; simp

/-- without rows' ends the pieces are these -/
theorem pcsR_asm : ∀ (L : List Nat) (fr : Option (List Nat)) (b : List Nat), (∀ r, r ∈ L → okRune r = true) →
    commaP b ++ pcsR fr L = asm (apw fr b L).1 (apw fr b L).2
  | [], none, b, _ => by simp [pcsR, flushR, apw, asm]
  | [], some u, b, _ => by simp [pcsR, flushR, apw, asm, commaP, commas]
  | r :: L, none, b, h => by
    have hr := h r (List.mem_cons_self ..)
    have hL : ∀ r, r ∈ L → okRune r = true := fun r hr => h r (List.mem_cons_of_mem _ hr)
    have hs := sep_cases r
    rw [pcsR, apw]
    by_cases h4 : kindOf r = 4
    · have h44 : r ≠ 44 := by intro e; rw [e] at h4; exact absurd h4 (by decide)
      rw [if_pos h4, if_pos (hs.2 (.inl h4)), ← pcsR_asm L none _ hL, commaP_snoc, if_neg h44]
      simp [flushR]
    · rw [if_neg h4]
      by_cases h5 : kindOf r = 5
      · have h44 := kind_5 r h5
        rw [if_pos h5, if_pos (hs.2 (.inr (.inl h44))), ← pcsR_asm L none _ hL, commaP_snoc, if_pos h44]
        simp [flushR]
      · have hns : ¬ isSep r = true := by
          intro e
          rcases hs.1 e with h | h | h
          · exact h4 h
          · rw [h] at h5; exact h5 kind_44
          · simp [okRune] at hr; omega
        rw [if_neg h5, if_neg hns, ← pcsR_asm L (some [r]) b hL]
        rfl
  | r :: L, some u, b, h => by
    have hr := h r (List.mem_cons_self ..)
    have hL : ∀ r, r ∈ L → okRune r = true := fun r hr => h r (List.mem_cons_of_mem _ hr)
    have hs := sep_cases r
    rw [pcsR, apw]
    have h1 := pcsR_asm L none [r] hL
    by_cases h4 : kindOf r = 4
    · have h44 : r ≠ 44 := by intro e; rw [e] at h4; exact absurd h4 (by decide)
      rw [if_pos h4, if_pos (hs.2 (.inl h4))]
      have hc : commaP [r] = [] := by simp [commaP, commas, h44]
      rw [hc] at h1
      simp only [flushR, asm, List.cons_append, List.nil_append]
      rw [← h1]
      rfl
    · rw [if_neg h4]
      by_cases h5 : kindOf r = 5
      · have h44 := kind_5 r h5
        rw [if_pos h5, if_pos (hs.2 (.inr (.inl h44)))]
        have hc : commaP [r] = [([], true)] := by simp [commaP, commas, h44]
        rw [hc] at h1
        simp only [flushR, asm, List.cons_append, List.nil_append]
        rw [← h1]
        rfl
      · have hns : ¬ isSep r = true := by
          intro e
          rcases hs.1 e with h | h | h
          · exact h4 h
          · rw [h] at h5; exact h5 kind_44
          · simp [okRune] at hr; omega
        rw [if_neg h5, if_neg hns, ← pcsR_asm L (some (u ++ [r])) b hL]
        rfl

theorem rowGoR_commas2 (bad : Bool) (out : List (Bool × List Nat × Bool × List Nat)) (n : Nat) (P : List (List Nat × Bool)) : (rowGoR bad out (List.replicate (n + 2) ([], true) ++ P)).2.2 ≠ 0 := by
  rw [List.replicate_succ, List.replicate_succ, List.cons_append, List.cons_append, rowGoR]
  split
  · simp
  · rw [rowGoR, if_pos (.inl rfl)]; simp

/-- the row of such pieces -/
theorem rowGoR_asm : ∀ (X : List (List Nat × List Nat)) (e : List Nat) (bad : Bool) (out : List (Bool × List Nat × Bool × List Nat)), (∀ x, x ∈ X → x.1.all okRune = true) → e.all okRune = true →
    ((rowGoR bad out (asm X e)).2.2 = 0 ↔ goodR bad X e = true) ∧ (goodR bad X e = true → rowGoR bad out (asm X e) = (out ++ numsR X, 0, 0))
  | [], e, bad, out, _, he => by
    rw [asm, goodR, okB, he]
    obtain ⟨n, hn⟩ : ∃ n, commas e = n := ⟨_, rfl⟩
    unfold commaP
    rw [hn]
    match n with
    | 0 => simp [rowGoR, numsR]
    | 1 =>
      simp only [List.replicate_succ, List.replicate_zero, rowGoR]
      simp
    | n + 2 =>
      have := rowGoR_commas2 bad out n []
      rw [List.append_nil] at this
      refine ⟨⟨fun h => absurd h this, fun h => by simp at h⟩, fun h => by simp at h⟩
  | (b, u) :: X, e, bad, out, hX, he => by
    have hb := hX _ (List.mem_cons_self ..)
    dsimp only at hb
    have ih := rowGoR_asm X e false (out ++ [fracL (fracR u)]) (fun x hx => hX x (List.mem_cons_of_mem _ hx)) he
    rw [asm, goodR, okB, hb]
    obtain ⟨n, hn⟩ : ∃ n, commas b = n := ⟨_, rfl⟩
    unfold commaP
    rw [hn]
    have hu : ∀ bd, rowGoR bd out ((u, false) :: asm X e) = if (fracR u).2.2.2 ≠ 0 then ([], out.length + 1, (fracR u).2.2.2) else rowGoR false (out ++ [fracL (fracR u)]) (asm X e) := fun bd => by rw [rowGoR]
    have key : ∀ bd, ((rowGoR bd out ((u, false) :: asm X e)).2.2 = 0 ↔ (okU u && goodR false X e) = true) ∧ ((okU u && goodR false X e) = true → rowGoR bd out ((u, false) :: asm X e) = (out ++ numsR ((b, u) :: X), 0, 0)) := by
      intro bd
      rw [hu]
      by_cases h0 : (fracR u).2.2.2 = 0
      · rw [if_neg (by simpa using h0)]
        have hk : okU u = true := by simp [okU, h0]
        rw [hk, Bool.true_and]
        refine ⟨ih.1, fun h => ?_⟩
        rw [ih.2 h]
        simp [numsR]
      · rw [if_pos h0]
        have hk : okU u = false := by simp [okU, h0]
        rw [hk]
        simp [h0]
    match n with
    | 0 =>
      have := key bad
      simpa using this
    | 1 =>
      simp only [List.replicate_succ, List.replicate_zero, List.cons_append, List.nil_append]
      rw [rowGoR]
      cases bad with
      | true => simp
      | false =>
        have := key true
        simpa using this
    | n + 2 =>
      have := rowGoR_commas2 bad out n ((u, false) :: asm X e)
      refine ⟨⟨fun h => absurd h this, fun h => by simp at h⟩, fun h => by simp at h⟩

/-! ### where a row's end stands -/

theorem rowGoR_bad : ∀ (P : List (List Nat × Bool)) (bad : Bool) (out : List (Bool × List Nat × Bool × List Nat)), (∃ u, (u, false) ∈ P ∧ (fracR u).2.2.2 ≠ 0) → (rowGoR bad out P).2.2 ≠ 0
  | [], _, _, h => by obtain ⟨u, h, _⟩ := h; cases h
  | (v, true) :: P, bad, out, h => by
    rw [rowGoR]
    split
    · simp
    · refine rowGoR_bad P true out ?_
      obtain ⟨u, h, h2⟩ := h
      rcases List.mem_cons.1 h with h | h
      · simp at h
      · exact ⟨u, h, h2⟩
  | (v, false) :: P, bad, out, h => by
    rw [rowGoR]
    split
    · assumption
    · rename_i h0
      refine rowGoR_bad P false _ ?_
      obtain ⟨u, h, h2⟩ := h
      rcases List.mem_cons.1 h with h | h
      · simp only [Prod.mk.injEq, and_true] at h
        rw [h] at h2
        exact absurd h2 h0
      · exact ⟨u, h, h2⟩

theorem rune_in : ∀ (L : List Nat) (fr : Option (List Nat)) (r : Nat), kindOf r ≠ 4 → kindOf r ≠ 5 → (r ∈ L ∨ ∃ u, fr = some u ∧ r ∈ u) → ∃ u, (u, false) ∈ pcsR fr L ∧ r ∈ u
  | [], fr, r, h4, h5, h => by
    rcases h with h | ⟨u, rfl, h⟩
    · cases h
    · exact ⟨u, by simp [pcsR, flushR], h⟩
  | x :: L, fr, r, h4, h5, h => by
    rw [pcsR]
    have hfl : ∀ u, fr = some u → r ∈ u → (u, false) ∈ flushR fr := fun u e _ => by rw [e]; simp [flushR]
    by_cases h1 : kindOf x = 4
    · rw [if_pos h1]
      rcases h with h | ⟨u, e, h⟩
      · rcases List.mem_cons.1 h with h | h
        · rw [h] at h4; exact absurd h1 h4
        · obtain ⟨u, h, h2⟩ := rune_in L none r h4 h5 (.inl h)
          exact ⟨u, List.mem_append_right _ h, h2⟩
      · exact ⟨u, List.mem_append_left _ (hfl u e h), h⟩
    · rw [if_neg h1]
      by_cases h2 : kindOf x = 5
      · rw [if_pos h2]
        rcases h with h | ⟨u, e, h⟩
        · rcases List.mem_cons.1 h with h | h
          · rw [h] at h5; exact absurd h2 h5
          · obtain ⟨u, h, h3⟩ := rune_in L none r h4 h5 (.inl h)
            exact ⟨u, List.mem_append_right _ (List.mem_cons_of_mem _ h), h3⟩
        · exact ⟨u, List.mem_append_left _ (hfl u e h), h⟩
      · rw [if_neg h2]
        refine rune_in L _ r h4 h5 ?_
        rcases h with h | ⟨u, e, h⟩
        · rcases List.mem_cons.1 h with h | h
          · exact .inr ⟨_, rfl, by rw [h]; simp⟩
          · exact .inl h
        · exact .inr ⟨_, rfl, by rw [e]; simp [h]⟩

theorem fracR_end (u : List Nat) (r : Nat) (hr : r ∈ u) (h : r = 59 ∨ r = 10) : (fracR u).2.2.2 ≠ 0 := by
  have hw : ¬ worth r < 10 := by rcases h with rfl | rfl <;> decide
  have hnm : isMinus r = false := by rcases h with rfl | rfl <;> decide
  have hnb : notBar r = true := by rcases h with rfl | rfl <;> decide
  have key : badB (upS u) = true ∨ badB (lower u) = true := by
    by_cases hu : r ∈ upper u
    · left
      rw [badB_iff]
      right
      intro hall
      refine hw (hall r ?_)
      unfold upS
      split
      · rename_i hneg
        cases hq : upper u with
        | nil => rw [hq] at hu; cases hu
        | cons x t =>
          rw [hq] at hu hneg
          rcases List.mem_cons.1 hu with e | e
          · rw [← e] at hneg
            simp [negative, hnm] at hneg
          · simpa using e
      · exact hu
    · right
      rw [badB_iff]
      right
      intro hall
      refine hw (hall r ?_)
      have hsp : u = upper u ++ u.drop (upper u).length := by
        conv => lhs; rw [← List.takeWhile_append_dropWhile (p := notBar) (l := u)]
        unfold upper
        congr 1
        have := List.takeWhile_append_dropWhile (p := notBar) (l := u)
        conv => rhs; rw [← this]
        rw [List.drop_append, List.drop_eq_nil_of_le (by rw [this]; exact Nat.le_refl _)]
        rw [this]
        simp
      have hd : r ∈ u.drop (upper u).length := by
        rw [hsp] at hr
        rcases List.mem_append.1 hr with h | h
        · exact absurd h hu
        · exact h
      have hlt : (upper u).length < u.length := by
        rcases Nat.lt_or_ge (upper u).length u.length with h | h
        · exact h
        · rw [List.drop_eq_nil_of_le h] at hd; cases hd
      unfold lower
      rw [if_pos hlt]
      rw [List.drop_eq_getElem_cons hlt] at hd
      rcases List.mem_cons.1 hd with e | e
      · exfalso
        have hdw : u.dropWhile notBar = u.drop (upper u).length := by
          have h1 := List.takeWhile_append_dropWhile (p := notBar) (l := u)
          have h2 : upper u ++ u.dropWhile notBar = upper u ++ u.drop (upper u).length := by
            rw [← hsp]; exact h1
          exact List.append_cancel_left h2
        have hne : u.dropWhile notBar ≠ [] := by
          intro e2
          rw [e2] at hdw
          have := congrArg List.length hdw
          rw [List.length_drop, List.length_nil] at this
          omega
        have := List.head_dropWhile_not notBar hne
        have h3 : (u.dropWhile notBar).head hne = r := by
          have : u.dropWhile notBar = u[(upper u).length] :: u.drop ((upper u).length + 1) := by rw [hdw, List.drop_eq_getElem_cons hlt]
          simp only [this, List.head_cons]
          exact e.symm
        rw [h3, hnb] at this
        cases this
      · exact e
  unfold fracR
  by_cases h1 : badB (upS u) = true
  · rw [if_pos h1]; simp
  · rw [if_neg h1]
    rcases key with h2 | h2
    · exact absurd h2 h1
    · rw [if_pos h2]; simp

theorem apw_end : ∀ (L : List Nat) (fr : Option (List Nat)) (b : List Nat) (r : Nat), (r = 59 ∨ r = 10) → (r ∈ L ∨ r ∈ b) → (∃ x, x ∈ (apw fr b L).1 ∧ r ∈ x.1) ∨ r ∈ (apw fr b L).2
  | [], none, b, r, _, h => by
    rcases h with h | h
    · cases h
    · exact .inr (by simpa [apw] using h)
  | [], some u, b, r, _, h => by
    rcases h with h | h
    · cases h
    · exact .inl ⟨(b, u), by simp [apw], h⟩
  | x :: L, none, b, r, he, h => by
    rw [apw]
    have hs := (sep_cases r).2 (.inr (.inr he))
    by_cases hx : isSep x = true
    · rw [if_pos hx]
      refine apw_end L none _ r he ?_
      rcases h with h | h
      · rcases List.mem_cons.1 h with h | h
        · exact .inr (by simp [h])
        · exact .inl h
      · exact .inr (by simp [h])
    · rw [if_neg hx]
      refine apw_end L _ b r he ?_
      rcases h with h | h
      · rcases List.mem_cons.1 h with h | h
        · rw [h] at hs; exact absurd hs hx
        · exact .inl h
      · exact .inr h
  | x :: L, some u, b, r, he, h => by
    rw [apw]
    have hs := (sep_cases r).2 (.inr (.inr he))
    by_cases hx : isSep x = true
    · rw [if_pos hx]
      dsimp only
      rcases h with h | h
      · have : (∃ y, y ∈ (apw none [x] L).1 ∧ r ∈ y.1) ∨ r ∈ (apw none [x] L).2 := by
          refine apw_end L none [x] r he ?_
          rcases List.mem_cons.1 h with h | h
          · exact .inr (by simp [h])
          · exact .inl h
        rcases this with ⟨y, h1, h2⟩ | h1
        · exact .inl ⟨y, List.mem_cons_of_mem _ h1, h2⟩
        · exact .inr h1
      · exact .inl ⟨(b, u), List.mem_cons_self .., h⟩
    · rw [if_neg hx]
      refine apw_end L _ b r he ?_
      rcases h with h | h
      · rcases List.mem_cons.1 h with h | h
        · rw [h] at hs; exact absurd hs hx
        · exact .inl h
      · exact .inr h

theorem all_bad (b : List Nat) (r : Nat) (h : r ∈ b) (he : r = 59 ∨ r = 10) : b.all okRune = false := by
  rw [List.all_eq_false]
  exact ⟨r, h, by rcases he with rfl | rfl <;> decide⟩

theorem goodR_bad : ∀ (X : List (List Nat × List Nat)) (e : List Nat) (first : Bool) (r : Nat), (r = 59 ∨ r = 10) → ((∃ x, x ∈ X ∧ r ∈ x.1) ∨ r ∈ e) → goodR first X e = false
  | [], e, first, r, he, h => by
    rcases h with ⟨x, h, _⟩ | h
    · cases h
    · rw [goodR, okB, all_bad e r h he]; rfl
  | (b, u) :: X, e, first, r, he, h => by
    rw [goodR]
    by_cases hb : r ∈ b
    · rw [okB, all_bad b r hb he]; rfl
    · rw [goodR_bad X e false r he]
      · simp
      · rcases h with ⟨x, h, h2⟩ | h
        · rcases List.mem_cons.1 h with h | h
          · rw [h] at h2; exact absurd h2 hb
          · exact .inl ⟨x, h, h2⟩
        · exact .inr h

theorem apw_ok : ∀ (L : List Nat) (fr : Option (List Nat)) (b : List Nat), (∀ r, r ∈ L → okRune r = true) → b.all okRune = true → (∀ x, x ∈ (apw fr b L).1 → x.1.all okRune = true) ∧ (apw fr b L).2.all okRune = true
  | [], none, b, _, hb => by simpa [apw] using hb
  | [], some u, b, _, hb => by simpa [apw] using hb
  | x :: L, none, b, h, hb => by
    have hx := h x (List.mem_cons_self ..)
    have hL : ∀ r, r ∈ L → okRune r = true := fun r hr => h r (List.mem_cons_of_mem _ hr)
    rw [apw]
    split
    · exact apw_ok L none _ hL (by rw [List.all_append, hb]; simpa using hx)
    · exact apw_ok L _ b hL hb
  | x :: L, some u, b, h, hb => by
    have hx := h x (List.mem_cons_self ..)
    have hL : ∀ r, r ∈ L → okRune r = true := fun r hr => h r (List.mem_cons_of_mem _ hr)
    rw [apw]
    split
    · obtain ⟨h1, h2⟩ := apw_ok L none [x] hL (by simpa using hx)
      refine ⟨fun y hy => ?_, h2⟩
      rcases List.mem_cons.1 hy with rfl | hy
      · exact hb
      · exact h1 y hy
    · exact apw_ok L _ b hL hb

/-- the law by runes -/
theorem apart_law (L : List Nat) : ((rowR L).2.2 = 0 ↔ goodR true (apw none [] L).1 (apw none [] L).2 = true) ∧ (goodR true (apw none [] L).1 (apw none [] L).2 = true → rowR L = (numsR (apw none [] L).1, 0, 0)) := by
  unfold rowR
  by_cases h : ∀ r, r ∈ L → okRune r = true
  · have h1 := pcsR_asm L none [] h
    obtain ⟨h2, h3⟩ := apw_ok L none [] h rfl
    have h4 := rowGoR_asm _ _ true [] h2 h3
    rw [show commaP [] ++ pcsR none L = pcsR none L from rfl] at h1
    rw [← h1] at h4
    simpa using h4
  · obtain ⟨r, hr, he⟩ : ∃ r, r ∈ L ∧ (r = 59 ∨ r = 10) := by
      obtain ⟨r, hr⟩ := Classical.not_forall.1 h
      obtain ⟨h1, h2⟩ := Classical.not_imp.1 hr
      refine ⟨r, h1, ?_⟩
      simp [okRune] at h2
      omega
    have h1 : kindOf r ≠ 4 := by rcases he with rfl | rfl <;> decide
    have h2 : kindOf r ≠ 5 := by rcases he with rfl | rfl <;> decide
    obtain ⟨u, hu, hru⟩ := rune_in L none r h1 h2 (.inl hr)
    have h3 := rowGoR_bad (pcsR none L) true [] ⟨u, hu, fracR_end u r hru he⟩
    have h4 := goodR_bad _ _ true r he (apw_end L none [] r he (.inl hr))
    rw [h4]
    exact ⟨⟨fun h => absurd h h3, fun h => by cases h⟩, fun h => by cases h⟩

end Go.Proofs.YtjjidmgeladicaaDoor

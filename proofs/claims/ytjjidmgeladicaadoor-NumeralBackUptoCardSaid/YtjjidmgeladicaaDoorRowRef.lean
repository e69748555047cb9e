/- What simileref02.row says by its runes (parts, words), and that it is what numeral.Row says; a matrix likewise. Plain; no condition. -/
import Derived.Test.YtjjidmgeladicaaDoorPlainLaw
namespace Go.Proofs.YtjjidmgeladicaaDoor

/-! ### parts and words -/

def pStep (p : Nat → Bool) (st : List (List Nat) × List Nat) (r : Nat) : List (List Nat) × List Nat := if p r = true then (st.1 ++ [st.2], []) else (st.1, st.2 ++ [r])
def partSt (p : Nat → Bool) (cur L : List Nat) : List (List Nat) × List Nat := L.foldl (pStep p) ([], cur)
/-- runes at each one that parts them -/
def partedL (p : Nat → Bool) (L : List Nat) : List (List Nat) := (partSt p [] L).1 ++ [(partSt p [] L).2]

def wStep (st : List (List Nat) × List Nat) (r : Nat) : List (List Nat) × List Nat := if isGap r = true then (if st.2 = [] then st.1 else st.1 ++ [st.2], []) else (st.1, st.2 ++ [r])
def wordSt (L : List Nat) : List (List Nat) × List Nat := L.foldl wStep ([], [])
/-- what stands between gaps -/
def wordsL (L : List Nat) : List (List Nat) := (wordSt (L ++ [32])).1

theorem wordSt_snoc (L : List Nat) (r : Nat) : wordSt (L ++ [r]) = wStep (wordSt L) r := by simp [wordSt]

def isComma (r : Nat) : Bool := r == 44
def isEnd (r : Nat) : Bool := r == 59 || r == 10

theorem pStep_yes (p : Nat → Bool) (st : List (List Nat) × List Nat) (r : Nat) (h : p r = true) : pStep p st r = (st.1 ++ [st.2], []) := if_pos h
theorem pStep_no (p : Nat → Bool) (st : List (List Nat) × List Nat) (r : Nat) (h : ¬ p r = true) : pStep p st r = (st.1, st.2 ++ [r]) := if_neg h

theorem pStep_done (p : Nat → Bool) : ∀ (L : List Nat) (done : List (List Nat)) (cur : List Nat), L.foldl (pStep p) (done, cur) = (done ++ (partSt p cur L).1, (partSt p cur L).2)
  | [], done, cur => by simp [partSt]
  | r :: L, done, cur => by
    unfold partSt
    rw [List.foldl_cons, List.foldl_cons]
    by_cases h : p r = true
    · rw [pStep_yes p _ r h, pStep_yes p _ r h, pStep_done p L, pStep_done p L ([] ++ [cur])]
      simp
    · rw [pStep_no p _ r h, pStep_no p _ r h, pStep_done p L]
      rfl

theorem partSt_cons (p : Nat → Bool) (cur : List Nat) (r : Nat) (L : List Nat) : partSt p cur (r :: L) = if p r = true then (cur :: (partSt p [] L).1, (partSt p [] L).2) else partSt p (cur ++ [r]) L := by
  conv => lhs; unfold partSt
  rw [List.foldl_cons]
  by_cases h : p r = true
  · rw [if_pos h, pStep_yes p _ r h, pStep_done]; simp
  · rw [if_neg h, pStep_no p _ r h]; rfl

theorem kind_gap (r : Nat) : kindOf r = 4 ↔ isGap r = true := by
  unfold kindOf
  by_cases h1 : isMinus r = true
  · have : isGap r = false := by
      simp only [isMinus, Bool.or_eq_true, beq_iff_eq] at h1
      rcases h1 with rfl | rfl <;> decide
    rw [if_pos h1, this]; simp
  · rw [if_neg h1]
    by_cases h2 : isBar r = true
    · have : isGap r = false := by
        simp only [isBar, Bool.or_eq_true, beq_iff_eq] at h2
        rcases h2 with (rfl | rfl) | rfl <;> decide
      rw [if_pos h2, this]; simp
    · rw [if_neg h2]
      by_cases h3 : isGap r = true
      · rw [if_pos h3]; simp [h3]
      · rw [if_neg h3]
        constructor
        · intro h
          repeat' split at h
          all_goals omega
        · intro h; exact absurd h h3

theorem kind_comma (r : Nat) : kindOf r = 5 ↔ isComma r = true := by
  unfold isComma
  rw [beq_iff_eq]
  constructor
  · intro h
    unfold kindOf at h
    repeat' split at h
    all_goals first | assumption | omega
  · rintro rfl; rfl

/-! ### a row -/

abbrev Fr := Bool × List Nat × Bool × List Nat

/-- some words read as fractions: those that are some, and the error -/
def fracsGo : List Fr → List (List Nat) → List Fr × Nat
  | out, [] => (out, 0)
  | out, x :: xs => if (fracR x).2.2.2 ≠ 0 then (out, (fracR x).2.2.2) else fracsGo (out ++ [fracL (fracR x)]) xs

def cellsGo (many : Bool) : List Fr → List (List Nat) → List Fr × Nat × Nat
  | out, [] => (out, 0, 0)
  | out, c :: cs =>
    if wordsL c = [] ∧ many = true then ([], out.length + 1, 21)
    else if (fracsGo out (wordsL c)).2 ≠ 0 then ([], (fracsGo out (wordsL c)).1.length + 1, (fracsGo out (wordsL c)).2) else cellsGo many (fracsGo out (wordsL c)).1 cs

/-- what simileref02.row says -/
def rowRef (L : List Nat) : List Fr × Nat × Nat := cellsGo (decide (1 < (partedL isComma L).length)) [] (partedL isComma L)

def wordsP (c : List Nat) : List (List Nat × Bool) := (wordsL c).map fun u => (u, false)

def joinC : List (List Nat) → List (List Nat × Bool)
  | [] => []
  | [c] => wordsP c
  | c :: d :: cs => wordsP c ++ ([], true) :: joinC (d :: cs)

def optW (w : List Nat) : Option (List Nat) := if w = [] then none else some w

theorem optW_get (w : List Nat) : (optW w).getD [] = w := by unfold optW; split <;> simp_all

theorem wordsP_eq (c : List Nat) : wordsP c = ((wordSt c).1.map fun u => (u, false)) ++ flushR (optW (wordSt c).2) := by
  unfold wordsP wordsL
  rw [wordSt_snoc]
  unfold wStep optW
  rw [if_pos (by rfl)]
  by_cases h : (wordSt c).2 = []
  · simp [h, flushR]
  · simp [h, flushR]

theorem pcs_cells : ∀ (L cur : List Nat), joinC ((partSt isComma cur L).1 ++ [(partSt isComma cur L).2]) = ((wordSt cur).1.map fun u => (u, false)) ++ pcsR (optW (wordSt cur).2) L
  | [], cur => by
    show joinC [cur] = _
    rw [pcsR]
    exact wordsP_eq cur
  | r :: L, cur => by
    rw [partSt_cons, pcsR]
    by_cases h5 : isComma r = true
    · have hk := (kind_comma r).2 h5
      rw [if_pos h5, if_neg (by omega), if_pos hk]
      have ih := pcs_cells L []
      obtain ⟨d, cs, hd⟩ : ∃ d cs, (partSt isComma [] L).1 ++ [(partSt isComma [] L).2] = d :: cs := by
        cases h : (partSt isComma [] L).1 with
        | nil => exact ⟨_, [], rfl⟩
        | cons d cs => exact ⟨d, cs ++ [(partSt isComma [] L).2], rfl⟩
      have h2 : (cur :: (partSt isComma [] L).1) ++ [(partSt isComma [] L).2] = cur :: d :: cs := by rw [List.cons_append, hd]
      rw [hd] at ih
      show joinC ((cur :: (partSt isComma [] L).1) ++ [(partSt isComma [] L).2]) = _
      rw [h2, joinC, ih, wordsP_eq]
      simp [wordSt, optW]
    · have hk : kindOf r ≠ 5 := fun h => h5 ((kind_comma r).1 h)
      rw [if_neg h5, pcs_cells L (cur ++ [r]), wordSt_snoc]
      unfold wStep
      by_cases h4 : isGap r = true
      · have hk4 := (kind_gap r).2 h4
        rw [if_pos h4, if_pos hk4]
        unfold optW
        by_cases hw : (wordSt cur).2 = []
        · simp [hw, flushR]
        · simp [hw, flushR]
      · have hk4 : kindOf r ≠ 4 := fun h => h4 ((kind_gap r).1 h)
        rw [if_neg h4, if_neg hk4, if_neg hk]
        have : optW ((wordSt cur).2 ++ [r]) = some ((wordSt cur).2 ++ [r]) := by simp [optW]
        rw [this, optW_get]

theorem pcsR_join (L : List Nat) : pcsR none L = joinC (partedL isComma L) := by
  unfold partedL
  rw [pcs_cells]
  rfl

theorem rowGoR_words : ∀ (ws : List (List Nat)) (bad : Bool) (out : List Fr) (rest : List (List Nat × Bool)),
    rowGoR bad out (ws.map (fun u => (u, false)) ++ rest) =
      if (fracsGo out ws).2 ≠ 0 then ([], (fracsGo out ws).1.length + 1, (fracsGo out ws).2) else rowGoR (if ws = [] then bad else false) (fracsGo out ws).1 rest
  | [], bad, out, rest => by simp [fracsGo]
  | x :: ws, bad, out, rest => by
    rw [List.map_cons, List.cons_append, rowGoR, fracsGo]
    by_cases h : (fracR x).2.2.2 ≠ 0
    · rw [if_pos h, if_pos h, if_pos h]
    · rw [if_neg h, if_neg h, rowGoR_words ws false]
      have e : (if ws = [] then false else false) = false := by split <;> rfl
      rw [e, if_neg (by simp : ¬ (x :: ws = []))]

theorem rowGoR_cells : ∀ (cs : List (List Nat)) (out : List Fr), cs ≠ [] →
    (joinC cs ≠ [] → rowGoR true out (joinC cs) = cellsGo true out cs) ∧ (joinC cs = [] → cellsGo true out cs = ([], out.length + 1, 21))
  | [], _, h => absurd rfl h
  | [c], out, _ => by
    have hj : joinC [c] = wordsP c := rfl
    rw [hj]
    constructor
    · intro h
      have hw : wordsL c ≠ [] := fun e => h (by simp [wordsP, e])
      rw [cellsGo, if_neg (fun e => hw e.1)]
      have := rowGoR_words (wordsL c) true out []
      rw [List.append_nil] at this
      unfold wordsP
      rw [this, if_neg hw]
      rfl
    · intro h
      have hw : wordsL c = [] := by simpa [wordsP] using h
      rw [cellsGo, if_pos ⟨hw, rfl⟩]
  | c :: d :: cs, out, _ => by
    have hj : joinC (c :: d :: cs) = wordsP c ++ ([], true) :: joinC (d :: cs) := rfl
    rw [hj]
    refine ⟨fun _ => ?_, fun h => by simp at h⟩
    have hcg : cellsGo true out (c :: d :: cs) = if wordsL c = [] ∧ true = true then ([], out.length + 1, 21)
      else if (fracsGo out (wordsL c)).2 ≠ 0 then ([], (fracsGo out (wordsL c)).1.length + 1, (fracsGo out (wordsL c)).2) else cellsGo true (fracsGo out (wordsL c)).1 (d :: cs) := rfl
    unfold wordsP
    rw [hcg, rowGoR_words]
    by_cases hw : wordsL c = []
    · rw [hw]
      simp [fracsGo, rowGoR]
    · have hnw : ¬ (wordsL c = [] ∧ true = true) := fun e => hw e.1
      rw [if_neg hnw, if_neg hw]
      by_cases hf : (fracsGo out (wordsL c)).2 ≠ 0
      · rw [if_pos hf, if_pos hf]
      · rw [if_neg hf, if_neg hf, rowGoR]
        obtain ⟨h1, h2⟩ := rowGoR_cells (d :: cs) (fracsGo out (wordsL c)).1 (by simp)
        by_cases hn : joinC (d :: cs) = []
        · rw [if_pos (.inr hn), h2 hn]
        · rw [if_neg (by simp [hn]), h1 hn]

theorem rowRef_eq (L : List Nat) : rowRef L = rowR L := by
  unfold rowRef rowR
  rw [pcsR_join]
  obtain ⟨cs, hcs⟩ : ∃ cs, partedL isComma L = cs := ⟨_, rfl⟩
  have hne : cs ≠ [] := by rw [← hcs]; simp [partedL]
  rw [hcs]
  match cs, hne with
  | [c], _ =>
    have h := rowGoR_words (wordsL c) true [] []
    rw [List.append_nil] at h
    show cellsGo false [] [c] = rowGoR true [] (wordsP c)
    unfold wordsP
    rw [h, cellsGo, if_neg (by simp)]
    rfl
  | c :: d :: cs, _ =>
    have h := (rowGoR_cells (c :: d :: cs) [] (by simp)).1 (by simp [joinC])
    rw [h]
    simp

/-! ### a matrix -/

def matGo : List (List Fr) → List (List Nat) → List (List Fr) × Nat × Nat × Nat
  | out, [] => (out, 0, 0, 0)
  | out, c :: cs => if (rowR c).2.2 ≠ 0 then ([], out.length + 1, (rowR c).2.1, (rowR c).2.2) else matGo (out ++ [(rowR c).1]) cs

/-- what a matrix' runes say -/
def matR (L : List Nat) : List (List Fr) × Nat × Nat × Nat := matGo [] (partedL isEnd L)

theorem partSt_mem (p : Nat → Bool) : ∀ (L cur : List Nat) (x : List Nat), x ∈ (partSt p cur L).1 ++ [(partSt p cur L).2] → ∀ r, r ∈ x → r ∈ cur ∨ r ∈ L
  | [], cur, x, h, r, hr => by
    simp only [partSt, List.foldl_nil, List.nil_append, List.mem_singleton] at h
    exact .inl (h ▸ hr)
  | y :: L, cur, x, h, r, hr => by
    rw [partSt_cons] at h
    by_cases hp : p y = true
    · rw [if_pos hp, List.cons_append] at h
      rcases List.mem_cons.1 h with rfl | h
      · exact .inl hr
      · rcases partSt_mem p L [] x h r hr with h | h
        · cases h
        · exact .inr (List.mem_cons_of_mem _ h)
    · rw [if_neg hp] at h
      rcases partSt_mem p L _ x h r hr with h | h
      · rcases List.mem_append.1 h with h | h
        · exact .inl h
        · simp only [List.mem_singleton] at h
          exact .inr (by rw [h]; exact List.mem_cons_self ..)
      · exact .inr (List.mem_cons_of_mem _ h)

theorem parted_mem (p : Nat → Bool) (L x : List Nat) (h : x ∈ partedL p L) : ∀ r, r ∈ x → r ∈ L := fun r hr => by
  rcases partSt_mem p L [] x h r hr with h | h
  · cases h
  · exact h

def sumLen (l : List (List Nat)) : Nat := (l.map fun x => x.length + 1).sum

theorem sumLen_append (a b : List (List Nat)) : sumLen (a ++ b) = sumLen a + sumLen b := by simp [sumLen]

theorem partSt_len (p : Nat → Bool) : ∀ (L cur : List Nat), sumLen ((partSt p cur L).1 ++ [(partSt p cur L).2]) = cur.length + L.length + 1
  | [], cur => by simp [partSt, sumLen]
  | y :: L, cur => by
    rw [partSt_cons]
    by_cases hp : p y = true
    · rw [if_pos hp, List.cons_append]
      have := partSt_len p L []
      simp only [sumLen, List.map_cons, List.sum_cons, List.length_cons, List.length_nil] at this ⊢
      omega
    · rw [if_neg hp, partSt_len p L]
      simp
      omega

theorem parted_len (p : Nat → Bool) (L : List Nat) : sumLen (partedL p L) = L.length + 1 := by
  have := partSt_len p L []
  simpa [partedL] using this

theorem sumLen_mem (l : List (List Nat)) (x : List Nat) (h : x ∈ l) : x.length + 1 ≤ sumLen l := by
  induction l with
  | nil => cases h
  | cons y l ih =>
    simp only [sumLen, List.map_cons, List.sum_cons] at ih ⊢
    rcases List.mem_cons.1 h with rfl | h
    · omega
    · have := ih h; omega
theorem sumLen_len (l : List (List Nat)) : l.length ≤ sumLen l := by
  induction l with
  | nil => simp
  | cons y l ih => simp only [sumLen, List.map_cons, List.sum_cons, List.length_cons] at ih ⊢; omega
end Go.Proofs.YtjjidmgeladicaaDoor

/- A map from numbers to things, as a tree over the number's halves. -/
namespace Go.Ev

inductive Tree (α : Type) where
  | lf
  | nd (v : Option α) (l r : Tree α)

variable {α : Type}

def Tree.get : Tree α → Nat → Option α
  | .lf, _ => none
  | .nd v l r, k => bif Nat.beq k 0 then v else bif Nat.beq (k % 2) 1 then l.get (k / 2) else r.get (k / 2 - 1)

def Tree.setF (v : Option α) : Nat → Nat → Tree α → Tree α
  | 0, _, t => t
  | n + 1, k, .lf => bif Nat.beq k 0 then .nd v .lf .lf else bif Nat.beq (k % 2) 1 then .nd none (Tree.setF v n (k / 2) .lf) .lf else .nd none .lf (Tree.setF v n (k / 2 - 1) .lf)
  | n + 1, k, .nd u l r => bif Nat.beq k 0 then .nd v l r else bif Nat.beq (k % 2) 1 then .nd u (Tree.setF v n (k / 2) l) r else .nd u l (Tree.setF v n (k / 2 - 1) r)

def Tree.set (t : Tree α) (k : Nat) (v : Option α) : Tree α := Tree.setF v (k + 1) k t

theorem Tree.get_lf (k : Nat) : (Tree.lf : Tree α).get k = none := rfl

theorem Tree.get_setF (v : Option α) : ∀ (n k : Nat) (t : Tree α) (j : Nat), k < n → (Tree.setF v n k t).get j = if j = k then v else t.get j := by
  intro n
  induction n with
  | zero => intro k t j h; omega
  | succ n ih =>
    intro k t j h
    have hk0 : Nat.beq k 0 = decide (k = 0) := by cases k <;> rfl
    have hk1 : Nat.beq (k % 2) 1 = decide (k % 2 = 1) := by
      rcases Nat.mod_two_eq_zero_or_one k with h | h <;> rw [h] <;> rfl
    have hj0 : Nat.beq j 0 = decide (j = 0) := by cases j <;> rfl
    have hj1 : Nat.beq (j % 2) 1 = decide (j % 2 = 1) := by
      rcases Nat.mod_two_eq_zero_or_one j with h | h <;> rw [h] <;> rfl
    cases t with
    | lf =>
      simp only [Tree.setF, hk0, hk1]
      by_cases h0 : k = 0
      · subst h0; by_cases hj : j = 0 <;> simp [Tree.get, hj0, hj]
      · by_cases h1 : k % 2 = 1
        · simp [h0, h1, Tree.get, hj0, hj1, ih (k / 2) .lf (j / 2) (by omega)]
          by_cases a : j = 0
          · simp [a]; omega
          · by_cases b : j % 2 = 1
            · simp [a, b]; by_cases c : j = k
              · simp [c]
              · simp [c]; intro; omega
            · simp [a, b]; omega
        · simp [h0, h1, Tree.get, hj0, hj1, ih (k / 2 - 1) .lf (j / 2 - 1) (by omega)]
          by_cases a : j = 0
          · simp [a]; omega
          · by_cases b : j % 2 = 1
            · simp [a, b]; omega
            · simp [a, b]; by_cases c : j = k
              · simp [c]
              · simp [c]; intro; omega
    | nd u l r =>
      simp only [Tree.setF, hk0, hk1]
      by_cases h0 : k = 0
      · subst h0; by_cases hj : j = 0 <;> simp [Tree.get, hj0, hj]
      · by_cases h1 : k % 2 = 1
        · simp [h0, h1, Tree.get, hj0, hj1, ih (k / 2) l (j / 2) (by omega)]
          by_cases a : j = 0
          · simp [a]; omega
          · by_cases b : j % 2 = 1
            · simp [a, b]; by_cases c : j = k
              · simp [c]
              · simp [c]; intro; omega
            · simp [a, b]; omega
        · simp [h0, h1, Tree.get, hj0, hj1, ih (k / 2 - 1) r (j / 2 - 1) (by omega)]
          by_cases a : j = 0
          · simp [a]; omega
          · by_cases b : j % 2 = 1
            · simp [a, b]; omega
            · simp [a, b]; by_cases c : j = k
              · simp [c]
              · simp [c]; intro; omega

theorem Tree.get_set (t : Tree α) (k : Nat) (v : Option α) (j : Nat) : (t.set k v).get j = if j = k then v else t.get j :=
  Tree.get_setF v (k + 1) k t j (by omega)

end Go.Ev

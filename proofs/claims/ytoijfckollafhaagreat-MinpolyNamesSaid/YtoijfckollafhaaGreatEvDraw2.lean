/- The drawn order, proved. -/
import Derived.Test.YtoijfckollafhaaGreatEvDraw
namespace Go.Ev
open Go.RowKit

theorem allBelow_spec {f : Nat → Bool} : ∀ {n : Nat}, allBelow f n = true → ∀ i, i < n → f i = true
  | 0, _, i, hi => by omega
  | n + 1, h, i, hi => by
    simp only [allBelow] at h
    cases hf : f n with
    | false => rw [hf] at h; cases h
    | true =>
      rw [hf] at h
      by_cases hin : i = n
      · subst hin; exact hf
      · exact allBelow_spec h i (by omega)

theorem edgesOk_spec {i : Nat} : ∀ {l : List Edge}, edgesOk i l = true → ∀ e ∈ l, Region.binds .any e = true → e.on < i
  | [], _, e, he, _ => by cases he
  | x :: l, h, e, he, hb => by
    simp only [edgesOk] at h
    rcases List.mem_cons.1 he with rfl | he
    · rw [hb] at h
      simp only [cond_true] at h
      cases hl : Nat.blt e.on i with
      | false => rw [hl] at h; cases h
      | true => simpa using hl
    · cases hx : Region.binds .any x with
      | false => rw [hx] at h; exact edgesOk_spec h e he hb
      | true =>
        rw [hx] at h
        simp only [cond_true] at h
        cases hl : Nat.blt x.on i with
        | false => rw [hl] at h; cases h
        | true => rw [hl] at h; exact edgesOk_spec h e he hb

section
variable {ops : Array Oper}

def Closed (ops : Array Oper) (D : Nat → Prop) : Prop := ∀ i o, D i → ops[i]? = some o → ∀ e ∈ o.after, Region.binds .any e = true → D e.on
def Ready (ops : Array Oper) (D : Nat → Prop) (i : Nat) : Prop := ∀ o, ops[i]? = some o → ∀ e ∈ o.after, Region.binds .any e = true → D e.on
def Good (ops : Array Oper) (T : Tree Nat) : Prop := ∀ k m, T.get k = some m → ∀ D, Closed ops D → Ready ops D k → ∀ j, m.testBit j = true → D j

theorem maskOf_spec {T : Tree Nat} : ∀ (l : List Edge) (m j : Nat), (maskOf l T m).testBit j = true → m.testBit j = true ∨ ∃ e ∈ l, Region.binds .any e = true ∧ (j = e.on ∨ ((T.get e.on).getD 0).testBit j = true)
  | [], m, j, h => .inl h
  | e :: l, m, j, h => by
    simp only [maskOf] at h
    cases hb : Region.binds .any e with
    | false =>
      rw [hb] at h
      rcases maskOf_spec l m j h with h | ⟨x, hx, h⟩
      · exact .inl h
      · exact .inr ⟨x, by simp [hx], h⟩
    | true =>
      rw [hb] at h
      simp only [cond_true] at h
      rcases maskOf_spec l _ j h with h | ⟨x, hx, h⟩
      · have h' : ((m ||| 2 ^ e.on) ||| (T.get e.on).getD 0).testBit j = true := h
        rw [Nat.testBit_or, Nat.testBit_or, Bool.or_eq_true, Bool.or_eq_true, Nat.testBit_two_pow] at h'
        rcases h' with (h' | h') | h'
        · exact .inl h'
        · exact .inr ⟨e, by simp, hb, .inl (by have := h'; simp at this; exact this.symm)⟩
        · exact .inr ⟨e, by simp, hb, .inr h'⟩
      · exact .inr ⟨x, by simp [hx], h⟩

theorem befT_good : ∀ (l : List Oper) (i : Nat) (T : Tree Nat), (∀ k o, l[k]? = some o → ops[i + k]? = some o) → Good ops T → Good ops (befT l i T)
  | [], i, T, _, h => h
  | o :: l, i, T, hl, h => by
    simp only [befT]
    refine befT_good l (i + 1) _ (fun k o' ho' => by have := hl (k + 1) o' (by simpa using ho'); rwa [show i + 1 + k = i + (k + 1) by omega]) ?_
    intro k m hm D hD hr j hj
    rw [Tree.get_set] at hm
    by_cases hk : k = i
    · subst hk
      rw [if_pos rfl] at hm; cases hm
      rcases maskOf_spec _ _ _ hj with h0 | ⟨e, he, hb, h1⟩
      · simp at h0
      · have ho : ops[k]? = some o := by have := hl 0 o rfl; simpa using this
        have hDe : D e.on := hr o ho e (by simpa using he) hb
        rcases h1 with rfl | h1
        · exact hDe
        · cases hg : T.get e.on with
          | none => rw [hg] at h1; simp at h1
          | some m' =>
            rw [hg] at h1
            exact h _ _ hg D hD (fun o' ho' e' he' hb' => hD _ o' hDe ho' e' he' hb') j h1
    · rw [if_neg hk] at hm
      exact h k m hm D hD hr j hj

theorem bef_spec {D : Nat → Prop} (hD : Closed ops D) {i : Nat} (hr : Ready ops D i) {j : Nat} (h : (((befT ops.toList 0 .lf).get i).getD 0).testBit j = true) : D j := by
  have hg : Good ops (befT ops.toList 0 .lf) := befT_good _ _ _ (fun k o hk => by simpa using hk) (fun k m hm => by rw [Tree.get_lf] at hm; cases hm)
  cases hm : (befT ops.toList 0 .lf).get i with
  | none => rw [hm] at h; simp at h
  | some m => rw [hm] at h; exact hg _ _ hm D hD hr j h

theorem rcheck_spec {st : Bool} {K : Nat → Nat} (h : rcheck st K ops = true) {i : Nat} (hi : i < ops.size) : ∃ o, ops[i]? = some o ∧ (∀ e ∈ o.after, Region.binds .any e = true → e.on < i) ∧ K i ≤ 3 ∧ (st = true → K i ≠ 2) ∧
    ∀ j, j < i → (((befT ops.toList 0 .lf).get i).getD 0).testBit j = true ∨ ∃ a, ops[j]? = some a ∧ clash K ops j i a o = false := by
  have := allBelow_spec h i hi
  split at this
  case h_2 => cases this
  case h_1 o ho =>
    simp only [Bool.and_eq_true] at this
    obtain ⟨⟨⟨h1, h2⟩, hmx⟩, h3⟩ := this
    refine ⟨o, ho, fun e he => edgesOk_spec h1 e (by simpa using he), Nat.le_of_ble_eq_true h2, (fun hst hh => by rw [hst, hh] at hmx; exact absurd hmx (by decide)), fun j hj => ?_⟩
    have hp := allBelow_spec h3 j hj
    unfold pairOk at hp
    cases ht : (((befT ops.toList 0 .lf).get i).getD 0).testBit j with
    | true => exact .inl rfl
    | false =>
      right
      rw [ht] at hp
      simp only [cond_false] at hp
      rw [ho] at hp
      split at hp
      · rename_i a b ha hb
        cases hb
        exact ⟨a, ha, by simpa using hp⟩
      · cases hp
end

theorem reach_sub : ∀ (n : Nat) (σ : Hp) (lo hi : Nat) (ws : List AV) (acc : List (Nat × ABlk)), (∀ p ∈ acc, σ.get p.1 = some p.2 ∧ lo ≤ p.1 ∧ p.1 < hi) → ∀ p ∈ reach n σ lo hi ws acc, σ.get p.1 = some p.2 ∧ lo ≤ p.1 ∧ p.1 < hi := by
  intro n
  induction n with
  | zero => intro σ lo hi ws acc h p hp; simp only [reach] at hp; exact h p hp
  | succ n ih =>
    intro σ lo hi ws acc h p hp
    cases ws with
    | nil => simp only [reach] at hp; exact h p hp
    | cons a ws =>
      have go : ∀ A, p ∈ (bif Nat.ble lo A && Nat.blt A hi && !memK A acc then
        match σ.get A with
        | some b => reach n σ lo hi (bodyVals b ++ ws) ((A, b) :: acc)
        | none => reach n σ lo hi ws acc
        else reach n σ lo hi ws acc) → σ.get p.1 = some p.2 ∧ lo ≤ p.1 ∧ p.1 < hi := by
        intro A hA
        cases hb : (Nat.ble lo A && Nat.blt A hi && !memK A acc) with
        | false => rw [hb] at hA; exact ih σ lo hi ws acc h p hA
        | true =>
          rw [hb] at hA
          simp only [cond_true] at hA
          simp only [Bool.and_eq_true] at hb
          split at hA
          · rename_i b hg
            refine ih σ lo hi _ _ ?_ p hA
            intro q hq
            cases hq with
            | head => exact ⟨hg, Nat.le_of_ble_eq_true hb.1.1, by simpa using hb.1.2⟩
            | tail _ hq => exact h q hq
          · exact ih σ lo hi ws acc h p hA
      cases a <;> simp only [reach] at hp <;> first | exact ih σ lo hi _ acc h p hp | exact go _ hp

theorem addAll_get : ∀ (F : List (Nat × ABlk)) (σ : Hp) (A : Nat) (b : ABlk), (addAll F σ).get A = some b → σ.get A = some b ∨ (A, b) ∈ F
  | [], σ, A, b, h => .inl h
  | (B, x) :: F, σ, A, b, h => by
    simp only [addAll] at h
    rcases addAll_get F _ A b h with h | h
    · rw [Tree.get_set] at h
      by_cases hA : A = B
      · subst hA; rw [if_pos rfl] at h; cases h; exact .inr (by simp)
      · rw [if_neg hA] at h; exact .inl h
    · exact .inr (by simp [h])

theorem addSel_get (f : Nat → Bool) : ∀ (l : List (Nat × List (Nat × ABlk))) (σ : Hp) (A : Nat) (b : ABlk), (addSel f l σ).get A = some b → σ.get A = some b ∨ ∃ p ∈ l, f p.1 = true ∧ (A, b) ∈ p.2
  | [], σ, A, b, h => .inl h
  | (j, F) :: l, σ, A, b, h => by
    simp only [addSel] at h
    cases hf : f j with
    | false =>
      rw [hf] at h
      rcases addSel_get f l σ A b h with h | ⟨p, hp, h⟩
      · exact .inl h
      · exact .inr ⟨p, by simp [hp], h⟩
    | true =>
      rw [hf] at h
      simp only [cond_true] at h
      rcases addAll_get _ _ _ _ h with h | h
      · rcases addSel_get f l σ A b h with h | ⟨p, hp, h⟩
        · exact .inl h
        · exact .inr ⟨p, by simp [hp], h⟩
      · exact .inr ⟨(j, F), by simp, hf, h⟩
end Go.Ev

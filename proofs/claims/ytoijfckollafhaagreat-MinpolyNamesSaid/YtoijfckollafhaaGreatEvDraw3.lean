/- A drawn region comes to what the evaluator tells. -/
import Derived.Test.YtoijfckollafhaaGreatEvDraw2
namespace Go.Ev
open Go.RowKit

/-- the heap's relation, of blocks that are told one by one -/
structure SRelP (ro n0 : Nat) (φ : Ren) (dom : Nat → ABlk → Prop) (w : World) : Prop where
  h : ∀ A b, dom A b → ∃ x, φ A = some x ∧ BRel φ b x w
  o : ∀ A b x, dom A b → ro ≤ A → φ A = some x → n0 ≤ x.1
  d : ∀ A A' b b' x x', dom A b → dom A' b' → ro ≤ A → A ≠ A' → φ A = some x → φ A' = some x' → x.1 ≠ x'.1
  s : n0 ≤ w.heap.size

theorem SRelP.to {ro n0 : Nat} {φ : Ren} {dom : Nat → ABlk → Prop} {w : World} (h : SRelP ro n0 φ dom w) {σ : Hp} (hs : ∀ A b, σ.get A = some b → dom A b) : SRel ro n0 φ σ w := by
  refine ⟨fun A b e => h.h A b (hs A b e), fun A x hr hA hx => ?_, fun A A' x x' hr hne hA hA' hx hx' => ?_, h.s⟩
  · obtain ⟨b, hb⟩ := Option.isSome_iff_exists.1 hA
    exact h.o A b x (hs A b hb) hr hx
  · obtain ⟨b, hb⟩ := Option.isSome_iff_exists.1 hA
    obtain ⟨b', hb'⟩ := Option.isSome_iff_exists.1 hA'
    exact h.d A A' b b' x x' (hs A b hb) (hs A' b' hb') hr hne hx hx'

theorem SRel.toP {ro n0 : Nat} {φ : Ren} {σ : Hp} {w : World} (h : SRel ro n0 φ σ w) : SRelP ro n0 φ (fun A b => σ.get A = some b) w :=
  ⟨h.h, fun A b x e hr hx => h.o A x hr (by rw [e]; rfl) hx, fun A A' b b' x x' e e' hr hne hx hx' => h.d A A' x x' hr hne (by rw [e]; rfl) (by rw [e']; rfl) hx hx', h.s⟩

/-- a heap all of whose numbers lie below ro: nothing may be written -/
theorem SRelP.shut {ro n0 c : Nat} {φ : Ren} {dom : Nat → ABlk → Prop} {w : World} (h : SRelP ro n0 φ dom w) {σ : Hp} (hs : ∀ A b, σ.get A = some b → dom A b) (hk : KB c σ) : SRel c w.heap.size φ σ w :=
  ⟨fun A b e => h.h A b (hs A b e), fun A x hr hA _ => absurd (hk A hA) (by omega), fun A A' x x' hr _ hA _ _ _ => absurd (hk A hA) (by omega), Nat.le_refl _⟩

section
variable {P : Program} {K : Nat → Nat} {ow : List (Nat × Nat × ABlk)} {C : Cx} {H : Hook} {rec : Rec} {ro nt : Nat} {round : Option Nat} {ops : Array Oper}

/-- what one step in the evaluator's own order tells -/
structure StepTells (K : Nat → Nat) (ow : List (Nat × Nat × ABlk)) (C : Cx) (H : Hook) (rec : Rec) (ro nt : Nat) (round : Option Nat) (ops : Array Oper) (i : Nat) (o : Oper) (S S' : DS) (v : AV) (F : List (Nat × ABlk)) : Prop where
  put : S'.t = putT S.t o.dst v
  qs : ∀ p ∈ S.q, p ∈ S'.q
  bs : ∀ β ∈ S.bs, β ∈ S'.bs
  bb : S.base ∈ S.bs → S'.base ∈ S'.bs
  c0 : K i = 0 → S'.base = S.base ∧ S'.frs = S.frs ∧ F = [] ∧ ∃ Q : Hp, (∀ A b, Q.get A = some b → S.base.get A = some b ∧ (A, b) ∈ S'.q) ∧ ∀ t', (∀ d ∈ o.looksAt ops, S.t.get d = t'.get d) → ∃ σ, opAt C H rec S.c nt round t' ops i Q S.c = some (putT t' o.dst v, [], σ, S'.c)
  c1 : K i = 1 → S'.base = S.base ∧ S'.frs = (i, F) :: S.frs ∧ ∃ σ, (∀ p ∈ F, σ.get p.1 = some p.2 ∧ S.c ≤ p.1 ∧ p.1 < S'.c) ∧ ∀ t', (∀ d ∈ o.looksAt ops, S.t.get d = t'.get d) →
    opAt C H rec S.c nt round t' ops i (addSel (Nat.testBit (((befT ops.toList 0 .lf).get i).getD 0)) S.frs S.base) S.c = some (putT t' o.dst v, [], σ, S'.c)
  c2 : K i = 2 → S'.frs = [] ∧ ∀ t', (∀ d ∈ o.looksAt ops, S.t.get d = t'.get d) → opAt C H rec ro nt round t' ops i (addSel (fun _ => true) S.frs S.base) S.c = some (putT t' o.dst v, [], S'.base, S'.c)
  c3 : K i = 3 → ∃ A old new, look ow i = some (A, old) ∧ S'.base = S.base ∧ S'.frs = (i, F) :: S.frs ∧ S'.c = S.c ∧ F = [(A, new)] ∧ ∀ t', (∀ d ∈ o.looksAt ops, S.t.get d = t'.get d) →
    ∃ σ c', opAt C H rec ro nt round t' ops i ((Tree.lf : Hp).set A (some old)) S.c = some (putT t' o.dst v, [], σ, c') ∧ σ.get A = some new

theorem dStep_tells {i : Nat} {o : Oper} {S S' : DS} (ho : ops[i]? = some o) (e : dStep K ow C H rec ro nt round ops (befT ops.toList 0 .lf) i S = some S') : K i ≤ 3 ∧ ∃ v F, StepTells K ow C H rec ro nt round ops i o S S' v F := by
  unfold dStep at e
  rw [ho] at e
  dsimp only at e
  split at e
  · rename_i hc
    split at e
    · rename_i t σ c hop
      cases e
      obtain ⟨v, hv, hall⟩ := opAt_put ho hop
      refine ⟨by omega, v, [], hv, fun p hp => List.mem_append_right _ hp, fun _ h => h, fun h => h, fun _ => ⟨rfl, rfl, rfl, _, fun A b hA => ?_, fun t' ht' => ⟨σ, hall t' ht'⟩⟩, fun h => by omega, fun h => by omega, fun h => by omega⟩
      rcases addAll_get _ _ _ _ hA with h | h
      · rw [Tree.get_lf] at h; cases h
      · exact ⟨qOf_spec h, List.mem_append_left _ h⟩
    · cases e
  · rename_i hc
    split at e
    · rename_i t σ c hop
      cases e
      obtain ⟨v, hv, hall⟩ := opAt_put ho hop
      refine ⟨by omega, v, _, hv, fun _ h => h, fun _ h => h, fun h => h, fun h => by omega, fun _ => ⟨rfl, rfl, σ, ?_, fun t' ht' => hall t' ht'⟩, fun h => by omega, fun h => by omega⟩
      intro p hp
      cases hd : o.dst with
      | none => rw [hd] at hp; cases hp
      | some d => rw [hd] at hp; exact reach_sub _ _ _ _ _ _ (fun _ h => by cases h) p hp
    · cases e
  · rename_i hc
    split at e
    · rename_i t σ c hop
      cases e
      obtain ⟨v, hv, hall⟩ := opAt_put ho hop
      exact ⟨by omega, v, [], hv, fun _ h => h, fun β h => List.mem_cons_of_mem _ h, fun _ => List.mem_cons_self, fun h => by omega, fun h => by omega, fun _ => ⟨rfl, fun t' ht' => hall t' ht'⟩, fun h => by omega⟩
    · cases e
  · rename_i hc
    split at e
    · rename_i A old hlk
      split at e
      · rename_i t σ c hop
        split at e
        · rename_i new hnew
          cases e
          obtain ⟨v, hv, hall⟩ := opAt_put ho hop
          exact ⟨by omega, v, [(A, new)], hv, fun _ h => h, fun _ h => h, fun h => h, fun h => by omega, fun h => by omega, fun h => by omega, fun _ => ⟨A, old, new, hlk, rfl, rfl, rfl, rfl, fun t' ht' => ⟨σ, _, hall t' ht', hnew⟩⟩⟩
        · cases e
      · cases e
    · cases e
  · cases e

/-- the whole run in that order -/
structure Canon (K : Nat → Nat) (ow : List (Nat × Nat × ABlk)) (C : Cx) (H : Hook) (rec : Rec) (ro nt : Nat) (round : Option Nat) (ops : Array Oper) (S : Nat → DS) (op : Nat → Oper) (v : Nat → AV) (F : Nat → List (Nat × ABlk)) : Prop where
  here : ∀ i, i < ops.size → ops[i]? = some (op i) ∧ K i ≤ 3
  tells : ∀ i, i < ops.size → StepTells K ow C H rec ro nt round ops i (op i) (S i) (S (i + 1)) (v i) (F i)
  frs0 : (S 0).frs = []
  mix : ∀ i j, i < ops.size → j < ops.size → K i = 2 → K j = 3 → False
  own : ∀ i A old, look ow i = some (A, old) → ro ≤ A ∧ (S 0).base.get A = none
  sto : ∀ i, i < ops.size → K i = 3 → ∃ t a v, (op i).op = .store t a v
  quiet : ∀ p ∈ (S ops.size).q, ∀ e, e ≤ ops.size → (S e).base.get p.1 = some p.2
  apart : ∀ i j A old old', look ow i = some (A, old) → look ow j = some (A, old') → i = j

theorem dRun_states : ∀ (k i : Nat) (S S' : DS), dRun K ow C H rec ro nt round ops (befT ops.toList 0 .lf) k i S = some S' → ∃ f : Nat → DS, f i = S ∧ f (i + k) = S' ∧ ∀ j, i ≤ j → j < i + k → dStep K ow C H rec ro nt round ops (befT ops.toList 0 .lf) j (f j) = some (f (j + 1))
  | 0, i, S, S', e => by cases e; exact ⟨fun _ => S, rfl, rfl, fun j h1 h2 => by omega⟩
  | k + 1, i, S, S', e => by
    simp only [dRun] at e
    split at e
    · rename_i S1 h1
      obtain ⟨f, hf1, hf2, hf3⟩ := dRun_states k (i + 1) S1 S' e
      refine ⟨fun j => if j = i then S else f j, by simp, ?_, ?_⟩
      · dsimp only
        rw [if_neg (by omega), ← hf2]; congr 1; omega
      · intro j h2 h3
        dsimp only
        by_cases hj : j = i
        · subst hj; rw [if_pos rfl, if_neg (by omega), hf1]; exact h1
        · rw [if_neg hj, if_neg (by omega)]; exact hf3 j (by omega) (by omega)
    · cases e

variable {S : Nat → DS} {op : Nat → Oper} {v : Nat → AV} {F : Nat → List (Nat × ABlk)} (hcn : Canon K ow C H rec ro nt round ops S op v F)
include hcn

theorem Canon.qmono {i : Nat} : ∀ k, i + k ≤ ops.size → ∀ p ∈ (S i).q, p ∈ (S (i + k)).q
  | 0, _, p, hp => hp
  | k + 1, h, p, hp => (hcn.tells (i + k) (by omega)).qs p (Canon.qmono k (by omega) p hp)

theorem Canon.t_none {d : Nat} : ∀ i, i ≤ ops.size → (∀ j, j < i → (op j).dst ≠ some d) → (S i).t.get d = (S 0).t.get d
  | 0, _, _ => rfl
  | i + 1, hi, h => by
    rw [(hcn.tells i (by omega)).put, ← Canon.t_none i (by omega) fun j hj => h j (by omega)]
    have := h i (by omega)
    cases hd : (op i).dst with
    | none => rfl
    | some d' =>
      simp only [putT]
      rw [Tree.get_set, if_neg]
      intro hdd; subst hdd; exact this hd
theorem Canon.t_some {d j : Nat} (hj : (op j).dst = some d) : ∀ i, i ≤ ops.size → j < i → (∀ j', j < j' → j' < i → (op j').dst ≠ some d) → (S i).t.get d = some (v j)
  | 0, _, h, _ => by omega
  | i + 1, hi, hji, h => by
    rw [(hcn.tells i (by omega)).put]
    by_cases hij : j = i
    · subst hij
      rw [hj]
      simp only [putT]
      rw [Tree.get_set, if_pos rfl]
    · rw [← Canon.t_some hj i (by omega) (by omega) fun j' h1 h2 => h j' h1 (by omega)]
      have := h i (by omega) (by omega)
      cases hd : (op i).dst with
      | none => rfl
      | some d' =>
        simp only [putT]
        rw [Tree.get_set, if_neg]
        intro hdd; subst hdd; exact this hd

/-- as long as nothing is written, the ground stays and the new memory is gathered -/
theorem Canon.ground {e : Nat} (he : (S e).frs = []) : ∀ i, e ≤ i → i ≤ ops.size → (∀ j, e ≤ j → j < i → K j ≠ 2) → (S i).base = (S e).base ∧ ∀ p ∈ (S i).frs, e ≤ p.1 ∧ p.1 < i ∧ (K p.1 = 1 ∨ K p.1 = 3) ∧ p.2 = F p.1 := by
  intro i
  induction i with
  | zero =>
    intro hei _ _
    have : e = 0 := by omega
    subst this
    exact ⟨rfl, fun p hp => by rw [he] at hp; cases hp⟩
  | succ i ih =>
    intro hei hi h
    by_cases h0 : e = i + 1
    · subst h0
      exact ⟨rfl, fun p hp => by rw [he] at hp; cases hp⟩
    · obtain ⟨h1, h2⟩ := ih (by omega) (by omega) fun j a b => h j a (by omega)
      have ht := hcn.tells i (by omega)
      have hc := h i (by omega) (by omega)
      have h33 := (hcn.here i (by omega)).2
      rcases (show K i = 0 ∨ K i = 1 ∨ K i = 3 by omega) with hz | hz | hz
      · obtain ⟨q1, q2, _⟩ := ht.c0 hz
        exact ⟨q1.trans h1, fun p hp => by rw [q2] at hp; obtain ⟨a, b, c, d⟩ := h2 p hp; exact ⟨a, by omega, c, d⟩⟩
      · obtain ⟨q1, q2, _⟩ := ht.c1 hz
        refine ⟨q1.trans h1, fun p hp => ?_⟩
        rw [q2] at hp
        rcases List.mem_cons.1 hp with rfl | hp
        · exact ⟨by show e ≤ i; omega, by show i < i + 1; omega, .inl hz, rfl⟩
        · obtain ⟨a, b, c, d⟩ := h2 p hp
          exact ⟨a, by omega, c, d⟩
      · obtain ⟨_, _, _, _, q1, q2, _⟩ := ht.c3 hz
        refine ⟨q1.trans h1, fun p hp => ?_⟩
        rw [q2] at hp
        rcases List.mem_cons.1 hp with rfl | hp
        · exact ⟨by show e ≤ i; omega, by show i < i + 1; omega, .inr hz, rfl⟩
        · obtain ⟨a, b, c, d⟩ := h2 p hp
          exact ⟨a, by omega, c, d⟩

/-- the numbers: they rise, and what is gathered lies below -/
theorem Canon.numbers (hC : CxOk P C) (hH : HookOk P H) (hR : RecOk P rec) (hk : KB (S 0).c (S 0).base) (hkA : ∀ i A old, look ow i = some (A, old) → A < (S 0).c) : ∀ i, i ≤ ops.size → (∀ j, j ≤ i → (S j).c ≤ (S i).c) ∧ KB (S i).c (S i).base ∧ ∀ p ∈ (S i).frs, ∀ q ∈ p.2, q.1 < (S i).c := by
  intro i
  induction i with
  | zero => intro _; exact ⟨fun j hj => by have : j = 0 := by omega
                                           subst this; exact Nat.le_refl _, hk, fun p hp => by rw [hcn.frs0] at hp; cases hp⟩
  | succ i ih =>
    intro hi
    obtain ⟨h1, h2, h3⟩ := ih (by omega)
    have ht := hcn.tells i (by omega)
    have hsel : ∀ f, KB (S i).c (addSel f (S i).frs (S i).base) := by
      intro f A hA
      obtain ⟨b, hb⟩ := Option.isSome_iff_exists.1 hA
      rcases addSel_get f _ _ _ _ hb with h | ⟨p, hp, _, h⟩
      · exact h2 A (by rw [h]; rfl)
      · exact h3 p hp _ h
    have hlf : KB (S i).c (Tree.lf : Hp) := fun A hA => by rw [Tree.get_lf] at hA; cases hA
    have hup : (S i).c ≤ (S (i + 1)).c → (∀ j, j ≤ i + 1 → (S j).c ≤ (S (i + 1)).c) := fun hle j hj => by
      by_cases hji : j = i + 1
      · subst hji; exact Nat.le_refl _
      · exact Nat.le_trans (h1 j (by omega)) hle
    rcases (show K i = 0 ∨ K i = 1 ∨ K i = 2 ∨ K i = 3 ∨ 4 ≤ K i by omega) with hz | hz | hz | hz | hz
    · obtain ⟨q1, q2, _, _, _, q3⟩ := ht.c0 hz
      obtain ⟨σ, q3⟩ := q3 (S i).t (fun _ _ => rfl)
      have hg := (opAt_ok (P := P) hC hH hR q3).1
      exact ⟨hup hg.le, fun A hA => by rw [q1] at hA; have := h2 A hA; have := hg.le; omega, fun p hp q hq => by rw [q2] at hp; have := h3 p hp q hq; have := hg.le; omega⟩
    · obtain ⟨q1, q2, σ, q3, q4⟩ := ht.c1 hz
      have hg := (opAt_ok (P := P) hC hH hR (q4 (S i).t (fun _ _ => rfl))).1
      refine ⟨hup hg.le, fun A hA => by rw [q1] at hA; have := h2 A hA; have := hg.le; omega, fun p hp q hq => ?_⟩
      rw [q2] at hp
      rcases List.mem_cons.1 hp with rfl | hp
      · exact (q3 q hq).2.2
      · have := h3 p hp q hq; have := hg.le; omega
    · obtain ⟨q1, q2⟩ := ht.c2 hz
      have hg := (opAt_ok (P := P) hC hH hR (q2 (S i).t (fun _ _ => rfl))).1
      exact ⟨hup hg.le, hg.kb (hsel _), fun p hp => by rw [q1] at hp; cases hp⟩
    · obtain ⟨A, old, new, q0, q1, q2, q3, q4, _⟩ := ht.c3 hz
      refine ⟨hup (by omega), fun B hB => by rw [q1] at hB; have := h2 B hB; omega, fun p hp q hq => ?_⟩
      rw [q2] at hp
      rcases List.mem_cons.1 hp with rfl | hp
      · rw [q4] at hq
        rcases List.mem_cons.1 hq with rfl | hq
        · have := hkA i A old q0; have := h1 0 (by omega); show A < _; omega
        · cases hq
      · have := h3 p hp q hq; omega
    · exact absurd (hcn.here i (by omega)).2 (by omega)
end
end Go.Ev

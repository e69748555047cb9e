/- Whatever order is drawn. -/
import Derived.Test.YtoijfckollafhaaGreatEvDraw3
namespace Go.Ev
open Go.RowKit

section
variable {P : Program} {K : Nat → Nat} {ow : List (Nat × Nat × ABlk)} {C : Cx} {H : Hook} {rec : Rec} {ro nt : Nat} {round : Option Nat} {ops : Array Oper}
variable {S : Nat → DS} {op : Nat → Oper} {v : Nat → AV} {F : Nat → List (Nat × ABlk)}

/-- what stands in memory when those of L have been carried out, the last one that writes being e - 1 -/
def Dom (K : Nat → Nat) (ow : List (Nat × Nat × ABlk)) (S : Nat → DS) (_ : Nat → Oper) (F : Nat → List (Nat × ABlk)) (n e : Nat) (L : Nat → Prop) (A : Nat) (b : ABlk) : Prop :=
  (S e).base.get A = some b ∨ (∃ j, e ≤ j ∧ j < n ∧ L j ∧ (K j = 1 ∨ K j = 3) ∧ (A, b) ∈ F j) ∨ ∃ j, j < n ∧ K j = 3 ∧ ¬ L j ∧ look ow j = some (A, b)

structure Mid (K : Nat → Nat) (ow : List (Nat × Nat × ABlk)) (P : Program) (ro n0 nt : Nat) (ops : Array Oper) (S : Nat → DS) (op : Nat → Oper) (v : Nat → AV) (F : Nat → List (Nat × ABlk)) (φ0 : Ren) (w0 : World) (L : Nat → Prop) (tmps : Array Value) (w : World) (φ : Ren) (e : Nat) (tD : Tree AV) : Prop where
  slots : TRel φ nt tD tmps
  t1 : ∀ d, (∀ j, j < ops.size → L j → (op j).dst ≠ some d) → tD.get d = (S 0).t.get d
  t2 : ∀ j, j < ops.size → L j → ∀ d, (op j).dst = some d → (∀ j', j' < ops.size → L j' → j < j' → (op j').dst ≠ some d) → tD.get d = some (v j)
  closed : Closed ops L
  inside : ∀ j, L j → j < ops.size
  e1 : ∀ j, j < e → 1 ≤ K j → L j
  e2 : ∀ j, e ≤ j → j < ops.size → K j = 2 → ¬ L j
  e3 : (S e).frs = []
  e4 : e ≤ ops.size
  heap : SRelP ro n0 φ (Dom K ow S op F ops.size e L) w
  free : ∀ j, j < ops.size → ¬ L j → Free (S j).c (S (j + 1)).c φ
  ext : Ext (S 0).c (S ops.size).c φ0 φ
  le : φ0.le φ
  below : Below n0 w0 w

theorem clash_dst_look {j i : Nat} {a b : Oper} {d : Tmp} (ha : a.dst = some d) (hb : d ∈ b.looksAt ops) : clash K ops j i a b = true := by
  unfold clash; simp [ha, hb]
theorem clash_dst_dst {j i : Nat} {a b : Oper} {d : Tmp} (ha : a.dst = some d) (hb : b.dst = some d) : clash K ops j i a b = true := by
  unfold clash; simp [ha, hb]
theorem clash_look_dst {j i : Nat} {a b : Oper} {d : Tmp} (hb : b.dst = some d) (ha : d ∈ a.looksAt ops) : clash K ops j i a b = true := by
  unfold clash; simp [ha, hb]
theorem beq_zero_of_ne {n : Nat} (h : n ≠ 0) : Nat.beq n 0 = false := by
  cases n with
  | zero => exact absurd rfl h
  | succ n => rfl
theorem clash_writes_left {j i : Nat} {a b : Oper} (ha : K j = 2) (hb : K i ≠ 0) : clash K ops j i a b = true := by
  unfold clash; simp [ha, beq_zero_of_ne hb]
theorem clash_writes_right {j i : Nat} {a b : Oper} (hb : K i = 2) (ha : K j ≠ 0) : clash K ops j i a b = true := by
  unfold clash; simp [hb, beq_zero_of_ne ha]

variable {st : Bool} (hcn : Canon K ow C H rec ro nt round ops S op v F) (hck : rcheck st K ops = true)
include hcn hck

/-- two that clash: the first of them is carried out first -/
theorem clash_first {L : Nat → Prop} (hcl : Closed ops L) {i j : Nat} (hji : j < i) (hi : i < ops.size) (hr : Ready ops L i) (hc : clash K ops j i (op j) (op i) = true) : L j := by
  obtain ⟨o, ho, _, _, _, h⟩ := rcheck_spec hck hi
  have hoi := (hcn.here i hi).1
  rw [ho] at hoi; cases hoi
  rcases h j hji with h | ⟨a, ha, h⟩
  · exact bef_spec hcl hr h
  · have haj := (hcn.here j (by omega)).1
    rw [ha] at haj; cases haj
    rw [hc] at h; cases h

/-- in the slots that it looks at an operation finds what the evaluator's order has there -/
theorem looks_agree {n0 : Nat} {φ0 φ : Ren} {w0 w : World} {L : Nat → Prop} {tmps : Array Value} {e : Nat} {tD : Tree AV} (m : Mid K ow P ro n0 nt ops S op v F φ0 w0 L tmps w φ e tD)
    {i : Nat} (hi : i < ops.size) (hL : ¬ L i) (hr : Ready ops L i) : ∀ d ∈ (op i).looksAt ops, (S i).t.get d = tD.get d := by
  intro d hd
  have later : ∀ j, j < ops.size → i < j → L j → (op j).dst ≠ some d := fun j hj hij hLj hdj =>
    hL (clash_first hcn hck m.closed hij hj (fun o ho => m.closed j o hLj ho) (clash_look_dst hdj hd))
  by_cases hw : ∃ j, j < i ∧ (op j).dst = some d
  · -- the last one ahead of i that writes the slot
    have hmax : ∀ k, k ≤ i → (∃ j, j < k ∧ (op j).dst = some d) → ∃ j, j < k ∧ (op j).dst = some d ∧ ∀ j', j < j' → j' < k → (op j').dst ≠ some d := by
      intro k
      induction k with
      | zero => intro _ ⟨j, h, _⟩; omega
      | succ k ih =>
        intro hk ⟨j, h, hj⟩
        by_cases hkd : (op k).dst = some d
        · exact ⟨k, by omega, hkd, fun j' h1 h2 => by omega⟩
        · have hjk : j ≠ k := fun hh => by subst hh; exact hkd hj
          obtain ⟨q, h1, h2, h3⟩ := ih (by omega) ⟨j, by omega, hj⟩
          refine ⟨q, by omega, h2, fun j' a b => ?_⟩
          by_cases hj' : j' = k
          · subst hj'; exact hkd
          · exact h3 j' a (by omega)
    obtain ⟨j, hj, hdj, hlast⟩ := hmax i (Nat.le_refl _) hw
    have hLj : L j := clash_first hcn hck m.closed hj hi hr (clash_dst_look hdj hd)
    rw [hcn.t_some hdj i (by omega) hj hlast]
    refine (m.t2 j (by omega) hLj d hdj fun j' h1 h2 h3 => ?_).symm
    by_cases hj' : j' < i
    · exact hlast j' h3 hj'
    · by_cases hji : j' = i
      · subst hji; exact absurd h2 hL
      · exact later j' h1 (by omega) h2
  · rw [hcn.t_none i (by omega) fun j hj hdj => hw ⟨j, hj, hdj⟩]
    refine (m.t1 d fun j hj hLj => ?_).symm
    by_cases hj' : j < i
    · exact fun hdj => hw ⟨j, hj', hdj⟩
    · by_cases hji : j = i
      · subst hji; exact absurd hLj hL
      · exact later j hj (by omega) hLj

/-- the slots behind an operation -/
theorem slots_next {n0 : Nat} {φ0 φ : Ren} {w0 w : World} {L : Nat → Prop} {tmps : Array Value} {e : Nat} {tD : Tree AV} (m : Mid K ow P ro n0 nt ops S op v F φ0 w0 L tmps w φ e tD)
    {i : Nat} (hi : i < ops.size) (hL : ¬ L i) :
    (∀ d, (∀ j, j < ops.size → (L j ∨ j = i) → (op j).dst ≠ some d) → (putT tD (op i).dst (v i)).get d = (S 0).t.get d) ∧
    (∀ j, j < ops.size → (L j ∨ j = i) → ∀ d, (op j).dst = some d → (∀ j', j' < ops.size → (L j' ∨ j' = i) → j < j' → (op j').dst ≠ some d) → (putT tD (op i).dst (v i)).get d = some (v j)) := by
  have hput : ∀ d, (op i).dst ≠ some d → (putT tD (op i).dst (v i)).get d = tD.get d := by
    intro d hd
    cases hx : (op i).dst with
    | none => rfl
    | some d' =>
      simp only [putT]
      rw [Tree.get_set, if_neg]
      intro hh; subst hh; exact hd hx
  refine ⟨fun d h => ?_, fun j hj hLj d hd hlast => ?_⟩
  · rw [hput d (h i hi (.inr rfl))]
    exact m.t1 d fun j hj hLj => h j hj (.inl hLj)
  · by_cases hji : j = i
    · subst hji
      rw [hd]; simp only [putT]; rw [Tree.get_set, if_pos rfl]
    · have hLj : L j := hLj.resolve_right hji
      have hne : (op i).dst ≠ some d := by
        intro hdi
        rcases Nat.lt_or_gt_of_ne hji with h | h
        · exact hlast i hi (.inr rfl) h hdi
        · exact hL (clash_first hcn hck m.closed h hj (fun o ho => m.closed j o hLj ho) (clash_dst_dst hdi hd))
      rw [hput d hne]
      exact m.t2 j hj hLj d hd fun j' h1 h2 h3 => hlast j' h1 (.inl h2) h3

theorem mid_step (hC : CxOk P C) (hH : HookOk P H) (hR : RecOk P rec) (hk : KB (S 0).c (S 0).base) (hkA : ∀ i A old, look ow i = some (A, old) → A < (S 0).c) {n0 : Nat} {φ0 φ : Ren} {w0 w : World} {L : Nat → Prop} {tmps : Array Value} {e : Nat} {tD : Tree AV} (m : Mid K ow P ro n0 nt ops S op v F φ0 w0 L tmps w φ e tD)
    {i : Nat} (hi : i < ops.size) (hL : ¬ L i) (hr : Ready ops L i) {fr : Frame} {cs : List Frame} {rest : List Nat} {k : List Item} (hm : fr.mode = .run) (hrd : RoundRel φ0 round fr.roundOf) (hcalm : Calm fr cs) :
    ∃ tmps' w' φ' e' tD', Steps P (lone { fr with tmps := tmps, todo := .inRegion ops (i :: rest) :: k } cs w) (lone { fr with tmps := tmps', todo := .inRegion ops rest :: k } cs w') ∧
      Mid K ow P ro n0 nt ops S op v F φ0 w0 (fun j => L j ∨ j = i) tmps' w' φ' e' tD' := by
  have ht := hcn.tells i hi
  have hoi := (hcn.here i hi).1
  have hcls := (hcn.here i hi).2
  have hag := looks_agree hcn hck m hi hL hr
  obtain ⟨hs1, hs2⟩ := slots_next hcn hck m hi hL
  have hnum : ∀ j, j ≤ ops.size → _ := fun j hj => hcn.numbers hC hH hR hk hkA j hj
  have hmono : ∀ a b, a ≤ b → b ≤ ops.size → (S a).c ≤ (S b).c := fun a b h1 h2 => (hnum b h2).1 a h1
  have hfree : Free (S i).c (S (i + 1)).c φ := m.free i hi hL
  have hclosed' : Closed ops (fun j => L j ∨ j = i) := by
    intro j o hj ho x hx hb
    rcases hj with hj | rfl
    · exact .inl (m.closed j o hj ho x hx hb)
    · exact .inl (hr o ho x hx hb)
  have hinside' : ∀ j, (L j ∨ j = i) → j < ops.size := fun j hj => by rcases hj with hj | rfl; exact m.inside j hj; exact hi
  have hrd' : RoundRel φ round fr.roundOf := by
    cases hround : round with
    | none => rw [hround] at hrd; exact hrd
    | some l => rw [hround] at hrd; obtain ⟨B, s, n, q1, q2⟩ := hrd; exact ⟨B, s, n, m.le _ _ q1, q2⟩
  have hextn : ∀ φ', Ext (S i).c (S (i + 1)).c φ φ' → Ext (S 0).c (S ops.size).c φ0 φ' ∧ (∀ j, j < ops.size → ¬ (L j ∨ j = i) → Free (S j).c (S (j + 1)).c φ') := by
    intro φ' hE
    refine ⟨⟨m.ext.1, fun A hA => ?_⟩, fun j hj hLj A h1 h2 => ?_⟩
    · have a1 := hmono 0 i (by omega) (by omega)
      have a2 := hmono (i + 1) ops.size (by omega) (by omega)
      rw [hE.2 A (by omega)]
      exact m.ext.2 A hA
    · have hji : j ≠ i := fun hh => hLj (.inr hh)
      rw [hE.2 A ?_]
      · exact m.free j hj (fun hh => hLj (.inl hh)) A h1 h2
      · rcases Nat.lt_or_gt_of_ne hji with h | h
        · have := hmono (j + 1) i (by omega) (by omega); omega
        · have := hmono (i + 1) j (by omega) (by omega); omega
  -- nothing is written between e and i, unless i looks into no memory
  have hquiet : 1 ≤ K i → e ≤ i ∧ (∀ j, e ≤ j → j < i → K j ≠ 2) := by
    intro h1
    refine ⟨Nat.le_of_not_lt fun h => hL (m.e1 i h h1), fun j h2 h3 => ?_⟩
    exact fun h => m.e2 j h2 (by omega) h (clash_first hcn hck m.closed h3 hi hr (clash_writes_left h (by omega)))
  rcases (show K i = 0 ∨ K i = 1 ∨ K i = 2 ∨ K i = 3 by omega) with hz | hz | hz | hz
  · -- it looks into no memory
    obtain ⟨q1, q2, hF, Q, hQ, q3⟩ := ht.c0 hz
    obtain ⟨σx, hop⟩ := q3 tD hag
    have hlf : KB (S i).c Q := fun A hA => by
      obtain ⟨b, hb⟩ := Option.isSome_iff_exists.1 hA
      exact (hnum i (by omega)).2.1 A (by rw [(hQ A b hb).1]; rfl)
    have hSl : SRel (S i).c w.heap.size φ Q w := m.heap.shut (fun A b h => by
      have h1 := hcn.qmono (i := i + 1) (ops.size - (i + 1)) (by omega) _ (hQ A b h).2
      rw [show i + 1 + (ops.size - (i + 1)) = ops.size by omega] at h1
      exact .inl (hcn.quiet _ h1 e m.e4)) hlf
    obtain ⟨_, hrun⟩ := opAt_ok (P := P) hC hH hR hop
    obtain ⟨tmps', es, w', φ', hst, hT, hD, hS', hE, hB⟩ := hrun w.heap.size φ w { fr with tmps := tmps, todo := .inRegion ops (i :: rest) :: k } cs rest k hlf hm rfl m.slots hrd' hcalm hSl hfree
    cases hD
    have hle := hE.le hfree
    obtain ⟨hx, hfr⟩ := hextn φ' hE
    refine ⟨tmps', w', φ', e, putT tD (op i).dst (v i), hst, ⟨hT, hs1, hs2, hclosed', hinside', fun j h1 h2 => .inl (m.e1 j h1 h2), fun j h1 h2 h3 hh => ?_, m.e3, m.e4, ?_, hfr, hx, m.le.trans hle, m.below.trans (hB.mono m.heap.s)⟩⟩
    · rcases hh with hh | rfl
      · exact m.e2 j h1 h2 h3 hh
      · omega
    · have hdom : ∀ A b, Dom K ow S op F ops.size e (fun j => L j ∨ j = i) A b → Dom K ow S op F ops.size e L A b := by
        rintro A b (h | ⟨j, h1, h2, h3 | rfl, h4, h5⟩ | ⟨j, h1, h2, h3, h4⟩)
        · exact .inl h
        · exact .inr (.inl ⟨j, h1, h2, h3, h4, h5⟩)
        · omega
        · exact .inr (.inr ⟨j, h1, h2, fun hh => h3 (.inl hh), h4⟩)
      refine ⟨fun A b h => ?_, fun A b x h h1 h2 => ?_, fun A A' b b' x x' h h' h1 h2 h3 h4 => ?_, Nat.le_trans m.heap.s hB.size⟩
      · obtain ⟨x, hx, hr⟩ := m.heap.h A b (hdom A b h)
        exact ⟨x, hle _ _ hx, hr.mono hle (hB.block _ hr.lt)⟩
      · obtain ⟨y, hy, _⟩ := m.heap.h A b (hdom A b h)
        rw [hle _ _ hy] at h2; cases h2
        exact m.heap.o A b _ (hdom A b h) h1 hy
      · obtain ⟨y, hy, _⟩ := m.heap.h A b (hdom A b h)
        obtain ⟨y', hy', _⟩ := m.heap.h A' b' (hdom A' b' h')
        rw [hle _ _ hy] at h3; cases h3
        rw [hle _ _ hy'] at h4; cases h4
        exact m.heap.d A A' b b' _ _ (hdom A b h) (hdom A' b' h') h1 h2 hy hy'
  · -- it reads, makes, calls
    obtain ⟨hei, hq⟩ := hquiet (by omega)
    obtain ⟨hbase, hfrs⟩ := hcn.ground m.e3 i hei (by omega) hq
    obtain ⟨q1, q2, σx, q3, q4⟩ := ht.c1 hz
    have hop := q4 tD hag
    have hsub : ∀ A b, (addSel (Nat.testBit (((befT ops.toList 0 .lf).get i).getD 0)) (S i).frs (S i).base).get A = some b → Dom K ow S op F ops.size e L A b := by
      intro A b h
      rcases addSel_get _ _ _ _ _ h with h | ⟨p, hp, hb, h⟩
      · left; rw [← hbase]; exact h
      · obtain ⟨a1, a2, a3, a4⟩ := hfrs p hp
        exact .inr (.inl ⟨p.1, a1, by omega, bef_spec m.closed hr hb, a3, by rw [← a4]; exact h⟩)
    have hkb : KB (S i).c (addSel (Nat.testBit (((befT ops.toList 0 .lf).get i).getD 0)) (S i).frs (S i).base) := by
      intro A hA
      obtain ⟨b, hb⟩ := Option.isSome_iff_exists.1 hA
      rcases addSel_get _ _ _ _ _ hb with h | ⟨p, hp, _, h⟩
      · exact (hnum i (by omega)).2.1 A (by rw [h]; rfl)
      · exact (hnum i (by omega)).2.2 p hp _ h
    have hSl := m.heap.shut hsub hkb
    obtain ⟨_, hrun⟩ := opAt_ok (P := P) hC hH hR hop
    obtain ⟨tmps', es, w', φ', hst, hT, hD, hS', hE, hB⟩ := hrun w.heap.size φ w { fr with tmps := tmps, todo := .inRegion ops (i :: rest) :: k } cs rest k hkb hm rfl m.slots hrd' hcalm hSl hfree
    cases hD
    have hle := hE.le hfree
    obtain ⟨hx, hfr⟩ := hextn φ' hE
    refine ⟨tmps', w', φ', e, putT tD (op i).dst (v i), hst, ⟨hT, hs1, hs2, hclosed', hinside', fun j h1 h2 => .inl (m.e1 j h1 h2), fun j h1 h2 h3 hh => ?_, m.e3, m.e4, ?_, hfr, hx, m.le.trans hle, m.below.trans (hB.mono m.heap.s)⟩⟩
    · rcases hh with hh | rfl
      · exact m.e2 j h1 h2 h3 hh
      · omega
    · have hdom : ∀ A b, Dom K ow S op F ops.size e (fun j => L j ∨ j = i) A b → Dom K ow S op F ops.size e L A b ∨ (A, b) ∈ F i := by
        rintro A b (h | ⟨j, h1, h2, h3 | rfl, h4, h5⟩ | ⟨j, h1, h2, h3, h4⟩)
        · exact .inl (.inl h)
        · exact .inl (.inr (.inl ⟨j, h1, h2, h3, h4, h5⟩))
        · exact .inr h5
        · exact .inl (.inr (.inr ⟨j, h1, h2, fun hh => h3 (.inl hh), h4⟩))
      have old : ∀ A b, Dom K ow S op F ops.size e L A b → ∃ x, φ A = some x ∧ φ' A = some x ∧ BRel φ' b x w' ∧ x.1 < w.heap.size := fun A b h => by
        obtain ⟨x, hx, hr⟩ := m.heap.h A b h
        exact ⟨x, hx, hle _ _ hx, hr.mono hle (hB.block _ hr.lt), hr.lt⟩
      have new : ∀ A b, (A, b) ∈ F i → (S i).c ≤ A ∧ (σx.get A).isSome = true ∧ ∃ x, φ' A = some x ∧ BRel φ' b x w' ∧ w.heap.size ≤ x.1 := fun A b h => by
        obtain ⟨g1, g2, g3⟩ := q3 _ h
        obtain ⟨x, hx, hr⟩ := hS'.h A b g1
        exact ⟨g2, by rw [show σx.get A = some b from g1]; rfl, x, hx, hr, hS'.o A x g2 (by rw [show σx.get A = some b from g1]; rfl) hx⟩
      refine ⟨fun A b h => ?_, fun A b x h h1 h2 => ?_, fun A A' b b' x x' h h' h1 h2 h3 h4 => ?_, Nat.le_trans m.heap.s hB.size⟩
      · rcases hdom A b h with h | h
        · obtain ⟨x, _, hx, hr, _⟩ := old A b h; exact ⟨x, hx, hr⟩
        · obtain ⟨_, _, x, hx, hr, _⟩ := new A b h; exact ⟨x, hx, hr⟩
      · rcases hdom A b h with h | h
        · obtain ⟨y, hy, hy', _⟩ := old A b h
          rw [hy'] at h2; cases h2
          exact m.heap.o A b _ h h1 hy
        · obtain ⟨_, _, y, hy, _, hlt⟩ := new A b h
          rw [hy] at h2; cases h2
          exact Nat.le_trans m.heap.s hlt
      · rcases hdom A b h with h | h <;> rcases hdom A' b' h' with h' | h'
        · obtain ⟨y, hy, hy2, _⟩ := old A b h
          obtain ⟨y', hy', hy2', _⟩ := old A' b' h'
          rw [hy2] at h3; cases h3
          rw [hy2'] at h4; cases h4
          exact m.heap.d A A' b b' _ _ h h' h1 h2 hy hy'
        · obtain ⟨y, hy, hy2, _, hlt⟩ := old A b h
          obtain ⟨_, _, y', hy', _, hge⟩ := new A' b' h'
          rw [hy2] at h3; cases h3
          rw [hy'] at h4; cases h4
          omega
        · obtain ⟨_, _, y, hy, _, hge⟩ := new A b h
          obtain ⟨y', hy', hy2', _, hlt⟩ := old A' b' h'
          rw [hy] at h3; cases h3
          rw [hy2'] at h4; cases h4
          omega
        · obtain ⟨g1, g2, _⟩ := new A b h
          obtain ⟨_, g2', _⟩ := new A' b' h'
          exact hS'.d A A' x x' g1 h2 g2 g2' h3 h4
  · -- it writes
    obtain ⟨hei, hq⟩ := hquiet (by omega)
    obtain ⟨hbase, hfrs⟩ := hcn.ground m.e3 i hei (by omega) hq
    obtain ⟨q1, q2⟩ := ht.c2 hz
    have hop := q2 tD hag
    have hsub : ∀ A b, (addSel (fun _ => true) (S i).frs (S i).base).get A = some b → Dom K ow S op F ops.size e L A b := by
      intro A b h
      rcases addSel_get _ _ _ _ _ h with h | ⟨p, hp, _, h⟩
      · left; rw [← hbase]; exact h
      · obtain ⟨a1, a2, a3, a4⟩ := hfrs p hp
        exact .inr (.inl ⟨p.1, a1, by omega, clash_first hcn hck m.closed a2 hi hr (clash_writes_right hz (by omega)), a3, by rw [← a4]; exact h⟩)
    have hkb : KB (S i).c (addSel (fun _ => true) (S i).frs (S i).base) := by
      intro A hA
      obtain ⟨b, hb⟩ := Option.isSome_iff_exists.1 hA
      rcases addSel_get _ _ _ _ _ hb with h | ⟨p, hp, _, h⟩
      · exact (hnum i (by omega)).2.1 A (by rw [h]; rfl)
      · exact (hnum i (by omega)).2.2 p hp _ h
    have hSl := m.heap.to hsub
    obtain ⟨_, hrun⟩ := opAt_ok (P := P) hC hH hR hop
    obtain ⟨tmps', es, w', φ', hst, hT, hD, hS', hE, hB⟩ := hrun n0 φ w { fr with tmps := tmps, todo := .inRegion ops (i :: rest) :: k } cs rest k hkb hm rfl m.slots hrd' hcalm hSl hfree
    cases hD
    have hle := hE.le hfree
    obtain ⟨hx, hfr⟩ := hextn φ' hE
    have notyet : ∀ j, i < j → j < ops.size → K j ≠ 0 → ¬ L j := fun j h1 h2 h3 hLj =>
      hL (clash_first hcn hck m.closed h1 h2 (fun o ho => m.closed j o hLj ho) (clash_writes_left hz h3))
    refine ⟨tmps', w', φ', i + 1, putT tD (op i).dst (v i), hst, ⟨hT, hs1, hs2, hclosed', hinside', fun j h1 h2 => ?_, fun j h1 h2 h3 hh => ?_, q1, by omega, ?_, hfr, hx, m.le.trans hle, m.below.trans hB⟩⟩
    · by_cases hji : j = i
      · exact .inr hji
      · exact .inl (clash_first hcn hck m.closed (by omega) hi hr (clash_writes_right hz (by omega)))
    · rcases hh with hh | rfl
      · exact notyet j (by omega) h2 (by omega) hh
      · omega
    · have hdom : ∀ A b, Dom K ow S op F ops.size (i + 1) (fun j => L j ∨ j = i) A b → (S (i + 1)).base.get A = some b := by
        rintro A b (h | ⟨j, h1, h2, h3 | rfl, h4, h5⟩ | ⟨j, h1, h2, h3, h4⟩)
        · exact h
        · exact absurd h3 (notyet j (by omega) h2 (by omega))
        · omega
        · exact (hcn.mix i j hi h1 hz h2).elim
      have hP := hS'.toP
      exact ⟨fun A b h => hP.h A b (hdom A b h), fun A b x h => hP.o A b x (hdom A b h), fun A A' b b' x x' h h' => hP.d A A' b b' x x' (hdom A b h) (hdom A' b' h'), hP.s⟩
  · -- it writes a block of its own
    obtain ⟨hei, hq⟩ := hquiet (by omega)
    obtain ⟨A, old, new, g1, g2, g3, g4, g5, g6⟩ := ht.c3 hz
    obtain ⟨σx, cx, hop, hnew⟩ := g6 tD hag
    obtain ⟨ty, ad, va, hsto⟩ := hcn.sto i hi hz
    obtain ⟨_, _, hrun⟩ := opAt_store (P := P) hC hoi hsto hop hnew
    obtain ⟨hro, hbn0⟩ := hcn.own i A old g1
    have hAlt := hkA i A old g1
    have hDom : Dom K ow S op F ops.size e L A old := .inr (.inr ⟨i, hi, hz, hL, g1⟩)
    obtain ⟨x, hφ, hb⟩ := m.heap.h A old hDom
    have hn := m.heap.o A old x hDom hro hφ
    obtain ⟨tmps', w', hst, hT, hbn, hkeep, hB⟩ := hrun n0 φ w { fr with tmps := tmps, todo := .inRegion ops (i :: rest) :: k } cs rest k x hm rfl m.slots hφ hb hn
    have hE : Ext (S i).c (S (i + 1)).c φ φ := ⟨by omega, fun _ _ => rfl⟩
    obtain ⟨hx, hfr⟩ := hextn φ hE
    refine ⟨tmps', w', φ, e, putT tD (op i).dst (v i), hst, ⟨hT, hs1, hs2, hclosed', hinside', fun j h1 h2 => .inl (m.e1 j h1 h2), fun j h1 h2 h3 hh => ?_, m.e3, m.e4, ?_, hfr, hx, m.le, m.below.trans hB⟩⟩
    · rcases hh with hh | rfl
      · exact m.e2 j h1 h2 h3 hh
      · omega
    · have hbase : (S e).base = (S 0).base := (hcn.ground hcn.frs0 e (Nat.zero_le _) m.e4 fun j _ h2 h => hcn.mix j i (by have := m.e4; omega) hi h hz).1
      have hdom : ∀ A' b, Dom K ow S op F ops.size e (fun j => L j ∨ j = i) A' b → (Dom K ow S op F ops.size e L A' b ∧ A ≠ A') ∨ (A' = A ∧ b = new) := by
        rintro A' b (h | ⟨j, h1, h2, h3 | rfl, h4, h5⟩ | ⟨j, h1, h2, h3, h4⟩)
        · refine .inl ⟨.inl h, fun hh => ?_⟩
          subst hh
          rw [hbase, hbn0] at h; cases h
        · refine .inl ⟨.inr (.inl ⟨j, h1, h2, h3, h4, h5⟩), fun hh => ?_⟩
          subst hh
          rcases h4 with h4 | h4
          · obtain ⟨_, _, _, q3, _⟩ := (hcn.tells j h2).c1 h4
            have := (q3 _ h5).2.1
            have := hmono 0 j (by omega) (by omega)
            dsimp only at *
            omega
          · obtain ⟨B, old', new', k1, _, _, _, k5, _⟩ := (hcn.tells j h2).c3 h4
            rw [k5] at h5
            rcases List.mem_cons.1 h5 with h5 | h5
            · cases h5
              have := hcn.apart i j A old old' g1 k1
              subst this
              exact hL h3
            · cases h5
        · rw [g5] at h5
          rcases List.mem_cons.1 h5 with h5 | h5
          · cases h5; exact .inr ⟨rfl, rfl⟩
          · cases h5
        · refine .inl ⟨.inr (.inr ⟨j, h1, h2, fun hh => h3 (.inl hh), h4⟩), fun hh => ?_⟩
          subst hh
          exact h3 (.inr (hcn.apart i j A old b g1 h4).symm)
      have far : ∀ A' b, Dom K ow S op F ops.size e L A' b → A ≠ A' → ∀ y, φ A' = some y → y.1 ≠ x.1 := fun A' b h hne y hy => (m.heap.d A A' old b x y hDom h hro hne hφ hy).symm
      refine ⟨fun A' b h => ?_, fun A' b y h h1 h2 => ?_, fun A' A'' b b' y y' h h' h1 h2 h3 h4 => ?_, Nat.le_trans m.heap.s hB.size⟩
      · rcases hdom A' b h with ⟨h, hne⟩ | ⟨rfl, rfl⟩
        · obtain ⟨y, hy, hr⟩ := m.heap.h A' b h
          exact ⟨y, hy, hr.mono (Ren.le.refl φ) (hkeep _ (far A' b h hne y hy))⟩
        · exact ⟨x, hφ, hbn⟩
      · rcases hdom A' b h with ⟨h, hne⟩ | ⟨rfl, rfl⟩
        · exact m.heap.o A' b y h h1 h2
        · exact m.heap.o A' old y hDom h1 h2
      · rcases hdom A' b h with ⟨h, hne⟩ | ⟨rfl, rfl⟩ <;> rcases hdom A'' b' h' with ⟨h', hne'⟩ | ⟨rfl, rfl⟩
        · exact m.heap.d A' A'' b b' y y' h h' h1 h2 h3 h4
        · exact m.heap.d A' A'' b old y y' h hDom h1 h2 h3 h4
        · exact m.heap.d A' A'' old b' y y' hDom h' h1 h2 h3 h4
        · exact absurd rfl h2
/-- all of them, in whatever order -/
theorem mid_run (hC : CxOk P C) (hH : HookOk P H) (hR : RecOk P rec) (hk : KB (S 0).c (S 0).base) (hkA : ∀ i A old, look ow i = some (A, old) → A < (S 0).c) {n0 : Nat} {φ0 : Ren} {w0 : World} {fr : Frame} {cs : List Frame} {k : List Item} (hm : fr.mode = .run) (hrd : RoundRel φ0 round fr.roundOf) (hcalm : Calm fr cs) :
    ∀ (fuel t : Nat) (listed : Array Bool) (l : List Nat), listed.size = ops.size → l.length ≤ fuel → (∀ i, i < ops.size → listed.getD i false = false → i ∈ l) →
      ∀ (L : Nat → Prop), (∀ i, L i ↔ (i < ops.size ∧ listed.getD i false = true)) → ∀ tmps w φ e tD, Mid K ow P ro n0 nt ops S op v F φ0 w0 L tmps w φ e tD →
        ∃ L' tmps' w' φ' e' tD', (∀ i, i < ops.size → L' i) ∧ Mid K ow P ro n0 nt ops S op v F φ0 w0 L' tmps' w' φ' e' tD' ∧
          Steps P (lone { fr with tmps := tmps, todo := .inRegion ops (Region.linearise.go .any ops fuel t listed []) :: k } cs w) (lone { fr with tmps := tmps', todo := .inRegion ops [] :: k } cs w') := by
  -- one that is ready is there as long as one is left
  have least : ∀ (listed : Array Bool), listed.size = ops.size → Region.ready .any ops listed = [] → ∀ i, i < ops.size → listed.getD i false = true := by
    intro listed hsz hnil i
    induction i using Nat.strongRecOn with
    | _ i ih =>
      intro hi
      cases hl : listed.getD i false with
      | true => rfl
      | false =>
        obtain ⟨o, ho, hedge, _, _, _⟩ := rcheck_spec hck hi
        have hmem : i ∈ Region.ready .any ops listed := by
          refine mem_ready.2 ⟨?_, o, ho, fun x hx hb => ih x.on (hedge x hx hb) (by have := hedge x hx hb; omega)⟩
          have hlt : i < listed.size := by omega
          rw [Array.getD_eq_getD_getElem?, Array.getElem?_eq_getElem hlt] at hl ⊢
          exact hl
        rw [hnil] at hmem; cases hmem
  intro fuel
  induction fuel with
  | zero =>
    intro t listed l hsz hlen hleft L hLL tmps w φ e tD m
    have : l = [] := List.length_eq_zero_iff.1 (by omega)
    subst this
    refine ⟨L, tmps, w, φ, e, tD, fun i hi => (hLL i).2 ⟨hi, ?_⟩, m, .refl _ _⟩
    cases h : listed.getD i false with
    | true => rfl
    | false => cases hleft i hi h
  | succ fuel ih =>
    intro t listed l hsz hlen hleft L hLL tmps w φ e tD m
    have hgo : Region.linearise.go .any ops (fuel + 1) t listed [] = (match (Region.ready .any ops listed)[t % (Region.ready .any ops listed).length]? with
      | some i => i :: Region.linearise.go .any ops fuel (t / (Region.ready .any ops listed).length) (listed.setIfInBounds i true) []
      | none => []) := by
      simp only [Region.linearise.go]
      change (match (Region.ready .any ops listed)[t % (Region.ready .any ops listed).length]? with
        | some i => Region.linearise.go .any ops fuel (t / (Region.ready .any ops listed).length) (listed.setIfInBounds i true) [i]
        | none => [].reverse) = _
      split
      · rw [linearise_go_acc]; rfl
      · rfl
    cases hi : (Region.ready .any ops listed)[t % (Region.ready .any ops listed).length]? with
    | none =>
      have hnil : Region.ready .any ops listed = [] := by
        cases hr : Region.ready .any ops listed with
        | nil => rfl
        | cons x xs =>
          rw [hr] at hi
          have hlt : t % (x :: xs).length < (x :: xs).length := Nat.mod_lt _ (by simp)
          rw [List.getElem?_eq_getElem hlt] at hi
          cases hi
      rw [hgo, hi]
      exact ⟨L, tmps, w, φ, e, tD, fun i hin => (hLL i).2 ⟨hin, least listed hsz hnil i hin⟩, m, .refl _ _⟩
    | some i =>
      rw [hgo, hi]
      dsimp only
      obtain ⟨hun, o, ho, hall⟩ := mem_ready.1 (List.mem_of_getElem? hi)
      have hin : i < ops.size := (Array.getElem?_eq_some_iff.1 ho).1
      have hilt : i < listed.size := by omega
      have hfalse : listed.getD i false = false := by
        rw [Array.getD_eq_getD_getElem?, Array.getElem?_eq_getElem hilt] at hun ⊢
        exact hun
      have hnL : ¬ L i := fun h => by have := ((hLL i).1 h).2; rw [hfalse] at this; cases this
      have hready : Ready ops L i := by
        intro o' ho' x hx hb
        rw [ho] at ho'; cases ho'
        have hx' := hall x hx hb
        refine (hLL x.on).2 ⟨?_, hx'⟩
        rcases Nat.lt_or_ge x.on listed.size with h | h
        · omega
        · rw [Array.getD_eq_getD_getElem?, Array.getElem?_eq_none h] at hx'; cases hx'
      obtain ⟨tmps1, w1, φ1, e1, tD1, hst, m1⟩ := mid_step hcn hck hC hH hR hk hkA m hin hnL hready (rest := Region.linearise.go .any ops fuel (t / (Region.ready .any ops listed).length) (listed.setIfInBounds i true) []) (k := k) hm hrd hcalm
      have hget : ∀ j, (listed.setIfInBounds i true).getD j false = if j = i then true else listed.getD j false := by
        intro j
        by_cases hji : j = i
        · subst hji; rw [if_pos rfl]; simp [hilt]
        · rw [if_neg hji]
          exact getD_set_ne false (Ne.symm hji)
      obtain ⟨L', tmps', w', φ', e', tD', h1, h2, h3⟩ := ih (t / (Region.ready .any ops listed).length) (listed.setIfInBounds i true) (l.erase i) (by simpa using hsz)
        (by rw [List.length_erase_of_mem (hleft i hin hfalse)]; omega)
        (fun j hj hjf => by
          rw [hget] at hjf
          by_cases hji : j = i
          · rw [if_pos hji] at hjf; cases hjf
          · rw [if_neg hji] at hjf
            exact (List.mem_erase_of_ne hji).2 (hleft j hj hjf))
        (fun j => L j ∨ j = i) (fun j => by
          rw [hget, hLL]
          by_cases hji : j = i
          · subst hji; simp [hin]
          · simp [hji]) tmps1 w1 φ1 e1 tD1 m1
      exact ⟨L', tmps', w', φ', e', tD', h1, h2, hst.trans h3⟩
end

section
variable {P : Program} {C : Cx} {H : Hook}

theorem TRel.congr {φ : Ren} {nt : Nat} {t t' : Tree AV} {tmps : Array Value} (h : TRel φ nt t tmps) (k : ∀ d, t.get d = t'.get d) : TRel φ nt t' tmps := ⟨h.1, fun d => by rw [← k]; exact h.2 d⟩

theorem drawnM_ok (md : Md) (hC : CxOk P C) (hH : HookOk P H) : DrwOk P (drawnM md C H) := by
  intro rec hR ro nt round t ops σ c t' σ' c' he
  unfold drawnM at he
  cases hck : rcheck md.st (cls md ops) ops with
  | false => rw [hck] at he; cases he
  | true =>
    rw [hck] at he
    simp only [cond_true] at he
    split at he
    case h_1 => cases he
    case h_2 ow how =>
    split at he
    case h_2 => cases he
    case h_1 Sn hrun =>
     cases hkp : allKeep Sn.q Sn.bs with
     | false => rw [hkp] at he; cases he
     | true =>
      rw [hkp] at he
      cases he
      have how1 : ∀ i A old, look ow i = some (A, old) → ro ≤ A ∧ σ.get A = some old := by
        intro i A old h
        cases hst : md.st with
        | false => rw [hst] at how; cases how; cases h
        | true => rw [hst] at how; exact (owns_spec how).1 _ (look_mem h)
      have how2 : ∀ i j A old old', look ow i = some (A, old) → look ow j = some (A, old') → i = j := by
        intro i j A old old' h h'
        cases hst : md.st with
        | false => rw [hst] at how; cases how; cases h
        | true => rw [hst] at how; exact congrArg (·.1) ((owns_spec how).2 _ (look_mem h) _ (look_mem h') rfl)
      obtain ⟨S, hS0, hSn, hst⟩ := dRun_states _ _ _ _ hrun
      rw [Nat.zero_add] at hSn
      -- names for what each step tells
      have hops : ∀ i, i < ops.size → ∃ o, ops[i]? = some o := fun i hi => ⟨_, Array.getElem?_eq_getElem hi⟩
      let op : Nat → Oper := fun i => (ops[i]?).getD default
      have hop : ∀ i, i < ops.size → ops[i]? = some (op i) := fun i hi => by obtain ⟨o, ho⟩ := hops i hi; simp [op, ho]
      have htell : ∀ i, ∃ vF : AV × List (Nat × ABlk), i < ops.size → cls md ops i ≤ 3 ∧ StepTells (cls md ops) ow C H rec ro nt round ops i (op i) (S i) (S (i + 1)) vF.1 vF.2 := by
        intro i
        by_cases hi : i < ops.size
        · obtain ⟨h1, v, F, h2⟩ := dStep_tells (hop i hi) (hst i (Nat.zero_le _) (by omega))
          exact ⟨(v, F), fun _ => ⟨h1, h2⟩⟩
        · exact ⟨(.nilp, []), fun h => absurd h hi⟩
      obtain ⟨vF, hvF⟩ := Classical.axiomOfChoice htell
      have hcn : Canon (cls md ops) ow C H rec ro nt round ops S op (fun i => (vF i).1) (fun i => (vF i).2) :=
        by
        refine ⟨fun i hi => ⟨hop i hi, (hvF i hi).1⟩, fun i hi => (hvF i hi).2, by rw [hS0], ?_, ?_, ?_, ?_, how2⟩
        · intro i j hi hj h2 h3
          obtain ⟨o, ho, _, _, hno, _⟩ := rcheck_spec hck hi
          have := hop i hi
          rw [ho] at this; cases this
          exact hno (cls_store (hop j hj) h3).1 h2
        · intro i A old h
          refine ⟨(how1 i A old h).1, ?_⟩
          rw [hS0]
          cases hg : (cutAll ow σ).get A with
          | none => rfl
          | some b => exact absurd rfl ((cutAll_get hg).2 _ (look_mem h))
        · exact fun i hi h => (cls_store (hop i hi) h).2
        · intro p hp e he
          rw [hSn] at hp
          refine allKeep_spec hkp p hp _ ?_
          have hbs : ∀ i, i ≤ ops.size → (S i).base ∈ (S i).bs := by
            intro i
            induction i with
            | zero => intro _; rw [hS0]; exact List.mem_cons_self
            | succ i ih => intro hi; exact (hvF i (by omega)).2.bb (ih (by omega))
          have hup : ∀ k, e + k ≤ ops.size → ∀ β ∈ (S e).bs, β ∈ (S (e + k)).bs := by
            intro k
            induction k with
            | zero => intro _ β h; exact h
            | succ k ih => intro hk β h; exact (hvF (e + k) (by omega)).2.bs β (ih (by omega) β h)
          have := hup (ops.size - e) (by omega) _ (hbs e he)
          rw [show e + (ops.size - e) = ops.size by omega, hSn] at this
          exact this
      have hb0 : (S 0).base = cutAll ow σ := by rw [hS0]
      have hkbc : ∀ {k}, KB k σ → KB k (cutAll ow σ) := fun hk A hA => by
        obtain ⟨b, hb⟩ := Option.isSome_iff_exists.1 hA
        exact hk A (by rw [(cutAll_get hb).1]; rfl)
      have hkA : KB c σ → ∀ i A old, look ow i = some (A, old) → A < (S 0).c := fun hk i A old h => by
        rw [hS0]
        exact hk A (by rw [(how1 i A old h).2]; rfl)
      have hc0 : (S 0).c = c := by rw [hS0]
      have ht0 : (S 0).t = t := by rw [hS0]
      have hgrow : Grow c σ (S ops.size).c (addSel (fun _ => true) (S ops.size).frs (S ops.size).base) := by
        refine ⟨?_, fun hk => ?_⟩
        · rw [← hc0]
          -- the numbers rise whatever stands in the heap
          have : ∀ i, i ≤ ops.size → (S 0).c ≤ (S i).c := by
            intro i
            induction i with
            | zero => intro _; exact Nat.le_refl _
            | succ i ih =>
              intro hi
              have ht := hcn.tells i (by omega)
              have hcl := (hcn.here i (by omega)).2
              refine Nat.le_trans (ih (by omega)) ?_
              rcases (show cls md ops i = 0 ∨ cls md ops i = 1 ∨ cls md ops i = 2 ∨ cls md ops i = 3 by omega) with hz | hz | hz | hz
              · obtain ⟨_, _, _, _, _, q⟩ := ht.c0 hz
                obtain ⟨_, q⟩ := q (S i).t (fun _ _ => rfl)
                exact (opAt_ok (P := P) hC hH hR q).1.le
              · obtain ⟨_, _, _, _, q⟩ := ht.c1 hz
                exact (opAt_ok (P := P) hC hH hR (q (S i).t (fun _ _ => rfl))).1.le
              · obtain ⟨_, q⟩ := ht.c2 hz
                exact (opAt_ok (P := P) hC hH hR (q (S i).t (fun _ _ => rfl))).1.le
              · obtain ⟨_, _, _, _, _, _, q, _⟩ := ht.c3 hz
                omega
          exact this ops.size (Nat.le_refl _)
        · obtain ⟨_, h2, h3⟩ := hcn.numbers hC hH hR (by rw [hb0, hc0]; exact hkbc hk) (hkA hk) ops.size (Nat.le_refl _)
          intro A hA
          obtain ⟨b, hb⟩ := Option.isSome_iff_exists.1 hA
          rcases addSel_get _ _ _ _ _ hb with h | ⟨p, hp, _, h⟩
          · exact h2 A (by rw [h]; rfl)
          · exact h3 p hp _ h
      rw [← hSn]
      refine ⟨hgrow, fun n0 φ w fr cs id k hkb hm htd hT hrd hcalm hS hf => ?_⟩
      have hk0 : KB (S 0).c (S 0).base := by rw [hb0, hc0]; exact hkbc hkb
      have hmono : ∀ a b, a ≤ b → b ≤ ops.size → (S a).c ≤ (S b).c := fun a b h1 h2 => (hcn.numbers hC hH hR hk0 (hkA hkb) b h2).1 a h1
      have m0 : Mid (cls md ops) ow P ro n0 nt ops S op (fun i => (vF i).1) (fun i => (vF i).2) φ w (fun _ => False) fr.tmps w.drew φ 0 t := by
        refine ⟨hT, fun d _ => by rw [ht0], fun j _ h => h.elim, fun i o h => h.elim, fun j h => h.elim, fun j h => by omega, fun j _ _ _ h => h, by rw [hS0], Nat.zero_le _, ?_, ?_, ?_, Ren.le.refl φ, (Below.refl n0 w).drew⟩
        · have hP := hS.drew.toP
          have hdom : ∀ A b, Dom (cls md ops) ow S op (fun i => (vF i).2) ops.size 0 (fun _ => False) A b → σ.get A = some b := by
            rintro A b (h | ⟨j, _, _, h, _⟩ | ⟨j, _, _, _, h⟩)
            · rw [hb0] at h; exact (cutAll_get h).1
            · exact h.elim
            · exact (how1 j A b h).2
          exact ⟨fun A b h => hP.h A b (hdom A b h), fun A b x h => hP.o A b x (hdom A b h), fun A A' b b' x x' h h' => hP.d A A' b b' x x' (hdom A b h) (hdom A' b' h'), hP.s⟩
        · intro j hj _ A h1 h2
          have a1 := hmono 0 j (by omega) (by omega)
          have a2 := hmono (j + 1) ops.size (by omega) (by omega)
          exact hf A (by omega) (by omega)
        · rw [hc0]
          exact ⟨hgrow.le, fun A _ => rfl⟩
      obtain ⟨L', tmps', w', φ', e', tD', hall, m, hsteps⟩ := mid_run hcn hck hC hH hR hk0 (hkA hkb) (fr := fr) (cs := cs) (k := k) hm hrd hcalm ops.size (w.tape w.drawn (.order fr.fn id)) (Array.replicate ops.size false) (List.range ops.size) (by simp) (by simp)
        (fun i hi _ => List.mem_range.2 hi) (fun _ => False) (fun i => by simp only [Array.getD_eq_getD_getElem?, Array.getElem?_replicate, false_iff, not_and]; intro hi; rw [if_pos hi]; simp) fr.tmps w.drew φ 0 t m0
      have hd := st_draw (P := P) (cs := cs) (w := w) hm htd
      have hsch : Region.schedule (P.follows .mixedOrders) ops (w.tape w.drawn (.order fr.fn id)) = Region.linearise.go .any ops ops.size (w.tape w.drawn (.order fr.fn id)) (Array.replicate ops.size false) [] := by
        simp only [Region.schedule, hC.mixed, Bool.true_or, if_true]; rfl
      rw [hsch] at hd
      have hend := st_regionEnd (P := P) (fr := { fr with tmps := tmps', todo := .inRegion ops [] :: k }) (cs := cs) (w := w') hm rfl
      have hsame : ∀ d, tD'.get d = (S ops.size).t.get d := by
        intro d
        by_cases hw : ∃ j, j < ops.size ∧ (op j).dst = some d
        · have hmax : ∀ k, k ≤ ops.size → (∃ j, j < k ∧ (op j).dst = some d) → ∃ j, j < k ∧ (op j).dst = some d ∧ ∀ j', j < j' → j' < k → (op j').dst ≠ some d := by
            intro k
            induction k with
            | zero => intro _ ⟨j, h, _⟩; omega
            | succ k ih =>
              intro hk ⟨j, h, hj⟩
              by_cases hkd : (op k).dst = some d
              · exact ⟨k, by omega, hkd, fun j' h1 h2 => by omega⟩
              · have hjk : j ≠ k := fun hh => by subst hh; exact hkd hj
                obtain ⟨q, h1, h2, h3⟩ := ih (by omega) ⟨j, by omega, hj⟩
                refine ⟨q, by omega, h2, fun j' a b => ?_⟩
                by_cases hj' : j' = k
                · subst hj'; exact hkd
                · exact h3 j' a (by omega)
          obtain ⟨j, hj, hdj, hlast⟩ := hmax ops.size (Nat.le_refl _) hw
          rw [hcn.t_some hdj ops.size (Nat.le_refl _) hj hlast]
          exact m.t2 j hj (hall j hj) d hdj fun j' h1 _ h3 => hlast j' h3 h1
        · rw [hcn.t_none ops.size (Nat.le_refl _) fun j hj hdj => hw ⟨j, hj, hdj⟩]
          exact m.t1 d fun j hj _ hdj => hw ⟨j, hj, hdj⟩
      have hq : ∀ j, e' ≤ j → j < ops.size → cls md ops j ≠ 2 := fun j h1 h2 h => m.e2 j h1 h2 h (hall j h2)
      obtain ⟨hbase, hfrs⟩ := hcn.ground m.e3 ops.size m.e4 (Nat.le_refl _) hq
      refine ⟨tmps', w', φ', (Steps.one hd).trans (hsteps.trans (.one hend)), m.slots.congr hsame, m.heap.to ?_, by rw [← hc0]; exact m.ext, m.below⟩
      intro A b h
      rcases addSel_get _ _ _ _ _ h with h | ⟨p, hp, _, h⟩
      · left; rw [← hbase]; exact h
      · obtain ⟨a1, a2, a3, a4⟩ := hfrs p hp
        exact .inr (.inl ⟨p.1, a1, a2, hall _ a2, a3, by rw [a4] at h; exact h⟩)

theorem firstM_ok (hC : CxOk P C) (hH : HookOk P H) : ∀ l : List Md, DrwOk P (firstM C H l)
  | [] => fun rec _ ro nt round t ops σ c t' σ' c' he => nomatch he
  | md :: l => fun rec hR ro nt round t ops σ c t' σ' c' he => by
    simp only [firstM] at he
    split at he
    · rename_i r hr
      cases he
      exact drawnM_ok md hC hH rec hR ro nt round t ops σ c t' σ' c' hr
    · exact firstM_ok hC hH l rec hR ro nt round t ops σ c t' σ' c' he
theorem drawn_ok (hC : CxOk P C) (hH : HookOk P H) : DrwOk P (drawn C H) := firstM_ok hC hH mds
end
end Go.Ev

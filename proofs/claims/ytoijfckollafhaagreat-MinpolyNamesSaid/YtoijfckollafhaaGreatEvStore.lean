/- A store into a block of its own: the rest of the memory stays. -/
import Derived.Test.YtoijfckollafhaaGreatEvSound2
namespace Go.Ev
open Go.RowKit

section
variable {P : Program} {C : Cx} {ro n0 c : Nat} {φ : Ren} {w : World}

theorem own_get {A : Nat} {old : ABlk} {A' : Nat} {b : ABlk} (h : ((Tree.lf : Hp).set A (some old)).get A' = some b) : A' = A ∧ b = old := by
  rw [Tree.get_set] at h
  by_cases hA : A' = A
  · rw [if_pos hA] at h; cases h; exact ⟨hA, rfl⟩
  · rw [if_neg hA, Tree.get_lf] at h; cases h

theorem SRel.own {A : Nat} {old : ABlk} {x : Nat × Nat × Nat} (hφ : φ A = some x) (hb : BRel φ old x w) (hn : n0 ≤ x.1) : SRel ro n0 φ ((Tree.lf : Hp).set A (some old)) w := by
  refine ⟨fun A' b h => ?_, fun A' y _ h hy => ?_, fun A' A'' y y' _ hne h h' => ?_, Nat.le_trans hn (Nat.le_of_lt hb.lt)⟩
  · obtain ⟨rfl, rfl⟩ := own_get h; exact ⟨x, hφ, hb⟩
  · obtain ⟨b, hb'⟩ := Option.isSome_iff_exists.1 h
    obtain ⟨rfl, _⟩ := own_get hb'
    rw [hφ] at hy; cases hy; exact hn
  · obtain ⟨b, hb'⟩ := Option.isSome_iff_exists.1 h
    obtain ⟨b', hb''⟩ := Option.isSome_iff_exists.1 h'
    exact absurd ((own_get hb').1.trans (own_get hb'').1.symm) hne

theorem opAt_store (hC : CxOk P C) {H : Hook} {rec : Rec} {nt : Nat} {round : Option Nat} {t t' : Tree AV} {ops : Array Oper} {i : Nat} {ds : List ADef} {A : Nat} {old new : ABlk} {σ' : Hp} {c' : Nat} {o : Oper} (ho : ops[i]? = some o) {ty : TypeId} {ad va : Operand} (hst : o.op = .store ty ad va)
    (e : opAt C H rec ro nt round t ops i ((Tree.lf : Hp).set A (some old)) c = some (t', ds, σ', c')) (hnew : σ'.get A = some new) :
    c' = c ∧ ds = [] ∧ ∀ n0 φ w (fr : Frame) cs rest k x, fr.mode = .run → fr.todo = .inRegion ops (i :: rest) :: k → TRel φ nt t fr.tmps → φ A = some x → BRel φ old x w → n0 ≤ x.1 →
      ∃ tmps w', Steps P (lone fr cs w) (lone { fr with tmps := tmps, todo := .inRegion ops rest :: k } cs w') ∧ TRel φ nt t' tmps ∧ BRel φ new x w' ∧ (∀ k, k ≠ x.1 → w'.heap[k]? = w.heap[k]?) ∧ Below n0 w w' := by
  unfold opAt at e
  split at e
  · cases e
  · rename_i o' ho'
    rw [ho] at ho'; cases ho'
    cases hdst : dstOk nt o.dst with
    | false => rw [hdst] at e; cases e
    | true =>
      rw [hdst] at e
      simp only [cond_true] at e
      have fin : ∀ {fr : Frame} {rest : List Nat} {k : List Item}, fr.todo = .inRegion ops (i :: rest) :: k → ∀ u, fr.finish u = { fr with tmps := putC fr.tmps o.dst u, todo := .inRegion ops rest :: k } := by
        intro fr rest k ht u
        rw [finish_op ht ho]
      cases hwt : wantedA ops t o with
      | false =>
        rw [hwt] at e
        cases e
        have := (own_get hnew).2
        subst this
        refine ⟨rfl, rfl, fun n0 φ w fr cs rest k x hm ht hT hφ hb hn => ?_⟩
        have hw : Region.wanted o (yielded ops fr.tmps) = false := by rw [wantedA_eq hT]; exact hwt
        have hst := st_unwanted (P := P) (cs := cs) (w := w) hm ht ho hw
        rw [fin ht] at hst
        exact ⟨_, w, .one hst, hT.put hdst (.tup .nil), hb, fun _ _ => rfl, Below.refl _ _⟩
      | true =>
        rw [hwt] at e
        simp only [cond_true] at e
        have hwc : ∀ {φ : Ren} {fr : Frame}, TRel φ nt t fr.tmps → Region.wanted o (yielded ops fr.tmps) = true := fun hT => by rw [wantedA_eq hT]; exact hwt
        have hop : eOp C ro ((Tree.lf : Hp).set A (some old)) c t o = (match opd t ad, opd t va with
          | some a, some v => unitR c (eStore C ro ((Tree.lf : Hp).set A (some old)) ty a v)
          | _, _ => none) := by unfold eOp; rw [hst]; rfl
        rw [hop] at e
        cases ha : opd t ad with
        | none => rw [ha] at e; cases e
        | some a =>
          cases hv : opd t va with
          | none => rw [ha, hv] at e; cases e
          | some v =>
            rw [ha, hv] at e
            dsimp only at e
            cases hs : eStore C ro ((Tree.lf : Hp).set A (some old)) ty a v with
            | none => rw [hs] at e; cases e
            | some σ2 =>
              rw [hs] at e
              cases e
              refine ⟨rfl, rfl, fun n0 φ w fr cs rest k x hm ht hT hφ hb hn => ?_⟩
              have hS : SRel ro n0 φ ((Tree.lf : Hp).set A (some old)) w := SRel.own hφ hb hn
              have hρ := evRel_frame hT
              obtain ⟨w', h1, h2, h3, h4⟩ := eStore_okF (P := P) hC hS hs (hρ _ _ ha) (hρ _ _ hv)
              -- the block is that one
              obtain ⟨off, rfl⟩ : ∃ off, a = .ptr A off := by
                unfold eStore at hs
                split at hs
                case h_2 => cases hs
                case h_1 A' off =>
                  (repeat' (split at hs)) <;> first | (cases hs; done) | skip
                  rename_i n _
                  cases hbq : Nat.beq v.cells.length n with
                  | false => rw [hbq] at hs; cases hs
                  | true =>
                    rw [hbq] at hs
                    simp only [cond_true] at hs
                    unfold wrCells at hs
                    cases hro : Nat.ble ro A' with
                    | false => rw [hro] at hs; cases hs
                    | true =>
                      rw [hro] at hs
                      simp only [cond_true] at hs
                      split at hs
                      · rename_i cs' hg
                        obtain ⟨rfl, _⟩ := own_get hg
                        exact ⟨off, rfl⟩
                      · cases hs
              have hd : fr.roundOf = none ∨ ∀ q, o.op ≠ .defer q := .inr fun q hq => by rw [hst] at hq; cases hq
              have hrun : (execOp fr.eval o).run P w = .ok .skip w' := by
                unfold execOp; rw [hst]; dsimp only; simp [h1]
              have := st_unit (P := P) (cs := cs) hm ht ho (hwc hT) hd hrun
              rw [fin ht] at this
              obtain ⟨B, s, n⟩ := x
              obtain ⟨y, hy, hbn⟩ := h2.h A new hnew
              rw [hφ] at hy; cases hy
              exact ⟨_, w', .one this, hT.put hdst (.tup .nil), hbn, h4 A off B s n rfl hφ, h3⟩
end
end Go.Ev

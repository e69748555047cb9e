/- One step of the evaluator. -/
import Derived.Test.YtoijfckollafhaaGreatEvSound
namespace Go.Ev
open Go.RowKit

section
variable {P : Program} {C : Cx}

theorem FrOut.head {ro n0 c : Nat} {φ : Ren} {fr fr1 : Frame} {cs : List Frame} {w w1 : World} {r : Option Nat} {v : AV} {σ' : Hp} {c' c1 : Nat} {φ1 : Ren} (hst : Steps P (lone fr cs w) (lone fr1 cs w1)) (hfn : fr1.fn = fr.fn) (hk : fr1.kind = fr.kind)
    (hE : Ext c c1 φ φ1) (hB : Below n0 w w1) (h : FrOut P ro n0 c1 φ1 fr1 cs w1 r v σ' c') : FrOut P ro n0 c φ fr cs w r v σ' c' := by
  obtain ⟨w', φ', u, hend, k1, k2, k3, k4⟩ := h
  refine ⟨w', φ', u, ?_, k1, k2, hE.trans k3, hB.trans k4⟩
  cases r with
  | none =>
    obtain ⟨fr', q1, q2⟩ := hend
    exact ⟨fr', hst.trans q1, by rw [q2.fn, hfn], q2.mode, q2.defers, by rw [q2.kind, hk], q2.round, by rw [← hfn]; exact q2.res⟩
  | some L => exact fun cl rest hcs => hst.trans (hend cl rest hcs)

theorem loopIn_ok {ro c : Nat} {σ : Hp} {af : AFr} {params : Array Tmp} {assign body : Code} {L : Nat} {ds : List ADef} {σ1 : Hp} {c1 : Nat} (e : loopIn af params assign body σ c = some (L, ds, σ1, c1)) :
    Grow c σ c1 σ1 ∧ ∀ n0 φ w (fr : Frame), FRel φ af fr → SRel ro n0 φ σ w → Free c c1 φ →
      ∃ l s n mark w1 φ1, (Instr.enterLoop fr.fn fr.tmps params assign body fr.roundOf).run P w = .ok (l, mark) w1 ∧ φ1 L = some (l, s, n) ∧ DRel φ1 ds mark ∧ SRel ro n0 φ1 σ1 w1 ∧ Ext c c1 φ φ1 ∧ Below n0 w w1 := by
  unfold loopIn at e
  split at e
  · rename_i hround
    cases e
    refine ⟨(Grow.alloc _ _ _).trans (Grow.alloc _ _ _), fun n0 φ w fr hfr hS hf => ?_⟩
    have hrr := hfr.round
    rw [hround] at hrr
    have h0 : φ c = none := hf c (Nat.le_refl _) (by omega)
    have hS1 := hS.alloc h0 .dfr (.deferred (some [])) 0 (heap_alloc_new w _)
    have h1 : (φ.ext c (w.heap.size, 0, 0)) (c + 1) = none := by rw [Ren.ext_other _ _ (by omega)]; exact hf _ (by omega) (by omega)
    have hle1 := Ren.le_ext (w.heap.size, 0, 0) h0
    have hle2 := Ren.le_ext ((w.alloc (.deferred (some []))).heap.size, 0, 0) h1
    have hloop : LoopRel ((φ.ext c (w.heap.size, 0, 0)).ext (c + 1) ((w.alloc (.deferred (some []))).heap.size, 0, 0))
        { st := .ready, pend := none, fn := af.fn, nt := af.nt, tmps := af.tmps, params := params.toList, assign := assign, body := body, dblk := c }
        { state := .ready, pending := none, fn := fr.fn, tmps := fr.tmps, params := params, assign := assign, body := body, defers := w.heap.size } :=
      ⟨rfl, rfl, hfr.fn, (hfr.tmps.mono hle1).mono hle2, rfl, rfl, rfl, 0, 0, hle2 _ _ (Ren.ext_self _ _ _)⟩
    have hS2 := hS1.alloc h1 (.loop { st := .ready, pend := none, fn := af.fn, nt := af.nt, tmps := af.tmps, params := params.toList, assign := assign, body := body, dblk := c })
      (.loop { state := .ready, pending := none, fn := fr.fn, tmps := fr.tmps, params := params, assign := assign, body := body, defers := w.heap.size }) 0 ⟨_, heap_alloc_new _ _, hloop⟩
    refine ⟨(w.alloc (.deferred (some []))).heap.size, 0, 0, [{ target := .collected w.heap.size, args := #[] }], _, _, ?_, Ren.ext_self _ _ _, .coll (hle2 _ _ (Ren.ext_self _ _ _)) .nil, hS2, (Ext.alloc _).trans (Ext.alloc _), ((Below.refl _ _).alloc hS.s _).alloc (by have := hS.s; simp; omega) _⟩
    rw [hrr]
    simp [Instr.enterLoop]
  · rename_i L' hround
    split at e
    case h_2 => cases e
    case h_1 l hl =>
      cases e
      refine ⟨Grow.alloc _ _ _, fun n0 φ w fr hfr hS hf => ?_⟩
      have hrr := hfr.round
      rw [hround] at hrr
      obtain ⟨B, s, n, hφ, hrf⟩ := hrr
      obtain ⟨x, hx, r, hr, hrel⟩ := hS.h L' _ hl
      rw [hφ] at hx; cases hx
      dsimp only at hr
      obtain ⟨q1, q2, q3, q4, q5, q6, q7, s', n', q8⟩ := hrel
      have h0 : φ c = none := hf c (Nat.le_refl _) (by omega)
      have hle1 := Ren.le_ext (w.heap.size, 0, 0) h0
      have hloop : LoopRel (φ.ext c (w.heap.size, 0, 0)) { st := .ready, pend := none, fn := af.fn, nt := af.nt, tmps := af.tmps, params := params.toList, assign := assign, body := body, dblk := l.dblk }
          { state := .ready, pending := none, fn := fr.fn, tmps := fr.tmps, params := params, assign := assign, body := body, defers := r.defers } :=
        ⟨rfl, rfl, hfr.fn, hfr.tmps.mono hle1, rfl, rfl, rfl, s', n', hle1 _ _ q8⟩
      have hS2 := hS.alloc h0 (.loop { st := .ready, pend := none, fn := af.fn, nt := af.nt, tmps := af.tmps, params := params.toList, assign := assign, body := body, dblk := l.dblk })
        (.loop { state := .ready, pending := none, fn := fr.fn, tmps := fr.tmps, params := params, assign := assign, body := body, defers := r.defers }) 0 ⟨_, heap_alloc_new _ _, hloop⟩
      refine ⟨w.heap.size, 0, 0, [], _, _, ?_, Ren.ext_self _ _ _, .nil, hS2, Ext.alloc _, (Below.refl _ _).alloc hS.s _⟩
      rw [hrf]
      simp [Instr.enterLoop, Instr.getLoop, getObj, Sem.run, hr]

theorem evStep_ok (hC : CxOk P C) {H : Hook} (hH : HookOk P H) {D : Drw} (hD : DrwOk P D) {rec : Rec} (hR : RecOk P rec) : RecOk P (evStep C H D rec) := by
  intro ro af σ c v σ' c' e
  -- a step that turns the list of what is to do alone
  have move : ∀ (td : List Item), rec ro { af with todo := td } σ c = some (v, σ', c') →
      (∀ (fr : Frame) cs w, fr.mode = .run → fr.todo = af.todo → fr.roundOf = fr.roundOf → step P (lone fr cs w) = .next (lone { fr with todo := td } cs w)) →
      Grow c σ c' σ' ∧ ∀ n0 φ w fr cs, KB c σ → FRel φ af fr → SRel ro n0 φ σ w → Free c c' φ → Calm fr cs → (af.round ≠ none → fr.kind = .normal) → FrOut P ro n0 c φ fr cs w af.round v σ' c' := by
    intro td he hst
    obtain ⟨h1, h2⟩ := hR _ _ _ _ _ _ _ he
    refine ⟨h1, fun n0 φ w fr cs hkb hfr hS hf hc hk => ?_⟩
    exact FrOut.head (.one (hst fr cs w hfr.mode hfr.todo rfl)) rfl rfl (Ext.refl _ _) (Below.refl _ _)
      (h2 n0 φ w { fr with todo := td } cs hkb ⟨hfr.fn, hfr.mode, rfl, hfr.tmps, hfr.defers, hfr.round⟩ hS hf hc hk)
  have leave : ∀ (jump : Option Code) (k : List Item), leaveF C H rec ro af σ c jump = some (v, σ', c') →
      ((af.todo = [] ∧ jump = none) ∨ (af.todo = .code .ret :: k ∧ jump = some .ret) ∨ (∃ id, af.todo = .code (.exit id) :: k ∧ exitTo id k = none ∧ jump = some (.exit id)) ∨ (∃ l, af.todo = .code (.goto l) :: k ∧ gotoIn l k = none ∧ jump = some (.goto l))) →
      Grow c σ c' σ' ∧ ∀ n0 φ w fr cs, KB c σ → FRel φ af fr → SRel ro n0 φ σ w → Free c c' φ → Calm fr cs → (af.round ≠ none → fr.kind = .normal) → FrOut P ro n0 c φ fr cs w af.round v σ' c' := by
    intro jump k he ht
    obtain ⟨h1, h2⟩ := leaveF_ok (P := P) hC hR he
    exact ⟨h1, fun n0 φ w fr cs hkb hfr hS hf _ hk => h2 n0 φ w fr cs hkb hfr hS hf hk ⟨k, ht⟩⟩
  unfold evStep at e
  split at e
  · -- nothing left to do
    rename_i ht
    exact leave _ [] e (.inl ⟨ht, rfl⟩)
  · rename_i cd k ht
    split at e
    · exact move _ e fun fr cs w hm h _ => st_skip hm (h.trans ht)
    · exact move _ e fun fr cs w hm h _ => st_label hm (h.trans ht)
    · exact move _ e fun fr cs w hm h _ => st_seq hm (h.trans ht)
    · -- cond
      rename_i q a b
      split at e
      · rename_i hq
        obtain ⟨h1, h2⟩ := hR _ _ _ _ _ _ _ e
        refine ⟨h1, fun n0 φ w fr cs hkb hfr hS hf hc hk => ?_⟩
        have hb := evRel_frame hfr.tmps _ _ hq
        generalize hqv : fr.eval q = qv at hb
        cases hb
        exact FrOut.head (.one (st_cond (t := true) hfr.mode (hfr.todo.trans ht) hqv)) rfl rfl (Ext.refl _ _) (Below.refl _ _) (h2 n0 φ w { fr with todo := .code a :: k } cs hkb ⟨hfr.fn, hfr.mode, rfl, hfr.tmps, hfr.defers, hfr.round⟩ hS hf hc hk)
      · rename_i hq
        obtain ⟨h1, h2⟩ := hR _ _ _ _ _ _ _ e
        refine ⟨h1, fun n0 φ w fr cs hkb hfr hS hf hc hk => ?_⟩
        have hb := evRel_frame hfr.tmps _ _ hq
        generalize hqv : fr.eval q = qv at hb
        cases hb
        exact FrOut.head (.one (st_cond (t := false) hfr.mode (hfr.todo.trans ht) hqv)) rfl rfl (Ext.refl _ _) (Below.refl _ _) (h2 n0 φ w { fr with todo := .code b :: k } cs hkb ⟨hfr.fn, hfr.mode, rfl, hfr.tmps, hfr.defers, hfr.round⟩ hS hf hc hk)
      · cases e
    · exact move _ e fun fr cs w hm h _ => st_block hm (h.trans ht)
    · exact move _ e fun fr cs w hm h _ => st_loop hm (h.trans ht)
    · exact move _ e fun fr cs w hm h _ => st_scope hm (h.trans ht)
    · -- exit
      rename_i id
      split at e
      · rename_i k' he
        exact move _ e fun fr cs w hm h _ => st_exit hm (h.trans ht) he
      · rename_i he
        exact leave _ k e (.inr (.inr (.inl ⟨id, ht, he, rfl⟩)))
    · rename_i l
      split at e
      · rename_i k' he
        exact move _ e fun fr cs w hm h _ => st_goto hm (h.trans ht) he
      · rename_i he
        exact leave _ k e (.inr (.inr (.inr ⟨l, ht, he, rfl⟩)))
    · exact leave _ k e (.inr (.inl ⟨ht, rfl⟩))
    · -- region
      rename_i id ops draw
      split at e
      · exact move _ e fun fr cs w hm h _ => st_region hm (h.trans ht)
      · split at e
        case h_2 => cases e
        case h_1 t σ1 c1 hdr =>
          obtain ⟨h1, h2⟩ := hD rec hR _ _ _ _ _ _ _ _ _ _ hdr
          obtain ⟨h3, h4⟩ := hR _ _ _ _ _ _ _ e
          refine ⟨h1.trans h3, fun n0 φ w fr cs hkb hfr hS hf hc hk => ?_⟩
          obtain ⟨tmps, w1, φ1, hst, hT, hS1, hE, hB⟩ := h2 n0 φ w fr cs id k hkb hfr.mode (hfr.todo.trans ht) hfr.tmps hfr.round hc hS (hf.left h3.le)
          have hle := hE.le (hf.left h3.le)
          refine FrOut.head hst rfl rfl hE hB (h4 n0 φ1 w1 { fr with tmps := tmps, todo := k } cs (h1.kb hkb) ⟨hfr.fn, hfr.mode, rfl, hT, hfr.defers.mono hle, ?_⟩ hS1 (hf.right hE) hc hk)
          have hrr := hfr.round
          cases hround : af.round with
          | none => rw [hround] at hrr; exact hrr
          | some L => rw [hround] at hrr; obtain ⟨B, s, n, q1, q2⟩ := hrr; exact ⟨B, s, n, hle _ _ q1, q2⟩
    · -- range over a function
      rename_i f params assign body
      split at e
      case h_2 => cases e
      case h_1 g fs cs' hf0 =>
        split at e
        · cases e
        · rename_i fn hfn
          split at e
          · cases e
          · rename_i L ds σ1 c1 hin
            split at e
            · cases e
            · rename_i v1 σ2 c2 hcall
              split at e
              case h_2 => cases e
              case h_1 l hl =>
                cases hro : Nat.ble ro L with
                | false => rw [hro] at e; cases e
                | true =>
                  rw [hro] at e
                  simp only [cond_true] at e
                  have hro' := Nat.le_of_ble_eq_true hro
                  have hnb : l.st ≠ .busy ∧ rec ro { af with todo := (match l.pend with | some j => .code j :: k | none => k), defers := ds ++ af.defers } (σ2.set L none) c2 = some (v, σ', c') := by
                    split at e
                    · cases e
                    · rename_i hne; exact ⟨hne, e⟩
                  obtain ⟨hnb, e⟩ := hnb
                  obtain ⟨h1, h2⟩ := loopIn_ok (P := P) (ro := ro) hin
                  obtain ⟨h3, h4⟩ := callF_ok hC hH hR hcall
                  obtain ⟨h5, h6⟩ := hR _ _ _ _ _ _ _ e
                  refine ⟨h1.trans (h3.trans ((Grow.kill _ _ _).trans h5)), fun n0 φ w fr cs hkb hfr hS hf hc hk => ?_⟩
                  obtain ⟨lc, s, n, mark, w1, φ1, hen, hφL, hDs, hS1, hE1, hB1⟩ := h2 n0 φ w fr hfr hS (hf.left (Nat.le_trans h3.le h5.le))
                  have hle1 := hE1.le (hf.left (Nat.le_trans h3.le h5.le))
                  have hf1 := hf.right hE1
                  have hv0 := (evRel_frame hfr.tmps _ _ hf0).mono hle1
                  generalize hqv : fr.eval f = qv at hv0
                  cases hv0 with
                  | fn k1 k2 =>
                    rename_i us vs
                    have hargs : LRel φ1 (fs ++ [.yld L] ++ cs') (us ++ [Value.func (.yield lc) #[] #[]] ++ vs) := (k1.append (.cons (.yld hφL) .nil)).append k2
                    obtain ⟨w2, φ2, u, fr2, hs2, hd2, _, hS2, hE2, hB2⟩ := h4 n0 φ1 w1 _ (h1.kb hkb) hS1 (hf1.left h5.le) hargs ({ fr with todo := .inRangeFunc lc :: k, defers := mark ++ fr.defers } :: cs)
                    have hle2 := hE2.le (hf1.left h5.le)
                    have hcl : ∀ fr' : Frame, fr'.tmps = fr.tmps → (do let d ← resolve fr'.eval { callee := .value f, args := #[.const (.func (.yield lc) #[] #[])], argTypes := #[] } 0; invoke d.target d.args : Sem Next).run P w1 = .ok (.enter g (us ++ [Value.func (.yield lc) #[] #[]] ++ vs).toArray) w1 := by
                      intro fr' htm
                      have hev : fr'.eval f = fr.eval f := by cases f <;> simp [Frame.eval, htm]
                      rw [resolve_value (f := f) rfl (hev.trans hqv), pure_bind]
                      simp only [invoke]
                      have : us.toArray ++ #[Operand.const (Value.func (.yield lc) #[] #[])].map fr'.eval ++ vs.toArray = (us ++ [Value.func (.yield lc) #[] #[]] ++ vs).toArray := by
                        apply Array.ext'; simp [Frame.eval]
                      rw [this]
                      exact (hC.fns _ _ hfn).2 _ _
                    have hst1 := st_rangeFunc (P := P) (cs := cs) hfr.mode (hfr.todo.trans ht) hen hcl
                    have hback := st_returned (P := P) (cs := cs) (cl := { fr with todo := .inRangeFunc lc :: k, defers := mark ++ fr.defers }) hd2 rfl
                    have hfin : ({ fr with todo := .inRangeFunc lc :: k, defers := mark ++ fr.defers } : Frame).finish u = { fr with todo := .endRangeFunc lc :: k, defers := mark ++ fr.defers } := by simp [Frame.finish]
                    rw [hfin] at hback
                    -- the loop's record at the end
                    obtain ⟨x, hx, r, hr, hrel⟩ := hS2.h L _ hl
                    have hφL2 := hle2 _ _ hφL
                    rw [hφL2] at hx; cases hx
                    dsimp only at hr
                    obtain ⟨q1, q2, q3, q4, q5, q6, q7, q8⟩ := hrel
                    have hrel' : LoopRel φ2 { l with st := .exhausted } { r with state := .exhausted } := ⟨rfl, q2, q3, q4, q5, q6, q7, q8⟩
                    obtain ⟨hS3, hB3⟩ := loop_put hS2 hφL2 hro' hl hr hrel'
                    have hnb' : ¬ r.state = .busy := by rw [q1]; exact hnb
                    have hend : (Instr.endLoop lc).run P w2 = .ok l.pend { w2 with heap := w2.heap.setIfInBounds lc (.loop { r with state := .exhausted }) } := by
                      simp [Instr.endLoop, Instr.getLoop, getObj, setObj, Sem.run, hr, hnb', q2]
                    have hst3 := st_endRangeFunc (P := P) (cs := cs) (fr := { fr with todo := .endRangeFunc lc :: k, defers := mark ++ fr.defers }) hfr.mode rfl hend
                    have htodo : (l.pend.map Item.code).toList ++ k = (match l.pend with | some j => .code j :: k | none => k) := by cases l.pend <;> rfl
                    rw [htodo] at hst3
                    have hS4 : SRel ro n0 φ2 (σ2.set L none) { w2 with heap := w2.heap.setIfInBounds lc (.loop { r with state := .exhausted }) } := by
                      have hk3 := hS3.kill L
                      have hget : ∀ A, (σ2.set L none).get A = ((σ2.set L (some (.loop { l with st := .exhausted }))).set L none).get A := by
                        intro A; rw [Tree.get_set, Tree.get_set]; split
                        · rfl
                        · rename_i hA; rw [Tree.get_set, if_neg hA]
                      exact ⟨fun A b hA => hk3.h A b (by rw [← hget]; exact hA), fun A x h1 h2 h3 => hk3.o A x h1 (by rw [← hget]; exact h2) h3,
                        fun A A' x x' h1 h2 h3 h4 h5 h6 => hk3.d A A' x x' h1 h2 (by rw [← hget]; exact h3) (by rw [← hget]; exact h4) h5 h6, hk3.s⟩
                    have hsteps : Steps P (lone fr cs w) (lone { fr with todo := (match l.pend with | some j => .code j :: k | none => k), defers := mark ++ fr.defers } cs { w2 with heap := w2.heap.setIfInBounds lc (.loop { r with state := .exhausted }) }) :=
                      .head hst1 (hs2.trans (.head hback (.one hst3)))
                    have hle := hle1.trans hle2
                    refine FrOut.head hsteps rfl rfl (hE1.trans hE2) ((hB1.trans hB2).trans hB3) (h6 n0 φ2 _ _ cs ((Grow.kill _ _ _).kb (h3.kb (h1.kb hkb))) ⟨hfr.fn, hfr.mode, rfl, hfr.tmps.mono hle, (hDs.mono hle2).append (hfr.defers.mono hle), ?_⟩ hS4 (hf1.right hE2) hc hk)
                    have hrr := hfr.round
                    show RoundRel φ2 af.round fr.roundOf
                    cases hround : af.round with
                    | none => rw [hround] at hrr; exact hrr
                    | some L' => rw [hround] at hrr; obtain ⟨B, s, n, q1, q2⟩ := hrr; exact ⟨B, s, n, hle _ _ q1, q2⟩
    · cases e
  · rename_i k ht
    exact move _ e fun fr cs w hm h _ => st_inBlock hm (h.trans ht)
  · rename_i k ht
    exact move _ e fun fr cs w hm h _ => st_inScope hm (h.trans ht)
  · rename_i k ht
    exact move _ e fun fr cs w hm h _ => st_inLoop hm (h.trans ht)
  · rename_i k ht
    exact move _ e fun fr cs w hm h _ => st_regionEnd hm (h.trans ht)
  · -- one operation
    rename_i ops i is k ht
    split at e
    case h_2 => cases e
    case h_1 t ds σ1 c1 hop =>
      obtain ⟨h1, h2⟩ := opAt_ok (P := P) hC hH hR hop
      obtain ⟨h3, h4⟩ := hR _ _ _ _ _ _ _ e
      refine ⟨h1.trans h3, fun n0 φ w fr cs hkb hfr hS hf hc hk => ?_⟩
      obtain ⟨tmps, es, w1, φ1, hst, hT, hDs, hS1, hE, hB⟩ := h2 n0 φ w fr cs is k hkb hfr.mode (hfr.todo.trans ht) hfr.tmps hfr.round hc hS (hf.left h3.le)
      have hle := hE.le (hf.left h3.le)
      refine FrOut.head hst rfl rfl hE hB (h4 n0 φ1 w1 { fr with tmps := tmps, todo := .inRegion ops is :: k, defers := es ++ fr.defers } cs (h1.kb hkb) ⟨hfr.fn, hfr.mode, rfl, hT, hDs.append (hfr.defers.mono hle), ?_⟩ hS1 (hf.right hE) hc hk)
      have hrr := hfr.round
      cases hround : af.round with
      | none => rw [hround] at hrr; exact hrr
      | some L => rw [hround] at hrr; obtain ⟨B, s, n, q1, q2⟩ := hrr; exact ⟨B, s, n, hle _ _ q1, q2⟩
  · -- a round begins
    rename_i k ht
    split at e
    case h_2 => cases e
    case h_1 L hround =>
      cases hro : Nat.ble ro L with
      | false => rw [hro] at e; cases e
      | true =>
        rw [hro] at e
        simp only [cond_true] at e
        split at e
        case h_2 => cases e
        case h_1 l hl =>
          split at e
          case h_2 => cases e
          case h_1 hstl =>
            obtain ⟨h3, h4⟩ := hR _ _ _ _ _ _ _ e
            refine ⟨(Grow.put _ (by rw [hl]; rfl)).trans h3, fun n0 φ w fr cs hkb hfr hS hf hc hk => ?_⟩
            have hrr := hfr.round
            rw [hround] at hrr
            obtain ⟨B, s, n, hφ, hrf⟩ := hrr
            obtain ⟨x, hx, r, hr, hrel⟩ := hS.h L _ hl
            rw [hφ] at hx; cases hx
            dsimp only at hr
            have hro' := Nat.le_of_ble_eq_true hro
            obtain ⟨q1, q2, q3, q4, q5, q6, q7, q8⟩ := hrel
            have hrel' : LoopRel φ { l with st := .busy } { r with state := .busy } := ⟨rfl, q2, q3, q4, q5, q6, q7, q8⟩
            obtain ⟨hS', hB'⟩ := loop_put hS hφ hro' hl hr hrel'
            have hrst : r.state = .ready := q1.trans hstl
            have hrun : (Instr.beginRound B).run P w = .ok () { w with heap := w.heap.setIfInBounds B (.loop { r with state := .busy }) } := by
              simp [Instr.beginRound, Instr.getLoop, getObj, setObj, Sem.run, hr, hrst]
            have hst := st_beginRound (P := P) (cs := cs) hfr.mode (hfr.todo.trans ht) hrf hrun
            refine FrOut.head (.one hst) rfl rfl (Ext.refl _ _) hB' (h4 n0 φ _ { fr with todo := k } cs ((Grow.put _ (by rw [hl]; rfl)).kb hkb) ⟨hfr.fn, hfr.mode, rfl, hfr.tmps, hfr.defers, ?_⟩ hS' hf hc hk)
            show RoundRel φ af.round fr.roundOf
            rw [hround]
            exact ⟨B, s, n, hφ, hrf⟩
  · cases e
theorem ev_ok (hC : CxOk P C) {H : Hook} (hH : HookOk P H) {D : Drw} (hD : DrwOk P D) : ∀ n, RecOk P (ev C H D n)
  | 0 => fun ro af σ c v σ' c' e => by rw [ev_zero] at e; cases e
  | n + 1 => by rw [ev_succ]; exact evStep_ok hC hH hD (ev_ok hC hH hD n)
end
end Go.Ev

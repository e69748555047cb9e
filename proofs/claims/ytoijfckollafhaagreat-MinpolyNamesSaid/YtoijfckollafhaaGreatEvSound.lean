/- What the evaluator tells of a frame, the machine does. -/
import Derived.Test.YtoijfckollafhaaGreatEvSteps
namespace Go.Ev
open Go.RowKit

section
variable {P : Program} {C : Cx} {ro n0 c : Nat} {φ : Ren} {σ : Hp} {w : World}

/-! ### slots -/
theorem TRel.set {nt : Nat} {t : Tree AV} {tmps : Array Value} (h : TRel φ nt t tmps) {d : Nat} (hd : d < nt) {v : AV} {u : Value} (hv : VRel φ v u) : TRel φ nt (t.set d (some v)) (tmps.setIfInBounds d u) := by
  refine ⟨by rw [Array.size_setIfInBounds]; exact h.1, fun e => ?_⟩
  rw [Tree.get_set]
  by_cases he : e = d
  · subst he
    rw [if_pos rfl]
    have : (tmps.setIfInBounds e u).getD e (.tuple #[]) = u := by
      have := h.1
      simp [Array.getD, this, hd]
    rw [this]; exact hv
  · rw [if_neg he]
    have : (tmps.setIfInBounds d u).getD e (.tuple #[]) = tmps.getD e (.tuple #[]) := by
      rw [Array.getD_eq_getD_getElem?, Array.getD_eq_getD_getElem?, Array.getElem?_setIfInBounds_ne (Ne.symm he)]
    rw [this]; exact h.2 e

theorem TRel.put {nt : Nat} {t : Tree AV} {tmps : Array Value} (h : TRel φ nt t tmps) {d : Option Tmp} (hd : dstOk nt d = true) {v : AV} {u : Value} (hv : VRel φ v u) :
    TRel φ nt (putT t d v) (putC tmps d u) := by
  cases d with
  | none => exact h
  | some d => exact h.set (by simpa [dstOk] using hd) hv

theorem argsT_get : ∀ (as : List AV) (i : Nat) (t : Tree AV) (d : Nat), (argsT i as t).get d = if i ≤ d ∧ d < i + as.length then as[d - i]? else t.get d
  | [], i, t, d => by simp only [argsT, List.length_nil, Nat.add_zero]; rw [if_neg (by omega)]
  | a :: as, i, t, d => by
    simp only [argsT]
    rw [argsT_get as (i + 1), Tree.get_set]
    simp only [List.length_cons]
    by_cases h : i ≤ d ∧ d < i + (as.length + 1)
    · rw [if_pos h]
      by_cases hd : d = i
      · subst hd
        rw [if_neg (by omega), if_pos rfl]; simp
      · rw [if_pos (by omega), show d - i = (d - (i + 1)) + 1 by omega]; simp
    · rw [if_neg h, if_neg (by omega), if_neg (by omega)]

theorem enterF_rel (hC : CxOk P C) {f : FuncId} {args : List AV} {af : AFr} (e : enterF C f args = some af) {us : List Value} (h : LRel φ args us) (kind : CallKind) :
    FRel φ af (Frame.enter P f us.toArray kind) ∧ af.round = none ∧ af.fn = f := by
  unfold enterF at e
  split at e
  · cases e
  · rename_i fn hfn
    split at e
    · cases e
    · rename_i body hb
      cases hle : Nat.ble args.length fn.ntmps with
      | false => rw [hle] at e; cases e
      | true =>
        rw [hle] at e; cases e
        have hle' := Nat.le_of_ble_eq_true hle
        have hf := (hC.fns _ _ hfn).1
        have hl := h.length
        refine ⟨⟨rfl, rfl, by simp [Frame.enter, hf, hb], ⟨?_, fun d => ?_⟩, .nil, rfl⟩, rfl, rfl⟩
        · simp [Frame.enter, hf]; omega
        · have ht : (Frame.enter P f us.toArray kind).tmps = us.toArray ++ Array.replicate (fn.ntmps - us.length) undef := by simp [Frame.enter, hf]
          rw [ht, argsT_get]
          simp only [Nat.zero_le, true_and, Nat.zero_add, Nat.sub_zero, Tree.get_lf]
          rw [Array.getD_eq_getD_getElem?]
          by_cases hd : d < args.length
          · rw [if_pos hd, List.getElem?_eq_getElem hd]
            obtain ⟨u, hu, hr⟩ := h.get d _ (List.getElem?_eq_getElem hd)
            have : (us.toArray ++ Array.replicate (fn.ntmps - us.length) undef)[d]? = some u := by
              rw [Array.getElem?_append_left (by simp; omega)]; simpa using hu
            rw [this]; exact hr
          · rw [if_neg hd]
            have : ((us.toArray ++ Array.replicate (fn.ntmps - us.length) undef)[d]?).getD (.tuple #[]) = .tuple #[] := by
              rw [Array.getElem?_append_right (by simp; omega), Array.getElem?_replicate]
              split <;> rfl
            rw [this]; exact .tup .nil

/-! ### the next number -/
theorem eAppend_grow {ts : List TypeId} {s x v : AV} {σ' : Hp} {c' : Nat} (e : eAppend C ro σ c ts s x = some (v, σ', c')) : Grow c σ c' σ' := by
  unfold eAppend at e
  simp only [cond_eq_ite] at e
  repeat' (split at e)
  all_goals first
    | (cases e; done)
    | (cases e; exact Grow.refl _ _)
    | (cases e; exact Grow.alloc _ _ _)
    | (cases e; exact (Grow.kill _ _ _).trans (Grow.alloc _ _ _))
    | (rename_i hw; cases e; exact wrCells_grow hw)
theorem eOp_grow {t : Tree AV} {o : Oper} {v : AV} {σ' : Hp} {c' : Nat} (e : eOp C ro σ c t o = some (.val v σ' c')) : Grow c σ c' σ' := by
  have hp : ∀ {x : Option AV}, pureR σ c x = some (.val v σ' c') → Grow c σ c' σ' := fun h => by obtain ⟨_, rfl, rfl⟩ := pureR_val h; exact Grow.refl _ _
  unfold eOp at e
  split at e
  case h_4 =>
    have e := memR_val e
    unfold eAlloc at e; split at e <;> cases e; exact Grow.alloc _ _ _
  case h_5 =>
    split at e
    · have e := memR_val e
      cases e; exact Grow.alloc _ _ _
    · cases e
  case h_7 =>
    split at e
    · have e := memR_val e
      unfold eBuildSlice at e
      simp only [cond_eq_ite] at e
      (repeat' (split at e)) <;> first | (cases e; done) | (cases e; exact Grow.alloc _ _ _)
    · cases e
  case h_9 =>
    split at e
    · unfold unitR at e
      split at e
      · rename_i hs
        cases e
        unfold eStore at hs
        simp only [cond_eq_ite] at hs
        (repeat' (split at hs)) <;> first | (cases hs; done) | exact wrCells_grow hs
      · cases e
    · cases e
  case h_16 =>
    split at e
    · have e := memR_val e
      unfold eMake at e
      simp only [cond_eq_ite] at e
      (repeat' (split at e)) <;> first | (cases e; done) | (cases e; exact Grow.alloc _ _ _)
    · cases e
  case h_23 =>
    unfold eCall at e
    split at e
    · cases e
    · split at e
      · split at e
        · split at e <;> cases e
        · cases e
        · cases e
      · unfold eBuiltin at e
        split at e
        · exact eAppend_grow (memR_val e)
        · split at e
          · rename_i hc
            cases e
            unfold eCopy at hc
            (repeat' (split at hc)) <;> first | (cases hc; done) | (cases hc; exact Grow.refl _ _) | (rename_i hw; cases hc; exact wrCells_grow hw)
          · cases e
        · exact hp e
        · exact hp e
        · exact hp e
        · exact hp e
        · cases e
        · cases e
      · cases e
  case h_24 =>
    split at e
    · split at e <;> cases e
    · cases e
  all_goals first
    | exact hp e
    | ((repeat' (split at e)) <;> first | exact hp e | (cases e; done) | (cases e; exact Grow.refl _ _))
theorem eOp_defer {t : Tree AV} {o : Oper} {q : Call} (h : o.op = .defer q) {v : AV} {σ' : Hp} {c' : Nat} : eOp C ro σ c t o ≠ some (.val v σ' c') := by
  intro e
  unfold eOp at e
  rw [h] at e
  dsimp only at e
  split at e
  · split at e <;> cases e
  · cases e

/-! ### calls -/
theorem callF_ok (hC : CxOk P C) {H : Hook} (hH : HookOk P H) {rec : Rec} (hR : RecOk P rec) {f : FuncId} {args : List AV} {v : AV} {σ' : Hp} {c' : Nat} (e : callF C H rec ro f args σ c = some (v, σ', c')) :
    Grow c σ c' σ' ∧ ∀ n0 φ w us, KB c σ → SRel ro n0 φ σ w → Free c c' φ → LRel φ args us → CallOut P ro n0 c φ w f us v σ' c' := by
  unfold callF at e
  split at e
  · rename_i r hr
    cases e
    obtain ⟨h1, h2⟩ := hH _ _ _ _ _ _ _ hr
    exact ⟨h1, fun n0 φ w us hkb hs hf hl => h2 ro n0 φ w us hkb hs hf hl⟩
  · split at e
    · rename_i af haf
      obtain ⟨h1, h2⟩ := hR _ _ _ _ _ _ _ e
      refine ⟨h1, fun n0 φ w us hkb hs hf hl cs => ?_⟩
      obtain ⟨hfr, hro, hfn⟩ := enterF_rel hC haf hl .normal
      obtain ⟨w', φ', u, hend, k1, k2, k3, k4⟩ := h2 n0 φ w _ cs hkb hfr hs hf (.inl rfl) (fun _ => rfl)
      rw [hro] at hend
      obtain ⟨fr', hst, hdone⟩ := hend
      exact ⟨w', φ', u, fr', hst, hdone, k1, k2, k3, k4⟩
    · cases e

theorem paramsT_rel : ∀ {ps : List Tmp} {as : List AV} {t t' : Tree AV}, paramsT ps as t = some t' → ∀ {nt : Nat} {tmps : Array Value} {us : List Value}, allLt nt ps = true → TRel φ nt t tmps → LRel φ as us →
    ps.length = us.length ∧ TRel φ nt t' ((ps.zip us).foldl (fun tmps (x : Nat × Value) => tmps.setIfInBounds x.1 x.2) tmps)
  | [], [], t, t', e, nt, tmps, us, hl, ht, ha => by cases e; cases ha; exact ⟨rfl, ht⟩
  | [], _ :: _, _, _, e, _, _, _, _, _, _ => by cases e
  | _ :: _, [], _, _, e, _, _, _, _, _, _ => by cases e
  | p :: ps, a :: as, t, t', e, nt, tmps, us, hl, ht, ha => by
    simp only [paramsT] at e
    simp only [allLt] at hl
    cases hp : Nat.blt p nt with
    | false => rw [hp] at hl; cases hl
    | true =>
      rw [hp] at hl
      cases ha with
      | cons h1 h2 =>
        obtain ⟨k1, k2⟩ := paramsT_rel e hl (ht.set (by simpa using hp) h1) h2
        exact ⟨by simp [k1], by simpa using k2⟩

theorem roundF_ok {rec : Rec} (hR : RecOk P rec) {L : Nat} {args : List AV} {v : AV} {σ' : Hp} {c' : Nat} (e : roundF rec ro L args σ c = some (v, σ', c')) :
    Grow c σ c' σ' ∧ ∀ n0 φ w us B s n, KB c σ → φ L = some (B, s, n) → SRel ro n0 φ σ w → Free c c' φ → LRel φ args us →
      ∃ f tmps a b, (Instr.yield B us.toArray).run P w = .ok (.round B f tmps a b) w ∧
        ∀ cl rest, ∃ w' φ' u, Steps P (lone (Frame.round B f tmps a b .normal) (cl :: rest) w) (lone (cl.finish u) rest w') ∧ VRel φ' v u ∧ SRel ro n0 φ' σ' w' ∧ Ext c c' φ φ' ∧ Below n0 w w' := by
  unfold roundF at e
  cases hro : Nat.ble ro L with
  | false => rw [hro] at e; cases e
  | true =>
    rw [hro] at e
    simp only [cond_true] at e
    split at e
    case h_2 => cases e
    case h_1 l hl =>
      split at e
      case h_2 => cases e
      case h_1 hst =>
        cases hlt : allLt l.nt l.params with
        | false => rw [hlt] at e; cases e
        | true =>
          rw [hlt] at e
          simp only [cond_true] at e
          split at e
          case h_2 => cases e
          case h_1 t ht =>
            obtain ⟨h1, h2⟩ := hR _ _ _ _ _ _ _ e
            refine ⟨h1, fun n0 φ w us B s n hkb hφ hs hf hargs => ?_⟩
            obtain ⟨x, hx, r, hr, hrel⟩ := hs.h L _ hl
            rw [hφ] at hx; cases hx
            dsimp only at hr
            obtain ⟨k1, k2, k3, k4, k5, k6, k7, s', n', k8⟩ := hrel
            obtain ⟨hlen, htr⟩ := paramsT_rel ht hlt k4 hargs
            refine ⟨r.fn, (r.params.zip us.toArray).foldl (fun tmps (t, a) => tmps.setIfInBounds t a) r.tmps, r.assign, r.body, ?_, ?_⟩
            · have hsz : us.length = r.params.size := by rw [← Array.length_toList, k5]; exact hlen.symm
              simp [Instr.yield, Instr.getLoop, getObj, Sem.run, hr, hsz]
            · have hzip : (r.params.zip us.toArray).foldl (fun tmps (x : Tmp × Value) => match x with | (t, a) => tmps.setIfInBounds t a) r.tmps = (l.params.zip us).foldl (fun tmps (x : Nat × Value) => tmps.setIfInBounds x.1 x.2) r.tmps := by
                rw [← Array.foldl_toList, ← k5]; simp
              rw [hzip]
              have hfr : FRel φ { fn := l.fn, nt := l.nt, tmps := t, todo := [.code l.assign, .beginRound, .code l.body], defers := [], round := some L }
                  (Frame.round B r.fn ((l.params.zip us).foldl (fun tmps (x : Nat × Value) => tmps.setIfInBounds x.1 x.2) r.tmps) r.assign r.body .normal) :=
                ⟨k3, rfl, by simp [Frame.round, k6, k7], htr, .nil, B, s, n, hφ, rfl⟩
              intro cl rest
              obtain ⟨w', φ', u, hend, r1⟩ := h2 n0 φ w _ (cl :: rest) hkb hfr hs hf (.inl rfl) (fun _ => rfl)
              exact ⟨w', φ', u, hend cl rest rfl, r1⟩

theorem wantedA_eq {nt : Nat} {t : Tree AV} {tmps : Array Value} (h : TRel φ nt t tmps) (ops : Array Oper) (o : Oper) : Region.wanted o (yielded ops tmps) = wantedA ops t o := by
  unfold Region.wanted wantedA
  cases hg : o.guard with
  | none => rfl
  | some p =>
    obtain ⟨j, want⟩ := p
    dsimp only
    unfold yielded
    cases hj : ops[j]? with
    | none => rfl
    | some q =>
      dsimp only [Option.bind_some]
      cases hd : q.dst with
      | none => rfl
      | some d =>
        dsimp only [Option.bind_some]
        have hv := h.2 d
        rw [Array.getD_eq_getD_getElem?] at hv
        cases hx : tmps[d]? with
        | none =>
          rw [hx] at hv
          simp only [Option.getD_none] at hv
          cases ht : t.get d with
          | none => rfl
          | some a => rw [ht] at hv; simp only [Option.getD_some] at hv; cases hv; rfl
        | some x =>
          rw [hx] at hv
          simp only [Option.getD_some] at hv
          cases ht : t.get d with
          | none => rw [ht] at hv; simp only [Option.getD_none] at hv; cases hv; rfl
          | some a =>
            rw [ht] at hv
            simp only [Option.getD_some] at hv
            cases hv <;> first | rfl | (dsimp only; rename_i b; cases b <;> cases want <;> rfl)

/-- one operation of a region, from whatever frame -/
theorem opAt_ok (hC : CxOk P C) {H : Hook} (hH : HookOk P H) {rec : Rec} (hR : RecOk P rec) {nt : Nat} {round : Option Nat} {t t' : Tree AV} {ops : Array Oper} {i : Nat} {ds : List ADef} {σ' : Hp} {c' : Nat}
    (e : opAt C H rec ro nt round t ops i σ c = some (t', ds, σ', c')) :
    Grow c σ c' σ' ∧ ∀ n0 φ w (fr : Frame) cs rest k, KB c σ → fr.mode = .run → fr.todo = .inRegion ops (i :: rest) :: k → TRel φ nt t fr.tmps → RoundRel φ round fr.roundOf → Calm fr cs → SRel ro n0 φ σ w → Free c c' φ →
      ∃ tmps es w' φ', Steps P (lone fr cs w) (lone { fr with tmps := tmps, todo := .inRegion ops rest :: k, defers := es ++ fr.defers } cs w') ∧ TRel φ' nt t' tmps ∧ DRel φ' ds es ∧ SRel ro n0 φ' σ' w' ∧ Ext c c' φ φ' ∧ Below n0 w w' := by
  unfold opAt at e
  split at e
  · cases e
  · rename_i o ho
    cases hdst : dstOk nt o.dst with
    | false => rw [hdst] at e; cases e
    | true =>
      rw [hdst] at e
      simp only [cond_true] at e
      -- the step that puts a value
      have fin : ∀ {fr : Frame} {rest : List Nat} {k : List Item}, fr.todo = .inRegion ops (i :: rest) :: k → ∀ u, fr.finish u = { fr with tmps := putC fr.tmps o.dst u, todo := .inRegion ops rest :: k, defers := [] ++ fr.defers } := by
        intro fr rest k ht u
        rw [finish_op ht ho]; simp
      cases hwt : wantedA ops t o with
      | false =>
        rw [hwt] at e
        cases e
        refine ⟨Grow.refl _ _, fun n0 φ w fr cs rest k hkb hm ht hT hrd hcalm hS hf => ?_⟩
        have hw : Region.wanted o (yielded ops fr.tmps) = false := by rw [wantedA_eq hT]; exact hwt
        have hst := st_unwanted (P := P) (cs := cs) (w := w) hm ht ho hw
        rw [fin ht] at hst
        exact ⟨_, [], w, φ, .one hst, hT.put hdst (.tup .nil), .nil, hS, Ext.refl _ _, Below.refl _ _⟩
      | true =>
        rw [hwt] at e
        simp only [cond_true] at e
        have hwc : ∀ {φ : Ren} {fr : Frame}, TRel φ nt t fr.tmps → Region.wanted o (yielded ops fr.tmps) = true := fun hT => by rw [wantedA_eq hT]; exact hwt
        split at e
        · -- a value
          rename_i v σ2 c2 hop
          cases e
          have hcc := eOp_grow hop
          refine ⟨hcc, fun n0 φ w fr cs rest k hkb hm ht hT hrd hcalm hS hf => ?_⟩
          obtain ⟨nx, u, w', φ', hrun, hnx, hv, hS', hE, hB⟩ := eOp_val (P := P) hC hS (evRel_frame hT) hop hf
          have hd : fr.roundOf = none ∨ ∀ q, o.op ≠ .defer q := by
            right
            exact fun q hq => eOp_defer hq hop
          have hle := hE.le hf
          refine ⟨_, [], w', φ', .one ?_, (hT.mono hle).put hdst hv, .nil, hS', hE, hB⟩
          rcases hnx with rfl | ⟨rfl, rfl⟩
          · have := st_value (P := P) (cs := cs) hm ht ho (hwc hT) hd hrun
            rwa [fin ht] at this
          · have := st_unit (P := P) (cs := cs) hm ht ho (hwc hT) hd hrun
            rwa [fin ht] at this
        · -- a call
          rename_i f args hop
          split at e
          case h_2 => cases e
          case h_1 v σ2 c2 hcall =>
            cases e
            obtain ⟨hcc, hcl⟩ := callF_ok hC hH hR hcall
            refine ⟨hcc, fun n0 φ w fr cs rest k hkb hm ht hT hrd hcalm hS hf => ?_⟩
            rcases eOp_form hop with ⟨_, _, _, h⟩ | ⟨q, hq, hcq⟩ | ⟨_, _, _, _, _, _, _, _, _, _, _, _, h⟩
            · cases h
            · obtain ⟨us, hrun, hargs, _⟩ := eCall_call (P := P) (w := w) hC (evRel_frame hT) hcq o.type
              have hrun' : (execOp fr.eval o).run P w = .ok (.enter f us.toArray) w := by rw [← hrun]; unfold execOp; rw [hq]
              have hd : fr.roundOf = none ∨ ∀ q, o.op ≠ .defer q := .inr fun q' hq' => by rw [hq] at hq'; cases hq'
              have hst := st_enter (P := P) (cs := cs) hm ht ho (hwc hT) hd hrun'
              obtain ⟨w', φ', u, fr', hsteps, hdone, hv, hS', hE, hB⟩ := hcl n0 φ w us hkb hS hf hargs (fr :: cs)
              have hback := st_returned (P := P) (cs := cs) (cl := fr) hdone rfl
              rw [fin ht] at hback
              exact ⟨_, [], w', φ', .head hst (hsteps.trans (.one hback)), (hT.mono (hE.le hf)).put hdst hv, .nil, hS', hE, hB⟩
            · cases h
        · -- a round
          rename_i L args hop
          split at e
          case h_2 => cases e
          case h_1 v σ2 c2 hround =>
            cases e
            obtain ⟨hcc, hcl⟩ := roundF_ok hR hround
            refine ⟨hcc, fun n0 φ w fr cs rest k hkb hm ht hT hrd hcalm hS hf => ?_⟩
            rcases eOp_form hop with ⟨_, _, _, h⟩ | ⟨q, hq, hcq⟩ | ⟨_, _, _, _, _, _, _, _, _, _, _, _, h⟩
            · cases h
            · obtain ⟨B, s, n, us, hφ, hrun, hargs⟩ := eCall_yld (evRel_frame hT) hcq o.type
              obtain ⟨g, tmps, x, y, hy, hcl'⟩ := hcl n0 φ w us B s n hkb hφ hS hf hargs
              have hrun' : (execOp fr.eval o).run P w = .ok (.round B g tmps x y) w := by rw [← hy, ← hrun]; unfold execOp; rw [hq]
              have hd : fr.roundOf = none ∨ ∀ q, o.op ≠ .defer q := .inr fun q' hq' => by rw [hq] at hq'; cases hq'
              have hst := st_round (P := P) (cs := cs) hm ht ho (hwc hT) hd hrun'
              obtain ⟨w', φ', u, hsteps, hv, hS', hE, hB⟩ := hcl' fr cs
              rw [fin ht] at hsteps
              exact ⟨_, [], w', φ', .head hst hsteps, (hT.mono (hE.le hf)).put hdst hv, .nil, hS', hE, hB⟩
            · cases h
        · -- recover
          rename_i hop
          split at e
          case h_2 => cases e
          case h_1 =>
            cases e
            refine ⟨Grow.refl _ _, fun n0 φ w fr cs rest k hkb hm ht hT hrd hcalm hS hf => ?_⟩
            rcases eOp_form hop with ⟨_, _, _, h⟩ | ⟨q, hq, hcq⟩ | ⟨_, _, _, _, _, _, _, _, _, _, _, _, h⟩
            · cases h
            · have hrun' : (execOp fr.eval o).run P w = .ok .recover w := by rw [← eCall_rcv (P := P) (ρ := fr.eval) (w := w) hcq o.type]; unfold execOp; rw [hq]
              have hd : fr.roundOf = none ∨ ∀ q, o.op ≠ .defer q := .inl hrd
              have hst := st_recover (P := P) (cs := cs) hm ht ho (hwc hT) hd hrd hcalm hrun'
              rw [fin ht] at hst
              exact ⟨_, [], w, φ, .one hst, hT.put hdst .nili, .nil, hS, Ext.refl _ _, Below.refl _ _⟩
            · cases h
        · -- what is put off
          rename_i f caps args hop
          split at e
          case h_2 => cases e
          case h_1 =>
            cases e
            refine ⟨Grow.refl _ _, fun n0 φ w fr cs rest k hkb hm ht hT hrd hcalm hS hf => ?_⟩
            rcases eOp_form hop with ⟨_, _, _, h⟩ | ⟨q, hq, hcq⟩ | ⟨q, x, g, fs, cs', as, bs, hq, hcal, hx, has, hcq, h⟩
            · cases h
            · exact absurd hcq eCall_dfr
            · cases h
              have hρ := evRel_frame (fr := fr) hT
              have hb := hρ _ _ hx
              generalize hqv : fr.eval x = qv at hb
              cases hb with
              | fn k1 k2 =>
                rename_i us vs
                have hrun : (execOp fr.eval o).run P w = .ok (.defer { target := .fn (.func f) vs.toArray, args := us.toArray ++ q.args.map fr.eval }) w := by
                  unfold execOp; rw [hq]; dsimp only
                  rw [resolve_value hcal hqv]; rfl
                have hd : fr.roundOf = none ∨ ∀ q, o.op ≠ .defer q := .inl hrd
                have hst := st_defer (P := P) (cs := cs) hm ht ho (hwc hT) hd hrun
                have hfin := finish_op (fr := { fr with defers := { target := .fn (.func f) vs.toArray, args := us.toArray ++ q.args.map fr.eval } :: fr.defers }) (i := i) (rest := rest) (k := k) ht ho undef
                rw [hfin] at hst
                refine ⟨_, [{ target := .fn (.func f) vs.toArray, args := us.toArray ++ q.args.map fr.eval }], w, φ, .one hst, hT.put hdst (.tup .nil), ?_, hS, Ext.refl _ _, Below.refl _ _⟩
                have hargs : us.toArray ++ q.args.map fr.eval = (us ++ q.args.toList.map fr.eval).toArray := by apply Array.ext'; simp
                rw [hargs]
                exact .call k2 (k1.append (mapO_ops hρ _ _ has)) .nil
        · cases e

/-! ### the way back -/
theorem resOne_ok (hC : CxOk P C) (h : SRel ro n0 φ σ w) {nt : Nat} {t : Tree AV} {tmps : Array Value} (hT : TRel φ nt t tmps) (g : ResultVar → Sem Value) (hg1 : ∀ d, g (.tmp d) = pure (tmps.getD d undef)) (hg2 : ∀ a ty, g (.cell a ty) = (do loadVar ty (← asAddr (tmps.getD a undef)))) :
    ∀ (rs : List ResultVar) (vs : List AV), mapO (resOne C σ t) rs = some vs → ∃ us : List Value, (rs.mapM g).run P w = .ok us w ∧ LRel φ vs us
  | [], vs, e => by cases e; exact ⟨[], rfl, .nil⟩
  | r :: rs, vs, e => by
    simp only [mapO] at e
    cases h1 : resOne C σ t r with
    | none => rw [h1] at e; cases e
    | some v =>
      rw [h1] at e
      dsimp only at e
      cases h2 : mapO (resOne C σ t) rs with
      | none => rw [h2] at e; cases e
      | some vs' =>
        rw [h2] at e; cases e
        obtain ⟨us, hus, hr⟩ := resOne_ok hC h hT g hg1 hg2 rs vs' h2
        have hone : ∃ u, (g r).run P w = .ok u w ∧ VRel φ v u := by
          cases r with
          | tmp d =>
            simp only [resOne] at h1
            have hv := hT.2 d
            refine ⟨tmps.getD d undef, by rw [hg1]; rfl, ?_⟩
            cases hg : t.get d with
            | none => rw [hg] at h1 hv; cases h1; exact hv
            | some x => rw [hg] at h1 hv; cases h1; exact hv
          | cell a ty =>
            simp only [resOne] at h1
            have hv := hT.2 a
            cases hg : t.get a with
            | none => rw [hg] at h1; cases h1
            | some p =>
              rw [hg] at h1 hv
              simp only [Option.getD_some] at hv
              obtain ⟨u, hu, hru⟩ := eLoad_ok (P := P) hC h h1 hv
              refine ⟨u, ?_, hru⟩
              have hp : ∃ A off, p = .ptr A off := by
                cases p with
                | ptr A off => exact ⟨A, off, rfl⟩
                | _ => cases h1
              obtain ⟨A, off, rfl⟩ := hp
              have hu' := hu
              rw [hg2]
              have hundef : tmps.getD a undef = tmps.getD a (.tuple #[]) := rfl
              rw [hundef]
              generalize tmps.getD a (.tuple #[]) = q at hv hu'
              cases hv with
              | ptr hφ => simpa [Instr.loadAt, Instr.sureAddr, asAddr] using hu'
        obtain ⟨u, hu, hru⟩ := hone
        refine ⟨u :: us, ?_, .cons hru hr⟩
        rw [List.mapM_cons, Sem.run_bind, hu]
        simp only [Result.andThen_ok, Sem.run_bind, hus]
        rfl

theorem resF_ok (hC : CxOk P C) (h : SRel ro n0 φ σ w) {f : FuncId} {nt : Nat} {t : Tree AV} {tmps : Array Value} (hT : TRel φ nt t tmps) {v : AV} (e : resF C f σ t = some v) :
    ∃ fn u, P.funcs[f]? = some fn ∧ (results fn tmps).run P w = .ok u w ∧ VRel φ v u := by
  unfold resF at e
  split at e
  · cases e
  · rename_i fn hfn
    have hf := (hC.fns _ _ hfn).1
    split at e
    · cases e
    · rename_i v' hm
      cases e
      obtain ⟨us, hus, hr⟩ := resOne_ok (P := P) hC h hT (fun | .tmp t => pure (tmps.getD t undef) | .cell a t => do loadVar t (← asAddr (tmps.getD a undef))) (fun _ => rfl) (fun _ _ => rfl) _ _ hm
      cases hr with
      | cons h1 h2 =>
        cases h2
        rename_i u
        refine ⟨fn, u, hf, ?_, h1⟩
        unfold results
        rw [← Array.toArray_toList (xs := fn.results), List.mapM_toArray]
        simp only [Sem.run_bind, Sem.run_map]
        erw [hus]
        rfl
    · rename_i vs hne hm
      cases e
      obtain ⟨us, hus, hr⟩ := resOne_ok (P := P) hC h hT (fun | .tmp t => pure (tmps.getD t undef) | .cell a t => do loadVar t (← asAddr (tmps.getD a undef))) (fun _ => rfl) (fun _ _ => rfl) _ _ hm
      refine ⟨fn, .tuple us.toArray, hf, ?_, .tup hr⟩
      unfold results
      rw [← Array.toArray_toList (xs := fn.results), List.mapM_toArray]
      simp only [Sem.run_bind, Sem.run_map]
      erw [hus]
      have hlen := hr.length
      have hn1 : us.toArray.size ≠ 1 := by
        intro h1
        have h1' : us.length = 1 := by simpa using h1
        rw [h1'] at hlen
        match vs, hlen with
        | [x], _ => exact hne x rfl
      have hn2 : ¬ us.length = 1 := by simpa using hn1
      simp [hn2]
theorem unw_ok (hC : CxOk P C) {H : Hook} {rec : Rec} (hR : RecOk P rec) {f : FuncId} {nt : Nat} {t : Tree AV} : ∀ (ds : List ADef) {σ : Hp} {c : Nat} {v : AV} {σ' : Hp} {c' : Nat}, unw C H rec ro f t ds σ c = some (v, σ', c') →
    Grow c σ c' σ' ∧ ∀ n0 φ w (fr : Frame) cs, KB c σ → fr.fn = f → fr.mode = .returning → fr.roundOf = none → DRel φ ds fr.defers → TRel φ nt t fr.tmps → SRel ro n0 φ σ w → Free c c' φ →
      ∃ w' φ' u fr', Steps P (lone fr cs w) (lone fr' cs w') ∧ Done P fr fr' w' u ∧ VRel φ' v u ∧ SRel ro n0 φ' σ' w' ∧ Ext c c' φ φ' ∧ Below n0 w w' := by
  intro ds
  induction ds with
  | nil =>
    intro σ c v σ' c' e
    simp only [unw] at e
    split at e
    case h_2 => cases e
    case h_1 v hv =>
      cases e
      refine ⟨Grow.refl _ _, fun n0 φ w fr cs _ hfn hm hr hd hT hS hf => ?_⟩
      obtain ⟨fn, u, h1, h2, h3⟩ := resF_ok (P := P) hC hS hT hv
      have hd' : fr.defers = [] := by generalize fr.defers = es at hd; cases hd; rfl
      exact ⟨w, φ, u, fr, .refl _ _, ⟨rfl, hm, hd', rfl, hr, fn, by rw [hfn]; exact h1, h2⟩, h3, hS, Ext.refl _ _, Below.refl _ _⟩
  | cons d ds ih =>
    intro σ c v σ' c' e
    cases d with
    | coll R =>
      simp only [unw] at e
      cases hro : Nat.ble ro R with
      | false => rw [hro] at e; cases e
      | true =>
        rw [hro] at e
        simp only [cond_true] at e
        split at e
        case h_2 => cases e
        case h_1 hR' =>
          obtain ⟨hcc, ih⟩ := ih e
          refine ⟨(Grow.kill _ _ _).trans hcc, fun n0 φ w fr cs hkb hfn hm hr hd hT hS hf => ?_⟩
          generalize hes : fr.defers = es at hd
          cases hd with
          | coll hφ hd =>
            rename_i B s n es
            obtain ⟨x, hx, hb⟩ := hS.h R _ hR'
            rw [hφ] at hx; cases hx
            have hb : w.heap[B]? = some (.deferred (some [])) := hb
            obtain ⟨w1, hw1⟩ : ∃ w1 : World, w1 = { w with heap := w.heap.setIfInBounds B (.deferred none) } := ⟨_, rfl⟩
            have hrun : (Instr.takeDeferred B).run P w = .ok [] w1 := by
              rw [hw1]; simp [Instr.takeDeferred, getObj, setObj, Sem.run, hb]
            have hro' := Nat.le_of_ble_eq_true hro
            have hsz : w1.heap.size = w.heap.size := by rw [hw1]; simp
            have hoth : ∀ k, k ≠ B → w1.heap[k]? = w.heap[k]? := fun k hk => by rw [hw1]; exact Array.getElem?_setIfInBounds_ne (Ne.symm hk)
            have hn0 : n0 ≤ B := hS.o R _ hro' (by rw [hR']; rfl) hφ
            have hB1 : Below n0 w w1 := ⟨by rw [hw1], by rw [hw1], by rw [hw1], by omega, fun k hk => hoth k (by omega)⟩
            have hS1 : SRel ro n0 φ (σ.set R none) w1 := by
              have hk := hS.kill R
              refine ⟨fun A b hA => ?_, hk.o, hk.d, by have := hS.s; omega⟩
              obtain ⟨x, hx, hr⟩ := hk.h A b hA
              refine ⟨x, hx, hr.mono (Ren.le.refl _) (hoth _ ?_)⟩
              rw [Tree.get_set] at hA
              by_cases hAR : A = R
              · subst hAR; simp at hA
              · rw [if_neg hAR] at hA
                exact fun heq => hS.d R A _ x hro' (Ne.symm hAR) (by rw [hR']; rfl) (by rw [hA]; rfl) hφ hx heq.symm
            have hst := st_collected (P := P) (cs := cs) hm hes hrun
            obtain ⟨w', φ', u, fr', k1, k2, k3, k4, k5, k6⟩ := ih n0 φ w1 { fr with defers := [] ++ es } cs ((Grow.kill c _ R).kb hkb) hfn hm hr hd hT hS1 hf
            exact ⟨w', φ', u, fr', .head hst k1, ⟨k2.fn, k2.mode, k2.defers, k2.kind, k2.round, k2.res⟩, k3, k4, k5, hB1.trans k6⟩
    | call g caps args =>
      simp only [unw] at e
      split at e
      · cases e
      · rename_i fn hfnq
        split at e
        · cases e
        · rename_i af haf
          split at e
          case h_2 => cases e
          case h_1 v1 σ1 c1 hrec =>
            obtain ⟨hc1, hrun⟩ := hR _ _ _ _ _ _ _ hrec
            obtain ⟨hcc, ih⟩ := ih e
            refine ⟨hc1.trans hcc, fun n0 φ w fr cs hkb hfn hm hr hd hT hS hf => ?_⟩
            generalize hes : fr.defers = es at hd
            cases hd with
            | call h k hd =>
              rename_i us vs es
              have hargs : vs.toArray ++ us.toArray = (vs ++ us).toArray := by simp
              have hcall := (hC.fns _ _ hfnq).2 (vs.toArray ++ us.toArray) w
              have hst := st_deferred (P := P) (cs := cs) (w := w) hm hes hcall
              rw [hargs] at hst
              obtain ⟨hfr, hrd, hff⟩ := enterF_rel (P := P) hC haf (k.append h) .deferred
              obtain ⟨w1, φ1, u1, hend, k1, k2, k3, k4⟩ := hrun n0 φ w _ ({ fr with defers := es } :: cs) hkb hfr hS (hf.left hcc.le) (.inr ⟨rfl, _, _, rfl, hm⟩) (fun hh => absurd hrd hh)
              rw [hrd] at hend
              obtain ⟨fr1, hs1, hd1⟩ := hend
              have hback := st_returnedD (P := P) (cs := cs) (cl := { fr with defers := es }) hd1 rfl hm
              have hle := k3.le (hf.left hcc.le)
              obtain ⟨w', φ', u, fr', q1, q2, q3, q4, q5, q6⟩ := ih n0 φ1 w1 { fr with defers := es } cs (hc1.kb hkb) hfn hm hr (hd.mono hle) (hT.mono hle) k2 (hf.right k3)
              exact ⟨w', φ', u, fr', .head hst (hs1.trans (.head hback q1)), ⟨q2.fn, q2.mode, q2.defers, q2.kind, q2.round, q2.res⟩, q3, q4, k3.trans q5, k4.trans q6⟩

/-- a loop's record turns -/
theorem loop_put (hS : SRel ro n0 φ σ w) {L B s n : Nat} {l l' : ALoop} {r r' : Loop} (hφ : φ L = some (B, s, n)) (hro : ro ≤ L) (hl : σ.get L = some (.loop l)) (hr : w.heap[B]? = some (.loop r)) (hrel : LoopRel φ l' r') :
    SRel ro n0 φ (σ.set L (some (.loop l'))) { w with heap := w.heap.setIfInBounds B (.loop r') } ∧ Below n0 w { w with heap := w.heap.setIfInBounds B (.loop r') } := by
  have hlt : B < w.heap.size := (Array.getElem?_eq_some_iff.1 hr).1
  have hn0 : n0 ≤ B := hS.o L _ hro (by rw [hl]; rfl) hφ
  refine ⟨hS.put hφ hro (by rw [hl]; rfl) (.loop l') ⟨r', by simp [hlt], hrel⟩ (by simp) fun k hk _ => by simp [Array.getElem?_setIfInBounds_ne (Ne.symm hk)], ⟨rfl, rfl, rfl, by simp, fun k hk => ?_⟩⟩
  show (w.heap.setIfInBounds B (.loop r'))[k]? = w.heap[k]?
  exact Array.getElem?_setIfInBounds_ne (by omega)

theorem leaveF_ok (hC : CxOk P C) {H : Hook} {rec : Rec} (hR : RecOk P rec) {af : AFr} {jump : Option Code} {v : AV} {σ' : Hp} {c' : Nat} (e : leaveF C H rec ro af σ c jump = some (v, σ', c')) :
    Grow c σ c' σ' ∧ ∀ n0 φ w (fr : Frame) cs, KB c σ → FRel φ af fr → SRel ro n0 φ σ w → Free c c' φ → (af.round ≠ none → fr.kind = .normal) →
      (∃ k, (af.todo = [] ∧ jump = none) ∨ (af.todo = .code .ret :: k ∧ jump = some .ret) ∨ (∃ id, af.todo = .code (.exit id) :: k ∧ exitTo id k = none ∧ jump = some (.exit id)) ∨ (∃ l, af.todo = .code (.goto l) :: k ∧ gotoIn l k = none ∧ jump = some (.goto l))) →
      FrOut P ro n0 c φ fr cs w af.round v σ' c' := by
  unfold leaveF at e
  split at e
  · rename_i L hround
    cases hro : Nat.ble ro L with
    | false => rw [hro] at e; cases e
    | true =>
      rw [hro] at e
      simp only [cond_true] at e
      split at e
      case h_2 => cases e
      case h_1 l hl =>
        cases e
        refine ⟨Grow.put _ (by rw [hl]; rfl), fun n0 φ w fr cs _ hfr hS hf hk htodo => ?_⟩
        have hrr := hfr.round
        rw [hround] at hrr
        obtain ⟨B, s, n, hφ, hrf⟩ := hrr
        obtain ⟨x, hx, r, hr, hrel⟩ := hS.h L _ hl
        rw [hφ] at hx; cases hx
        dsimp only at hr
        have hro' := Nat.le_of_ble_eq_true hro
        obtain ⟨q1, q2, q3, q4, q5, q6, q7, q8⟩ := hrel
        have hrel' : LoopRel φ { l with st := if jump.isNone then .ready else .done, pend := jump } { r with state := if jump.isNone then .ready else .done, pending := jump } := ⟨rfl, rfl, q3, q4, q5, q6, q7, q8⟩
        obtain ⟨hS', hB'⟩ := loop_put hS hφ hro' hl hr hrel'
        have hrun : (Instr.endRound B jump).run P w = .ok (.bool jump.isNone) { w with heap := w.heap.setIfInBounds B (.loop { r with state := if jump.isNone then .ready else .done, pending := jump }) } := by
          simp [Instr.endRound, Instr.getLoop, getObj, setObj, Sem.run, hr]
        refine ⟨_, φ, .bool jump.isNone, ?_, .bool _, hS', Ext.refl _ _, hB'⟩
        rw [hround]
        intro cl rest hcs
        subst hcs
        obtain ⟨k, hk'⟩ := htodo
        rw [← hfr.todo] at hk'
        exact .one (st_endRound (k := k) hfr.mode hrf (hk (by rw [hround]; exact fun hh => by cases hh)) hk' hrun)
  · rename_i hround
    have main : ∀ {v σ' c'}, unw C H rec ro af.fn af.tmps af.defers σ c = some (v, σ', c') → Grow c σ c' σ' ∧ ∀ n0 φ w (fr : Frame) cs, KB c σ → FRel φ af fr → SRel ro n0 φ σ w → Free c c' φ → step P (lone fr cs w) = .next (lone { fr with mode := .returning } cs w) → FrOut P ro n0 c φ fr cs w af.round v σ' c' := by
      intro v σ' c' he
      obtain ⟨hcc, h⟩ := unw_ok (P := P) hC hR af.defers (nt := af.nt) he
      refine ⟨hcc, fun n0 φ w fr cs hkb hfr hS hf hst => ?_⟩
      have hrr := hfr.round
      rw [hround] at hrr
      obtain ⟨w', φ', u, fr', k1, k2, k3, k4, k5, k6⟩ := h n0 φ w { fr with mode := .returning } cs hkb hfr.fn rfl hrr hfr.defers hfr.tmps hS hf
      refine ⟨w', φ', u, ?_, k3, k4, k5, k6⟩
      rw [hround]
      exact ⟨fr', .head hst k1, k2.fn, k2.mode, k2.defers, k2.kind, k2.round, k2.res⟩
    split at e
    · obtain ⟨hcc, h⟩ := main e
      refine ⟨hcc, fun n0 φ w fr cs hkb hfr hS hf hk htodo => ?_⟩
      have hrr := hfr.round
      rw [hround] at hrr
      obtain ⟨k, hk'⟩ := htodo
      rw [← hfr.todo] at hk'
      rcases hk' with ⟨ht, _⟩ | ⟨_, hj⟩ | ⟨_, _, _, hj⟩ | ⟨_, _, _, hj⟩
      · exact h n0 φ w fr cs hkb hfr hS hf (st_leave_end hfr.mode hrr ht)
      all_goals cases hj
    · obtain ⟨hcc, h⟩ := main e
      refine ⟨hcc, fun n0 φ w fr cs hkb hfr hS hf hk htodo => ?_⟩
      have hrr := hfr.round
      rw [hround] at hrr
      obtain ⟨k, hk'⟩ := htodo
      rw [← hfr.todo] at hk'
      rcases hk' with ⟨_, hj⟩ | ⟨ht, _⟩ | ⟨_, _, _, hj⟩ | ⟨_, _, _, hj⟩
      · cases hj
      · exact h n0 φ w fr cs hkb hfr hS hf (st_leave_ret hfr.mode hrr ht)
      all_goals cases hj
    · cases e
end
end Go.Ev

/- The machine's own steps, from a frame of whatever make. -/
import Derived.Test.YtoijfckollafhaaGreatEvRun
namespace Go.Ev
open Go.RowKit

section
variable {P : Program} {fr : Frame} {cs : List Frame} {w : World} {k : List Item}

theorem st_skip (hm : fr.mode = .run) (ht : fr.todo = .code .skip :: k) : step P (lone fr cs w) = .next (lone { fr with todo := k } cs w) :=
  step_lone_go (by simp [stepG, stepG.exec, hm, ht])
theorem st_label {l : Nat} (hm : fr.mode = .run) (ht : fr.todo = .code (.label l) :: k) : step P (lone fr cs w) = .next (lone { fr with todo := k } cs w) :=
  step_lone_go (by simp [stepG, stepG.exec, hm, ht])
theorem st_inBlock {id : Nat} (hm : fr.mode = .run) (ht : fr.todo = .inBlock id :: k) : step P (lone fr cs w) = .next (lone { fr with todo := k } cs w) :=
  step_lone_go (by simp [stepG, stepG.exec, hm, ht])
theorem st_inScope {b : Code} (hm : fr.mode = .run) (ht : fr.todo = .inScope b :: k) : step P (lone fr cs w) = .next (lone { fr with todo := k } cs w) :=
  step_lone_go (by simp [stepG, stepG.exec, hm, ht])
theorem st_seq {a b : Code} (hm : fr.mode = .run) (ht : fr.todo = .code (.seq a b) :: k) : step P (lone fr cs w) = .next (lone { fr with todo := .code a :: .code b :: k } cs w) :=
  step_lone_go (by simp [stepG, stepG.exec, hm, ht])
theorem st_cond {q : Operand} {a b : Code} {t : Bool} (hm : fr.mode = .run) (ht : fr.todo = .code (.cond q a b) :: k) (hq : fr.eval q = .bool t) :
    step P (lone fr cs w) = .next (lone { fr with todo := .code (if t then a else b) :: k } cs w) :=
  step_lone_go (by simp [stepG, stepG.exec, hm, ht, hq])
theorem st_block {id : Nat} {b : Code} (hm : fr.mode = .run) (ht : fr.todo = .code (.block id b) :: k) : step P (lone fr cs w) = .next (lone { fr with todo := .code b :: .inBlock id :: k } cs w) :=
  step_lone_go (by simp [stepG, stepG.exec, hm, ht])
theorem st_loop {b : Code} (hm : fr.mode = .run) (ht : fr.todo = .code (.loop b) :: k) : step P (lone fr cs w) = .next (lone { fr with todo := .code b :: .inLoop b :: k } cs w) :=
  step_lone_go (by simp [stepG, stepG.exec, hm, ht])
theorem st_inLoop {b : Code} (hm : fr.mode = .run) (ht : fr.todo = .inLoop b :: k) : step P (lone fr cs w) = .next (lone { fr with todo := .code b :: .inLoop b :: k } cs w) :=
  step_lone_go (by simp [stepG, stepG.exec, hm, ht])
theorem st_scope {b : Code} (hm : fr.mode = .run) (ht : fr.todo = .code (.scope b) :: k) : step P (lone fr cs w) = .next (lone { fr with todo := .code b :: .inScope b :: k } cs w) :=
  step_lone_go (by simp [stepG, stepG.exec, hm, ht])
theorem st_exit {id : Nat} {k' : List Item} (hm : fr.mode = .run) (ht : fr.todo = .code (.exit id) :: k) (he : exitTo id k = some k') : step P (lone fr cs w) = .next (lone { fr with todo := k' } cs w) :=
  step_lone_go (by simp [stepG, stepG.exec, hm, ht, he])
theorem st_goto {l : Nat} {k' : List Item} (hm : fr.mode = .run) (ht : fr.todo = .code (.goto l) :: k) (he : gotoIn l k = some k') : step P (lone fr cs w) = .next (lone { fr with todo := k' } cs w) :=
  step_lone_go (by simp [stepG, stepG.exec, hm, ht, he])
theorem st_region {id : Nat} {ops : Array Oper} (hm : fr.mode = .run) (ht : fr.todo = .code (.region id ops false) :: k) :
    step P (lone fr cs w) = .next (lone { fr with todo := .inRegion ops (List.range ops.size) :: k } cs w) :=
  step_lone_go (by simp [stepG, stepG.exec, hm, ht])
theorem st_draw {id : Nat} {ops : Array Oper} (hm : fr.mode = .run) (ht : fr.todo = .code (.region id ops true) :: k) :
    step P (lone fr cs w) = .next (lone { fr with todo := .inRegion ops (Region.schedule (P.follows .mixedOrders) ops (w.tape w.drawn (.order fr.fn id))) :: k } cs w.drew) :=
  step_lone_go (by simp [stepG, stepG.exec, hm, ht, choose, Sem.run, Question.forced, Question.cut])
theorem st_regionEnd {ops : Array Oper} (hm : fr.mode = .run) (ht : fr.todo = .inRegion ops [] :: k) : step P (lone fr cs w) = .next (lone { fr with todo := k } cs w) :=
  step_lone_go (by simp [stepG, stepG.exec, hm, ht])

theorem st_leave_ret (hm : fr.mode = .run) (hr : fr.roundOf = none) (ht : fr.todo = .code .ret :: k) : step P (lone fr cs w) = .next (lone { fr with mode := .returning } cs w) :=
  step_lone_go (by simp [stepG, stepG.exec, hm, ht, hr])
theorem st_leave_end (hm : fr.mode = .run) (hr : fr.roundOf = none) (ht : fr.todo = []) : step P (lone fr cs w) = .next (lone { fr with mode := .returning } cs w) :=
  step_lone_go (by simp [stepG, stepG.exec, hm, ht, hr])

/-! ### operations -/
section
variable {ops : Array Oper} {i : Nat} {rest : List Nat} {o : Oper}
theorem stG_op (hm : fr.mode = .run) (ht : fr.todo = .inRegion ops (i :: rest) :: k) (ho : ops[i]? = some o) (hw : Region.wanted o (yielded ops fr.tmps) = true) (hd : fr.roundOf = none ∨ ∀ q, o.op ≠ .defer q) :
    stepG P true { frame := fr, callers := cs, status := .running, dying := none } w = stepG.apply P true fr cs none (execOp fr.eval o) w := by
  rcases hd with hd | hd
  · simp [stepG, stepG.exec, stepG.oper, Frame.oper?, hm, ht, ho, hw, hd]
  · cases hr : fr.roundOf with
    | none => simp [stepG, stepG.exec, stepG.oper, Frame.oper?, hm, ht, ho, hw, hr]
    | some l =>
      obtain ⟨dst, op, ty, pos, after, guard⟩ := o
      cases op <;> first | (exact absurd rfl (hd _)) | (simp [stepG, stepG.exec, stepG.oper, Frame.oper?, hm, ht, ho, hw, hr])

/-- a slot's array with a value put -/
def _root_.Go.Ev.putC (tmps : Array Value) (d : Option Tmp) (u : Value) : Array Value :=
  match d with
  | some d => tmps.setIfInBounds d u
  | none => tmps
theorem finish_op (ht : fr.todo = .inRegion ops (i :: rest) :: k) (ho : ops[i]? = some o) (v : Value) :
    fr.finish v = { fr with tmps := putC fr.tmps o.dst v, todo := .inRegion ops rest :: k } := by
  simp [Frame.finish, ht, ho, putC]
  cases o.dst <;> rfl

theorem st_unwanted (hm : fr.mode = .run) (ht : fr.todo = .inRegion ops (i :: rest) :: k) (ho : ops[i]? = some o) (hw : Region.wanted o (yielded ops fr.tmps) = false) :
    step P (lone fr cs w) = .next (lone (fr.finish undef) cs w) :=
  step_lone_go (by simp [stepG, stepG.exec, hm, ht, ho, hw])

variable (hm : fr.mode = .run) (ht : fr.todo = .inRegion ops (i :: rest) :: k) (ho : ops[i]? = some o) (hw : Region.wanted o (yielded ops fr.tmps) = true) (hd : fr.roundOf = none ∨ ∀ q, o.op ≠ .defer q)
include hm ht ho hw hd
theorem st_value {u : Value} {w' : World} (hr : (execOp fr.eval o).run P w = .ok (.value u) w') : step P (lone fr cs w) = .next (lone (fr.finish u) cs w') :=
  step_lone_go (by rw [stG_op hm ht ho hw hd]; simp [stepG.apply, hr])
theorem st_unit {w' : World} (hr : (execOp fr.eval o).run P w = .ok .skip w') : step P (lone fr cs w) = .next (lone (fr.finish undef) cs w') :=
  step_lone_go (by rw [stG_op hm ht ho hw hd]; simp [stepG.apply, hr])
theorem st_enter {f : FuncId} {args : Array Value} {w' : World} (hr : (execOp fr.eval o).run P w = .ok (.enter f args) w') : step P (lone fr cs w) = .next (lone (Frame.enter P f args .normal) (fr :: cs) w') :=
  step_lone_go (by rw [stG_op hm ht ho hw hd]; simp [stepG.apply, hr, ht])
theorem st_round {l f : Nat} {tmps : Array Value} {a b : Code} {w' : World} (hr : (execOp fr.eval o).run P w = .ok (.round l f tmps a b) w') : step P (lone fr cs w) = .next (lone (Frame.round l f tmps a b .normal) (fr :: cs) w') :=
  step_lone_go (by rw [stG_op hm ht ho hw hd]; simp [stepG.apply, hr])
theorem st_defer {d : Deferred} {w' : World} (hr : (execOp fr.eval o).run P w = .ok (.defer d) w') : step P (lone fr cs w) = .next (lone ({ fr with defers := d :: fr.defers }.finish undef) cs w') :=
  step_lone_go (by rw [stG_op hm ht ho hw hd]; simp [stepG.apply, hr])
theorem st_recover {w' : World} (hro : fr.roundOf = none) (hc : Calm fr cs) (hr : (execOp fr.eval o).run P w = .ok .recover w') : step P (lone fr cs w) = .next (lone (fr.finish .nilIface) cs w') := by
  have htr : tryRecover fr cs = none := by
    rcases hc with hk | ⟨hk, cl, rest, rfl, hcl⟩
    · simp [tryRecover, hk]
    · simp [tryRecover, hk, hcl]
  exact step_lone_go (by rw [stG_op hm ht ho hw hd]; simp [stepG.apply, hr, hro, htr])
end

/-! ### rounds of a range over a function -/
theorem st_beginRound {B : Nat} {w' : World} (hm : fr.mode = .run) (ht : fr.todo = .beginRound :: k) (hr : fr.roundOf = some B) (h : (Instr.beginRound B).run P w = .ok () w') :
    step P (lone fr cs w) = .next (lone { fr with todo := k } cs w') :=
  step_lone_go (by
    simp only [stepG, stepG.exec, hm, ht, hr, Option.elim]
    simp [stepG.apply, h, ht, Frame.finish, hm, hr])

theorem st_endRound {B : Nat} {jump : Option Code} {u : Value} {w' : World} {cl : Frame} (hm : fr.mode = .run) (hr : fr.roundOf = some B) (hk : fr.kind = .normal)
    (ht : (fr.todo = [] ∧ jump = none) ∨ (fr.todo = .code .ret :: k ∧ jump = some .ret) ∨ (∃ id, fr.todo = .code (.exit id) :: k ∧ exitTo id k = none ∧ jump = some (.exit id)) ∨ (∃ l, fr.todo = .code (.goto l) :: k ∧ gotoIn l k = none ∧ jump = some (.goto l)))
    (h : (Instr.endRound B jump).run P w = .ok u w') : step P (lone fr (cl :: cs) w) = .next (lone (cl.finish u) cs w') := by
  refine step_lone_go ?_
  rcases ht with ⟨ht, rfl⟩ | ⟨ht, rfl⟩ | ⟨id, ht, he, rfl⟩ | ⟨l, ht, he, rfl⟩
  · simp [stepG, stepG.exec, hm, ht, hr, h, doReturn, hk]
  · simp [stepG, stepG.exec, hm, ht, hr, h, doReturn, hk]
  · simp [stepG, stepG.exec, hm, ht, hr, h, doReturn, hk, he]
  · simp [stepG, stepG.exec, hm, ht, hr, h, doReturn, hk, he]

theorem st_rangeFunc {f : Operand} {params : Array Tmp} {assign body : Code} {l : Nat} {mark : List Deferred} {w1 w2 : World} {g : FuncId} {args : Array Value}
    (hm : fr.mode = .run) (ht : fr.todo = .code (.rangeFunc f params assign body) :: k) (h : (Instr.enterLoop fr.fn fr.tmps params assign body fr.roundOf).run P w = .ok (l, mark) w1)
    (hc : ∀ fr' : Frame, fr'.tmps = fr.tmps → (do let d ← resolve fr'.eval { callee := .value f, args := #[.const (.func (.yield l) #[] #[])], argTypes := #[] } 0; invoke d.target d.args : Sem Next).run P w1 = .ok (.enter g args) w2) :
    step P (lone fr cs w) = .next (lone (Frame.enter P g args .normal) ({ fr with todo := .inRangeFunc l :: k, defers := mark ++ fr.defers } :: cs) w2) := by
  obtain ⟨fn, tmps, todo, defers, mode, kind, roundOf⟩ := fr
  dsimp only at hm ht h
  subst hm; subst ht
  have hc' := hc { fn := fn, tmps := tmps, todo := .inRangeFunc l :: k, defers := mark ++ defers, mode := .run, kind := kind, roundOf := roundOf } rfl
  refine step_lone_go ?_
  simp only [stepG, stepG.exec, Sem.runT_eq, h, GStep.bare_after]
  simp only [stepG.apply, Sem.runT_eq, if_true, hc', GStep.bare_after]
  rfl

theorem st_endRangeFunc {l : Nat} {jump : Option Code} {w' : World} (hm : fr.mode = .run) (ht : fr.todo = .endRangeFunc l :: k) (h : (Instr.endLoop l).run P w = .ok jump w') :
    step P (lone fr cs w) = .next (lone { fr with todo := (jump.map Item.code).toList ++ k } cs w') :=
  step_lone_go (by simp [stepG, stepG.exec, hm, ht, h])

/-! ### the way back -/
theorem st_collected {B : Nat} {args : Array Value} {ds calls : List Deferred} {w' : World} (hm : fr.mode = .returning) (hd : fr.defers = { target := .collected B, args := args } :: ds) (h : (Instr.takeDeferred B).run P w = .ok calls w') :
    step P (lone fr cs w) = .next (lone { fr with defers := calls ++ ds } cs w') :=
  step_lone_go (by simp [stepG, hm, unwind, hd, h])

theorem st_deferred {f : FuncId} {caps args : Array Value} {ds : List Deferred} (hm : fr.mode = .returning) (hd : fr.defers = { target := .fn (.func f) caps, args := args } :: ds)
    (h : (callFunc f (args ++ caps)).run P w = .ok (.enter f (args ++ caps)) w) :
    step P (lone fr cs w) = .next (lone (Frame.enter P f (args ++ caps) .deferred) ({ fr with defers := ds } :: cs) w) :=
  step_lone_go (by simp [stepG, hm, unwind, hd, callDeferred, invoke, h])

/-- a call comes back -/
theorem st_returned {fr' cl : Frame} {u : Value} (h : Done P fr fr' w u) (hk : fr.kind = .normal) : step P (lone fr' (cl :: cs) w) = .next (lone (cl.finish u) cs w) := by
  obtain ⟨fn, hf, hr⟩ := h.res
  exact step_lone_go (by simp [stepG, unwind, doReturn, h.mode, h.defers, h.kind, hk, h.fn, hf, hr])
theorem st_returnedD {fr' cl : Frame} {u : Value} (h : Done P fr fr' w u) (hk : fr.kind = .deferred) (hcl : cl.mode = .returning) : step P (lone fr' (cl :: cs) w) = .next (lone cl cs w) := by
  obtain ⟨fn, hf, hr⟩ := h.res
  exact step_lone_go (by simp [stepG, unwind, doReturn, h.mode, h.defers, h.kind, hk, h.fn, hf, hr, hcl])
end
end Go.Ev

/- A function's frame, step by step; what it calls, as one step. -/
import Derived.Test.YtoijfckollafhaaGreatEvOp
namespace Go.Ev
open Go.RowKit

inductive ADef where
  | call (f : FuncId) (caps args : List AV)
  | coll (R : Nat)

structure AFr where
  fn : FuncId
  nt : Nat
  tmps : Tree AV
  todo : List Item
  defers : List ADef
  round : Option Nat

abbrev Res := Option (AV × Hp × Nat)
/-- runs a frame to its end: the number from which blocks may be written, the frame, the heap, the next number -/
abbrev Rec := Nat → AFr → Hp → Nat → Res
/-- what is known of a call beforehand -/
abbrev Hook := FuncId → List AV → Hp → Nat → Res
/-- a region whose order is drawn -/
abbrev Drw := Rec → Nat → Nat → Option Nat → Tree AV → Array Oper → Hp → Nat → Option (Tree AV × Hp × Nat)

def putT (t : Tree AV) (d : Option Tmp) (v : AV) : Tree AV :=
  match d with
  | some d => t.set d (some v)
  | none => t
def dstOk (nt : Nat) : Option Tmp → Bool
  | some d => Nat.blt d nt
  | none => true

def argsT : Nat → List AV → Tree AV → Tree AV
  | _, [], t => t
  | i, a :: as, t => argsT (i + 1) as (t.set i (some a))

def enterF (C : Cx) (f : FuncId) (args : List AV) : Option AFr :=
  match C.fns.get f with
  | none => none
  | some fn => match fn.body with
    | none => none
    | some body => bif Nat.ble args.length fn.ntmps then some { fn := f, nt := fn.ntmps, tmps := argsT 0 args .lf, todo := [.code body], defers := [], round := none } else none

def callF (C : Cx) (H : Hook) (rec : Rec) (ro : Nat) (f : FuncId) (args : List AV) (σ : Hp) (c : Nat) : Res :=
  match H f args σ c with
  | some r => some r
  | none => match enterF C f args with
    | some fr => rec ro fr σ c
    | none => none

def paramsT : List Tmp → List AV → Tree AV → Option (Tree AV)
  | [], [], t => some t
  | p :: ps, a :: as, t => paramsT ps as (t.set p (some a))
  | _, _, _ => none
def allLt (nt : Nat) : List Tmp → Bool
  | [] => true
  | p :: ps => bif Nat.blt p nt then allLt nt ps else false

def roundF (rec : Rec) (ro : Nat) (L : Nat) (args : List AV) (σ : Hp) (c : Nat) : Res :=
  bif Nat.ble ro L then
    match σ.get L with
    | some (.loop l) => match l.st with
      | .ready => bif allLt l.nt l.params then
          match paramsT l.params args l.tmps with
          | some t => rec ro { fn := l.fn, nt := l.nt, tmps := t, todo := [.code l.assign, .beginRound, .code l.body], defers := [], round := some L } σ c
          | none => none
        else none
      | _ => none
    | _ => none
  else none

/-- is an operation wanted? -/
def wantedA (ops : Array Oper) (t : Tree AV) (o : Oper) : Bool :=
  match o.guard with
  | none => true
  | some (j, want) => match ops[j]? with
    | none => false
    | some q => match q.dst with
      | none => false
      | some d => match t.get d with
        | some (.bool b) => b == want
        | _ => false

/-- the operation at a place: the slots, what is put off, the heap, the next number -/
def opAt (C : Cx) (H : Hook) (rec : Rec) (ro nt : Nat) (round : Option Nat) (t : Tree AV) (ops : Array Oper) (i : Nat) (σ : Hp) (c : Nat) : Option (Tree AV × List ADef × Hp × Nat) :=
  match ops[i]? with
  | none => none
  | some o => bif dstOk nt o.dst then
      bif wantedA ops t o then
        match eOp C ro σ c t o with
        | some (.val v σ' c') => some (putT t o.dst v, [], σ', c')
        | some (.call f args) => match callF C H rec ro f args σ c with
          | some (v, σ', c') => some (putT t o.dst v, [], σ', c')
          | none => none
        | some (.yld L args) => match roundF rec ro L args σ c with
          | some (v, σ', c') => some (putT t o.dst v, [], σ', c')
          | none => none
        | some .rcv => match round with
          | none => some (putT t o.dst .nili, [], σ, c)
          | some _ => none
        | some (.dfr f caps args) => match round with
          | none => some (putT t o.dst (.tup []), [.call f caps args], σ, c)
          | some _ => none
        | none => none
      else some (putT t o.dst (.tup []), [], σ, c)
    else none

def resOne (C : Cx) (σ : Hp) (t : Tree AV) : ResultVar → Option AV
  | .tmp d => some (match t.get d with | some v => v | none => .tup [])
  | .cell a ty => match t.get a with
    | some p => eLoad C σ ty p
    | none => none
def resF (C : Cx) (f : FuncId) (σ : Hp) (t : Tree AV) : Option AV :=
  match C.fns.get f with
  | none => none
  | some fn => match mapO (resOne C σ t) fn.results.toList with
    | none => none
    | some [v] => some v
    | some vs => some (.tup vs)

/-- what was put off, then the results -/
def unw (C : Cx) (H : Hook) (rec : Rec) (ro : Nat) (f : FuncId) (t : Tree AV) : List ADef → Hp → Nat → Res
  | [], σ, c => match resF C f σ t with
    | some v => some (v, σ, c)
    | none => none
  | .coll R :: ds, σ, c => bif Nat.ble ro R then
      match σ.get R with
      | some .dfr => unw C H rec ro f t ds (σ.set R none) c
      | _ => none
    else none
  | .call g caps args :: ds, σ, c => match C.fns.get g with
    | none => none
    | some _ => match enterF C g (args ++ caps) with
      | none => none
      | some fr => match rec ro fr σ c with
        | some (_, σ', c') => unw C H rec ro f t ds σ' c'
        | none => none

def leaveF (C : Cx) (H : Hook) (rec : Rec) (ro : Nat) (fr : AFr) (σ : Hp) (c : Nat) (jump : Option Code) : Res :=
  match fr.round with
  | some L => bif Nat.ble ro L then
      match σ.get L with
      | some (.loop l) => some (.bool jump.isNone, σ.set L (some (.loop { l with st := if jump.isNone then .ready else .done, pend := jump })), c)
      | _ => none
    else none
  | none => match jump with
    | none => unw C H rec ro fr.fn fr.tmps fr.defers σ c
    | some .ret => unw C H rec ro fr.fn fr.tmps fr.defers σ c
    | _ => none

/-- a range over a function: the loop's number, what is put off, the heap, the next number -/
def loopIn (fr : AFr) (params : Array Tmp) (assign body : Code) (σ : Hp) (c : Nat) : Option (Nat × List ADef × Hp × Nat) :=
  match fr.round with
  | none => some (c + 1, [.coll c], (σ.set c (some .dfr)).set (c + 1) (some (.loop { st := .ready, pend := none, fn := fr.fn, nt := fr.nt, tmps := fr.tmps, params := params.toList, assign := assign, body := body, dblk := c })), c + 2)
  | some L => match σ.get L with
    | some (.loop l) => some (c, [], σ.set c (some (.loop { st := .ready, pend := none, fn := fr.fn, nt := fr.nt, tmps := fr.tmps, params := params.toList, assign := assign, body := body, dblk := l.dblk })), c + 1)
    | _ => none

def evStep (C : Cx) (H : Hook) (D : Drw) (rec : Rec) : Rec := fun ro fr σ c =>
  match fr.todo with
  | [] => leaveF C H rec ro fr σ c none
  | .code cd :: k => match cd with
    | .skip => rec ro { fr with todo := k } σ c
    | .label _ => rec ro { fr with todo := k } σ c
    | .seq a b => rec ro { fr with todo := .code a :: .code b :: k } σ c
    | .cond q a b => match opd fr.tmps q with
      | some (.bool true) => rec ro { fr with todo := .code a :: k } σ c
      | some (.bool false) => rec ro { fr with todo := .code b :: k } σ c
      | _ => none
    | .block id b => rec ro { fr with todo := .code b :: .inBlock id :: k } σ c
    | .loop b => rec ro { fr with todo := .code b :: .inLoop b :: k } σ c
    | .scope b => rec ro { fr with todo := .code b :: .inScope b :: k } σ c
    | .exit id => match exitTo id k with
      | some k' => rec ro { fr with todo := k' } σ c
      | none => leaveF C H rec ro fr σ c (some (.exit id))
    | .goto l => match gotoIn l k with
      | some k' => rec ro { fr with todo := k' } σ c
      | none => leaveF C H rec ro fr σ c (some (.goto l))
    | .ret => leaveF C H rec ro fr σ c (some .ret)
    | .region _ ops draw => match draw with
      | false => rec ro { fr with todo := .inRegion ops (List.range ops.size) :: k } σ c
      | true => match D rec ro fr.nt fr.round fr.tmps ops σ c with
        | some (t, σ', c') => rec ro { fr with tmps := t, todo := k } σ' c'
        | none => none
    | .rangeFunc f params assign body => match opd fr.tmps f with
      | some (.fn (.func g) fs cs) => match C.fns.get g with
        | none => none
        | some _ => match loopIn fr params assign body σ c with
          | none => none
          | some (L, ds, σ1, c1) => match callF C H rec ro g (fs ++ [.yld L] ++ cs) σ1 c1 with
            | none => none
            | some (_, σ2, c2) => match σ2.get L with
              | some (.loop l) => bif Nat.ble ro L then
                  match l.st with
                  | .busy => none
                  | _ => rec ro { fr with todo := (match l.pend with | some j => .code j :: k | none => k), defers := ds ++ fr.defers } (σ2.set L none) c2
                else none
              | _ => none
      | _ => none
    | .refuse _ => none
  | .inBlock _ :: k => rec ro { fr with todo := k } σ c
  | .inScope _ :: k => rec ro { fr with todo := k } σ c
  | .inLoop b :: k => rec ro { fr with todo := .code b :: .inLoop b :: k } σ c
  | .inRegion _ [] :: k => rec ro { fr with todo := k } σ c
  | .inRegion ops (i :: is) :: k => match opAt C H rec ro fr.nt fr.round fr.tmps ops i σ c with
    | some (t, ds, σ', c') => rec ro { fr with tmps := t, todo := .inRegion ops is :: k, defers := ds ++ fr.defers } σ' c'
    | none => none
  | .beginRound :: k => match fr.round with
    | some L => bif Nat.ble ro L then
        match σ.get L with
        | some (.loop l) => match l.st with
          | .ready => rec ro { fr with todo := k } (σ.set L (some (.loop { l with st := .busy }))) c
          | _ => none
        | _ => none
      else none
    | none => none
  | _ => none

def ev (C : Cx) (H : Hook) (D : Drw) (n : Nat) : Rec := Nat.rec (motive := fun _ => Rec) (fun _ _ _ _ => none) (fun _ ih => evStep C H D ih) n

theorem ev_zero (C : Cx) (H : Hook) (D : Drw) (ro : Nat) (fr : AFr) (σ : Hp) (c : Nat) : ev C H D 0 ro fr σ c = none := rfl
theorem ev_succ (C : Cx) (H : Hook) (D : Drw) (n : Nat) : ev C H D (n + 1) = evStep C H D (ev C H D n) := rfl

/-! ### the machine -/
section
variable {P : Program}

inductive DRel (φ : Ren) : List ADef → List Deferred → Prop
  | nil : DRel φ [] []
  | call {f : FuncId} {caps args : List AV} {us vs : List Value} {ds : List ADef} {es : List Deferred} (h : LRel φ caps us) (k : LRel φ args vs) (t : DRel φ ds es) :
      DRel φ (.call f caps args :: ds) ({ target := .fn (.func f) us.toArray, args := vs.toArray } :: es)
  | coll {R B s n : Nat} {ds : List ADef} {es : List Deferred} (h : φ R = some (B, s, n)) (t : DRel φ ds es) : DRel φ (.coll R :: ds) ({ target := .collected B, args := #[] } :: es)

theorem DRel.mono {φ ψ : Ren} (hl : φ.le ψ) : ∀ {a : List ADef} {b : List Deferred}, DRel φ a b → DRel ψ a b
  | _, _, .nil => .nil
  | _, _, .call h k t => .call (h.mono hl) (k.mono hl) (t.mono hl)
  | _, _, .coll h t => .coll (hl _ _ h) (t.mono hl)
theorem DRel.append {φ : Ren} : ∀ {a a' : List ADef} {b b' : List Deferred}, DRel φ a b → DRel φ a' b' → DRel φ (a ++ a') (b ++ b')
  | _, _, _, _, .nil, h => h
  | _, _, _, _, .call h k t, h' => .call h k (t.append h')
  | _, _, _, _, .coll h t, h' => .coll h (t.append h')

def RoundRel (φ : Ren) : Option Nat → Option Nat → Prop
  | none, r => r = none
  | some L, r => ∃ B s n, φ L = some (B, s, n) ∧ r = some B

structure FRel (φ : Ren) (af : AFr) (fr : Frame) : Prop where
  fn : fr.fn = af.fn
  mode : fr.mode = .run
  todo : fr.todo = af.todo
  tmps : TRel φ af.nt af.tmps fr.tmps
  defers : DRel φ af.defers fr.defers
  round : RoundRel φ af.round fr.roundOf

/-- who called: as everywhere; or, of a deferred call, one that returns -/
def Calm (fr : Frame) (cs : List Frame) : Prop := fr.kind = .normal ∨ (fr.kind = .deferred ∧ ∃ cl rest, cs = cl :: rest ∧ cl.mode = .returning)

/-- a frame that has come to its end and bears its results -/
structure Done (P : Program) (fr fr' : Frame) (w' : World) (u : Value) : Prop where
  fn : fr'.fn = fr.fn
  mode : fr'.mode = .returning
  defers : fr'.defers = []
  kind : fr'.kind = fr.kind
  round : fr'.roundOf = none
  res : ∃ fn, P.funcs[fr.fn]? = some fn ∧ (results fn fr'.tmps).run P w' = .ok u w'

def FrEnd (P : Program) (fr : Frame) (cs : List Frame) (w w' : World) (u : Value) : Option Nat → Prop
  | none => ∃ fr', Steps P (lone fr cs w) (lone fr' cs w') ∧ Done P fr fr' w' u
  | some _ => ∀ cl rest, cs = cl :: rest → Steps P (lone fr cs w) (lone (cl.finish u) rest w')

def FrOut (P : Program) (ro n0 c : Nat) (φ : Ren) (fr : Frame) (cs : List Frame) (w : World) (r : Option Nat) (v : AV) (σ' : Hp) (c' : Nat) : Prop :=
  ∃ w' φ' u, FrEnd P fr cs w w' u r ∧ VRel φ' v u ∧ SRel ro n0 φ' σ' w' ∧ Ext c c' φ φ' ∧ Below n0 w w'

/-- no block from c on -/
def KB (c : Nat) (σ : Hp) : Prop := ∀ A, (σ.get A).isSome = true → A < c
/-- the numbers rise -/
structure Grow (c : Nat) (σ : Hp) (c' : Nat) (σ' : Hp) : Prop where
  le : c ≤ c'
  kb : KB c σ → KB c' σ'
theorem Grow.refl (c : Nat) (σ : Hp) : Grow c σ c σ := ⟨Nat.le_refl _, fun h => h⟩
theorem Grow.trans {a b c : Nat} {σ τ υ : Hp} (h : Grow a σ b τ) (k : Grow b τ c υ) : Grow a σ c υ := ⟨Nat.le_trans h.le k.le, fun q => k.kb (h.kb q)⟩
theorem Grow.alloc (c : Nat) (σ : Hp) (b : ABlk) : Grow c σ (c + 1) (σ.set c (some b)) := ⟨by omega, fun h A hA => by
  rw [Tree.get_set] at hA
  by_cases hc : A = c
  · omega
  · rw [if_neg hc] at hA; have := h A hA; omega⟩
theorem Grow.put {c : Nat} {σ : Hp} {A : Nat} (b : ABlk) (hA : (σ.get A).isSome = true) : Grow c σ c (σ.set A (some b)) := ⟨Nat.le_refl _, fun h B hB => by
  rw [Tree.get_set] at hB
  by_cases hc : B = A
  · subst hc; exact h B hA
  · rw [if_neg hc] at hB; exact h B hB⟩
theorem Grow.kill (c : Nat) (σ : Hp) (A : Nat) : Grow c σ c (σ.set A none) := ⟨Nat.le_refl _, fun h B hB => by
  rw [Tree.get_set] at hB
  by_cases hc : B = A
  · subst hc; simp at hB
  · rw [if_neg hc] at hB; exact h B hB⟩
theorem wrCells_grow {ro c A off : Nat} {σ σ' : Hp} {vs : List AV} (e : wrCells ro σ A off vs = some σ') : Grow c σ c σ' := by
  unfold wrCells at e
  simp only [cond_eq_ite] at e
  split at e
  · split at e
    · rename_i cs hA
      split at e
      · split at e
        · cases e; exact .put _ (by rw [hA]; rfl)
        · cases e
      · cases e
    · cases e
  · cases e

def RecOk (P : Program) (rec : Rec) : Prop :=
  ∀ ro af σ c v σ' c', rec ro af σ c = some (v, σ', c') → Grow c σ c' σ' ∧
    ∀ n0 φ w fr cs, KB c σ → FRel φ af fr → SRel ro n0 φ σ w → Free c c' φ → Calm fr cs → (af.round ≠ none → fr.kind = .normal) → FrOut P ro n0 c φ fr cs w af.round v σ' c'

/-- what a call comes to -/
def CallOut (P : Program) (ro n0 c : Nat) (φ : Ren) (w : World) (f : FuncId) (us : List Value) (v : AV) (σ' : Hp) (c' : Nat) : Prop :=
  ∀ cs, ∃ w' φ' u fr', Steps P (lone (Frame.enter P f us.toArray .normal) cs w) (lone fr' cs w') ∧ Done P (Frame.enter P f us.toArray .normal) fr' w' u ∧ VRel φ' v u ∧ SRel ro n0 φ' σ' w' ∧ Ext c c' φ φ' ∧ Below n0 w w'

def HookOk (P : Program) (H : Hook) : Prop :=
  ∀ f args σ c v σ' c', H f args σ c = some (v, σ', c') → Grow c σ c' σ' ∧ ∀ ro n0 φ w us, KB c σ → SRel ro n0 φ σ w → Free c c' φ → LRel φ args us → CallOut P ro n0 c φ w f us v σ' c'

/-- a region drawn, from any frame -/
def DrwOk (P : Program) (D : Drw) : Prop :=
  ∀ rec, RecOk P rec → ∀ ro nt round t ops σ c t' σ' c', D rec ro nt round t ops σ c = some (t', σ', c') → Grow c σ c' σ' ∧
    ∀ n0 φ w (fr : Frame) cs id k, KB c σ → fr.mode = .run → fr.todo = .code (.region id ops true) :: k → TRel φ nt t fr.tmps → RoundRel φ round fr.roundOf → Calm fr cs → SRel ro n0 φ σ w → Free c c' φ →
      ∃ tmps w' φ', Steps P (lone fr cs w) (lone { fr with tmps := tmps, todo := k } cs w') ∧ TRel φ' nt t' tmps ∧ SRel ro n0 φ' σ' w' ∧ Ext c c' φ φ' ∧ Below n0 w w'
end
end Go.Ev

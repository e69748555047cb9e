/- A region whose order is drawn: told in one order, it holds in all. -/
import Derived.Test.YtoijfckollafhaaGreatEvStore
import Derived.Orders
namespace Go.Ev
open Go.RowKit

/-! ### what an operation looks at -/
theorem mapO_congr {α β : Type} {f g : α → Option β} : ∀ {l : List α}, (∀ x ∈ l, f x = g x) → mapO f l = mapO g l
  | [], _ => rfl
  | x :: xs, h => by
    simp only [mapO]
    rw [h x (by simp), mapO_congr (l := xs) fun y hy => h y (by simp [hy])]

theorem ePairs_congr {t t' : Tree AV} : ∀ {l : List (Nat × Operand)}, (∀ x ∈ l.map (·.2), opd t x = opd t' x) → ePairs t l = ePairs t' l
  | [], _ => rfl
  | (i, x) :: xs, h => by
    simp only [ePairs]
    rw [h x (by simp), ePairs_congr (l := xs) fun y hy => h y (by simp only [List.map_cons, List.mem_cons]; exact .inr hy)]

theorem optO_congr {t t' : Tree AV} {x : Option Operand} (h : ∀ y ∈ x.toArray, opd t y = opd t' y) : optO t x = optO t' x := by
  cases x with
  | none => rfl
  | some x => simp only [optO]; rw [h x (by simp)]

theorem eCall_congr {C : Cx} {ro : Nat} {σ : Hp} {c : Nat} {t t' : Tree AV} {k : Call} (h : ∀ x ∈ k.operands, opd t x = opd t' x) : eCall C ro σ c t k = eCall C ro σ c t' k := by
  unfold eCall
  rw [mapO_congr (f := opd t) (g := opd t') fun x hx => h x (by unfold Call.operands; simp at hx ⊢; exact .inr hx)]
  cases hc : k.callee with
  | value f => dsimp only; rw [h f (by unfold Call.operands; simp [hc])]
  | invoke r m => rfl
  | builtin b => rfl

theorem eOp_congr {C : Cx} {ro : Nat} {σ : Hp} {c : Nat} {t t' : Tree AV} {o : Oper} (h : ∀ x ∈ o.op.operands, opd t x = opd t' x) : eOp C ro σ c t o = eOp C ro σ c t' o := by
  obtain ⟨dst, op, ty, pos, after, guard⟩ := o
  dsimp only at h
  unfold eOp
  cases op <;> dsimp only
  case move x => rw [h x (by simp [Op.operands])]
  case assign x => rw [h x (by simp [Op.operands])]
  case pick q a b => rw [h q (by simp [Op.operands]), h a (by simp [Op.operands]), h b (by simp [Op.operands])]
  case box ty x => rw [h x (by simp [Op.operands])]
  case build ty ps => rw [ePairs_congr fun x hx => h x (by simpa [Op.operands] using hx)]
  case buildSlice ty n ps => rw [ePairs_congr fun x hx => h x (by simpa [Op.operands] using hx)]
  case load ty x => rw [h x (by simp [Op.operands])]
  case store ty a x => rw [h a (by simp [Op.operands]), h x (by simp [Op.operands])]
  case nilCheck x => rw [h x (by simp [Op.operands])]
  case binOp op ty x y yt => rw [h x (by simp [Op.operands]), h y (by simp [Op.operands])]
  case unOp op ty x => rw [h x (by simp [Op.operands])]
  case convert a b x => rw [h x (by simp [Op.operands])]
  case makeInterface ty x => rw [h x (by simp [Op.operands])]
  case makeFunc f a b =>
    cases f <;> dsimp only
    rw [mapO_congr (f := opd t) (g := opd t') (l := a.toList) fun x hx => h x (by simp [Op.operands]; simp at hx; exact .inl hx), mapO_congr (f := opd t) (g := opd t') (l := b.toList) fun x hx => h x (by simp [Op.operands]; simp at hx; exact .inr hx)]
  case makeSlice ty x y => rw [h x (by simp [Op.operands]), h y (by simp [Op.operands])]
  case slice ty x lo hi mx =>
    rw [h x (by simp [Op.operands]), optO_congr (x := lo) fun y hy => h y (by simp [Op.operands]; simp at hy; exact .inr (.inl hy)), optO_congr (x := hi) fun y hy => h y (by simp [Op.operands]; simp at hy; exact .inr (.inr (.inl hy))),
      optO_congr (x := mx) fun y hy => h y (by simp [Op.operands]; simp at hy; exact .inr (.inr (.inr hy)))]
  case fieldAddr s x f => rw [h x (by simp [Op.operands])]
  case field s x f => rw [h x (by simp [Op.operands])]
  case indexAddr ty x i => rw [h x (by simp [Op.operands]), h i (by simp [Op.operands])]
  case index ty x i => rw [h x (by simp [Op.operands]), h i (by simp [Op.operands])]
  case extract x i => rw [h x (by simp [Op.operands])]
  case call k => rw [eCall_congr (t := t) (t' := t') h]
  case defer k =>
    rw [eCall_congr (t := t) (t' := t') h, mapO_congr (f := opd t) (g := opd t') (l := k.args.toList) fun x hx => h x (by simp [Op.operands, Call.operands]; simp at hx; exact .inr hx)]
    cases hc : k.callee with
    | value f =>
      have hf := h f (by simp [Op.operands, Call.operands, hc])
      cases eCall C ro σ c t' k with
      | none => rfl
      | some r => cases r <;> first | rfl | (dsimp only; rw [hf])
    | invoke r m => cases eCall C ro σ c t' k with | none => rfl | some r => cases r <;> rfl
    | builtin b => cases eCall C ro σ c t' k with | none => rfl | some r => cases r <;> rfl

theorem opd_congr {t t' : Tree AV} {x : Operand} (h : ∀ d, x = .tmp d → t.get d = t'.get d) : opd t x = opd t' x := by
  cases x with
  | tmp d => simp only [opd]; rw [h d rfl]
  | _ => rfl

theorem looks_op {ops : Array Oper} {o : Oper} {t t' : Tree AV} (h : ∀ d ∈ o.looksAt ops, t.get d = t'.get d) : ∀ x ∈ o.op.operands, opd t x = opd t' x := by
  intro x hx
  refine opd_congr fun d hd => h d ?_
  subst hd
  exact List.mem_append_left _ (List.mem_filterMap.2 ⟨.tmp d, by simpa using hx, rfl⟩)

theorem wantedA_congr {ops : Array Oper} {o : Oper} {t t' : Tree AV} (h : ∀ d ∈ o.looksAt ops, t.get d = t'.get d) : wantedA ops t o = wantedA ops t' o := by
  unfold wantedA
  cases hg : o.guard with
  | none => rfl
  | some p =>
    obtain ⟨j, want⟩ := p
    dsimp only
    cases hj : ops[j]? with
    | none => rfl
    | some q =>
      dsimp only
      cases hd : q.dst with
      | none => rfl
      | some d =>
        dsimp only
        rw [h d (List.mem_append_right _ (by rw [hg]; simp [hj, hd]))]

/-- what an operation puts, it puts whatever the slots are that it does not look at -/
theorem opAt_put {C : Cx} {H : Hook} {rec : Rec} {ro nt : Nat} {round : Option Nat} {t t1 : Tree AV} {ops : Array Oper} {i : Nat} {σ : Hp} {c : Nat} {ds : List ADef} {σ' : Hp} {c' : Nat} {o : Oper} (ho : ops[i]? = some o)
    (e : opAt C H rec ro nt round t ops i σ c = some (t1, ds, σ', c')) :
    ∃ v, t1 = putT t o.dst v ∧ ∀ t', (∀ d ∈ o.looksAt ops, t.get d = t'.get d) → opAt C H rec ro nt round t' ops i σ c = some (putT t' o.dst v, ds, σ', c') := by
  unfold opAt at e
  rw [ho] at e
  dsimp only at e
  have hgo : ∀ t' : Tree AV, opAt C H rec ro nt round t' ops i σ c = (bif dstOk nt o.dst then
      bif wantedA ops t' o then
        match eOp C ro σ c t' o with
        | some (.val v σ' c') => some (putT t' o.dst v, [], σ', c')
        | some (.call f args) => match callF C H rec ro f args σ c with
          | some (v, σ', c') => some (putT t' o.dst v, [], σ', c')
          | none => none
        | some (.yld L args) => match roundF rec ro L args σ c with
          | some (v, σ', c') => some (putT t' o.dst v, [], σ', c')
          | none => none
        | some .rcv => match round with
          | none => some (putT t' o.dst .nili, [], σ, c)
          | some _ => none
        | some (.dfr f caps args) => match round with
          | none => some (putT t' o.dst (.tup []), [.call f caps args], σ, c)
          | some _ => none
        | none => none
      else some (putT t' o.dst (.tup []), [], σ, c)
    else none) := by intro t'; unfold opAt; rw [ho]; rfl
  cases hd : dstOk nt o.dst with
  | false => rw [hd] at e; cases e
  | true =>
    rw [hd] at e
    simp only [cond_true] at e
    cases hw : wantedA ops t o with
    | false =>
      rw [hw] at e
      cases e
      refine ⟨.tup [], rfl, fun t' h => ?_⟩
      rw [hgo, hd, ← wantedA_congr h, hw]; rfl
    | true =>
      rw [hw] at e
      simp only [cond_true] at e
      have fin : ∀ t', (∀ d ∈ o.looksAt ops, t.get d = t'.get d) → ∀ r, eOp C ro σ c t o = r → wantedA ops t' o = true ∧ eOp C ro σ c t' o = r := fun t' h r hr =>
        ⟨by rw [← wantedA_congr h]; exact hw, by rw [← eOp_congr (looks_op h)]; exact hr⟩
      split at e
      · rename_i v σ2 c2 hop
        cases e
        refine ⟨v, rfl, fun t' h => ?_⟩
        obtain ⟨h1, h2⟩ := fin t' h _ hop
        rw [hgo, hd, h1, h2]; rfl
      · rename_i f args hop
        split at e
        · rename_i v σ2 c2 hc
          cases e
          refine ⟨v, rfl, fun t' h => ?_⟩
          obtain ⟨h1, h2⟩ := fin t' h _ hop
          rw [hgo, hd, h1, h2]; simp only [cond_true, hc]
        · cases e
      · rename_i L args hop
        split at e
        · rename_i v σ2 c2 hc
          cases e
          refine ⟨v, rfl, fun t' h => ?_⟩
          obtain ⟨h1, h2⟩ := fin t' h _ hop
          rw [hgo, hd, h1, h2]; simp only [cond_true, hc]
        · cases e
      · rename_i hop
        split at e
        · cases e
          refine ⟨.nili, rfl, fun t' h => ?_⟩
          obtain ⟨h1, h2⟩ := fin t' h _ hop
          rw [hgo, hd, h1, h2]; rfl
        · cases e
      · rename_i f caps args hop
        split at e
        · cases e
          refine ⟨.tup [], rfl, fun t' h => ?_⟩
          obtain ⟨h1, h2⟩ := fin t' h _ hop
          rw [hgo, hd, h1, h2]; rfl
        · cases e
      · cases e

/-! ### the evaluator's own order -/
/-- what is tried: appends only make new memory; calls write; stores write, each a block of its own; loads of what stays -/
structure Md where
  ap : Bool
  ca : Bool
  st : Bool
  qu : Bool

/-- 0: looks into no memory · 1: reads, makes new memory, calls · 2: writes · 3: writes a block of its own -/
def opClass (md : Md) : Op → Nat
  | .move _ | .assign _ | .pick .. | .build .. | .nilCheck _ | .binOp .. | .unOp .. | .makeInterface .. | .makeFunc .. | .slice .. | .fieldAddr .. | .field .. | .indexAddr .. | .index .. | .extract .. => 0
  | .alloc _ | .box .. | .buildSlice .. | .load .. | .convert .. | .makeSlice .. => 1
  | .store .. => bif md.st then 3 else 2
  | .call k => match k.callee with
    | .value _ => bif md.ca then 2 else 1
    | .builtin .len => 0
    | .builtin .cap => 0
    | .builtin .max => 0
    | .builtin .min => 0
    | .builtin .append => bif md.ap then 1 else 2
    | .builtin .copy => 2
    | _ => 4
  | _ => 4

def maskOf : List Edge → Tree Nat → Nat → Nat
  | [], _, m => m
  | e :: es, T, m => bif Region.binds .any e then maskOf es T (Nat.lor (Nat.lor m (2 ^ e.on)) ((T.get e.on).getD 0)) else maskOf es T m
def befT : List Oper → Nat → Tree Nat → Tree Nat
  | [], _, T => T
  | o :: os, i, T => befT os (i + 1) (T.set i (some (maskOf o.after.toList T 0)))

/-- of two operations, the first one ahead in the list: must the order be fixed? -/
def clash (K : Nat → Nat) (ops : Array Oper) (j i : Nat) (a b : Oper) : Bool :=
  (match a.dst with
   | some d => (b.looksAt ops).contains d || b.dst == some d
   | none => false) ||
  (match b.dst with
   | some d => (a.looksAt ops).contains d
   | none => false) ||
  (Nat.beq (K j) 2 && !Nat.beq (K i) 0) || (Nat.beq (K i) 2 && !Nat.beq (K j) 0)

/-- all below i -/
def allBelow (f : Nat → Bool) : Nat → Bool
  | 0 => true
  | n + 1 => bif f n then allBelow f n else false

def edgesOk (i : Nat) : List Edge → Bool
  | [] => true
  | e :: es => bif Region.binds .any e then bif Nat.blt e.on i then edgesOk i es else false else edgesOk i es

def pairOk (K : Nat → Nat) (ops : Array Oper) (T : Tree Nat) (i j : Nat) : Bool :=
  bif Nat.testBit ((T.get i).getD 0) j then true
  else match ops[j]?, ops[i]? with
    | some a, some b => !clash K ops j i a b
    | _, _ => false

def rcheck (st : Bool) (K : Nat → Nat) (ops : Array Oper) : Bool :=
  let T := befT ops.toList 0 .lf
  allBelow (fun i => match ops[i]? with
    | some o => edgesOk i o.after.toList && Nat.ble (K i) 3 && (!st || !Nat.beq (K i) 2) && allBelow (fun j => pairOk K ops T i j) i
    | none => false) ops.size

/-- is there one that writes, in no order with it? -/
def loose (md : Md) (ops : Array Oper) (T : Tree Nat) (i : Nat) : Bool :=
  !allBelow (fun j => match ops[j]? with
    | some o => !Nat.beq (opClass md o.op) 2 || Nat.testBit ((T.get i).getD 0) j || Nat.testBit ((T.get j).getD 0) i
    | none => false) ops.size
def cls (md : Md) (ops : Array Oper) (i : Nat) : Nat :=
  match ops[i]? with
  | none => 4
  | some o => match o.op with
    | .load .. => bif md.qu && loose md ops (befT ops.toList 0 .lf) i then 0 else 1
    | op => opClass md op

mutual
def avEq : AV → AV → Bool
  | .bool a, .bool b => a == b
  | .int k n, .int k' n' => decide (k = k') && decide (n = n')
  | .str s, .str s' => decide (s.data.toList = s'.data.toList)
  | .ptr A o, .ptr B p => Nat.beq A B && Nat.beq o p
  | .nilp, .nilp => true
  | .sl A o l c e x, .sl A' o' l' c' e' x' => Nat.beq A A' && Nat.beq o o' && Nat.beq l l' && Nat.beq c c' && Nat.beq e e' && x == x'
  | .nils, .nils => true
  | .sle, .sle => true
  | .fn f fs cs, .fn f' fs' cs' => decide (f = f') && avsEq fs fs' && avsEq cs cs'
  | .yld L, .yld L' => Nat.beq L L'
  | .nilf, .nilf => true
  | .ifc t v, .ifc t' v' => Nat.beq t t' && avEq v v'
  | .nili, .nili => true
  | .agg cs, .agg cs' => avsEq cs cs'
  | .tup cs, .tup cs' => avsEq cs cs'
  | .mp M, .mp M' => Nat.beq M M'
  | .nilm, .nilm => true
  | _, _ => false
def avsEq : List AV → List AV → Bool
  | [], [] => true
  | a :: as, b :: bs => avEq a b && avsEq as bs
  | _, _ => false
end
mutual
theorem avEq_eq : ∀ (a b : AV), avEq a b = true → a = b
  | .bool _, b, h => by cases b <;> simp_all [avEq]
  | .int _ _, b, h => by cases b <;> simp_all [avEq]
  | .str s, b, h => by
    cases b <;> first
      | (simp [avEq] at h; done)
      | (rename_i s'
         simp only [avEq, decide_eq_true_eq] at h
         rw [show s = s' from by cases s; cases s'; congr 1; exact Array.toList_inj.1 h])
  | .ptr _ _, b, h => by cases b <;> simp_all [avEq]
  | .nilp, b, h => by cases b <;> simp_all [avEq]
  | .sl _ _ _ _ _ _, b, h => by cases b <;> simp_all [avEq]
  | .nils, b, h => by cases b <;> simp_all [avEq]
  | .sle, b, h => by cases b <;> simp_all [avEq]
  | .fn f fs cs, b, h => by
    cases b <;> first
      | (simp [avEq] at h; done)
      | (simp only [avEq, Bool.and_eq_true, decide_eq_true_eq] at h
         rw [h.1.1, avsEq_eq fs _ h.1.2, avsEq_eq cs _ h.2])
  | .yld _, b, h => by cases b <;> simp_all [avEq]
  | .nilf, b, h => by cases b <;> simp_all [avEq]
  | .ifc t v, b, h => by
    cases b <;> first
      | (simp [avEq] at h; done)
      | (simp only [avEq, Bool.and_eq_true] at h
         rw [Nat.eq_of_beq_eq_true h.1, avEq_eq v _ h.2])
  | .nili, b, h => by cases b <;> simp_all [avEq]
  | .agg cs, b, h => by
    cases b <;> first
      | (simp [avEq] at h; done)
      | (simp only [avEq] at h
         rw [avsEq_eq cs _ h])
  | .tup cs, b, h => by
    cases b <;> first
      | (simp [avEq] at h; done)
      | (simp only [avEq] at h
         rw [avsEq_eq cs _ h])
  | .mp _, b, h => by cases b <;> simp_all [avEq]
  | .nilm, b, h => by cases b <;> simp_all [avEq]
theorem avsEq_eq : ∀ (a b : List AV), avsEq a b = true → a = b
  | [], [], _ => rfl
  | [], _ :: _, h => by simp [avsEq] at h
  | _ :: _, [], h => by simp [avsEq] at h
  | a :: as, b :: bs, h => by
    simp only [avsEq, Bool.and_eq_true] at h
    rw [avEq_eq a b h.1, avsEq_eq as bs h.2]
end
def blkEq : ABlk → ABlk → Bool
  | .cells a, .cells b => avsEq a b
  | _, _ => false
theorem blkEq_eq {a b : ABlk} (h : blkEq a b = true) : a = b := by
  cases a <;> cases b <;> first | (simp [blkEq] at h; done) | (simp only [blkEq] at h; rw [avsEq_eq _ _ h])

def bodyVals : ABlk → List AV
  | .cells cs => cs
  | _ => []

def memK (A : Nat) : List (Nat × ABlk) → Bool
  | [] => false
  | (B, _) :: l => bif Nat.beq A B then true else memK A l

/-- the blocks from lo to hi that values lead to -/
def reach : Nat → Hp → Nat → Nat → List AV → List (Nat × ABlk) → List (Nat × ABlk)
  | 0, _, _, _, _, acc => acc
  | _ + 1, _, _, _, [], acc => acc
  | n + 1, σ, lo, hi, a :: ws, acc =>
    let go (A : Nat) : List (Nat × ABlk) :=
      bif Nat.ble lo A && Nat.blt A hi && !memK A acc then
        match σ.get A with
        | some b => reach n σ lo hi (bodyVals b ++ ws) ((A, b) :: acc)
        | none => reach n σ lo hi ws acc
      else reach n σ lo hi ws acc
    match a with
    | .ptr A _ => go A
    | .sl A _ _ _ _ _ => go A
    | .agg cs => reach n σ lo hi (cs ++ ws) acc
    | .tup cs => reach n σ lo hi (cs ++ ws) acc
    | .fn _ fs cs => reach n σ lo hi (fs ++ cs ++ ws) acc
    | .ifc _ v => reach n σ lo hi (v :: ws) acc
    | _ => reach n σ lo hi ws acc

structure DS where
  t : Tree AV
  base : Hp
  frs : List (Nat × List (Nat × ABlk))
  c : Nat
  q : List (Nat × ABlk)
  bs : List Hp

def addAll : List (Nat × ABlk) → Hp → Hp
  | [], σ => σ
  | (A, b) :: l, σ => addAll l (σ.set A (some b))
/-- the new memory of those operations that f names -/
def addSel (f : Nat → Bool) : List (Nat × List (Nat × ABlk)) → Hp → Hp
  | [], σ => σ
  | (j, F) :: l, σ => bif f j then addAll F (addSel f l σ) else addSel f l σ

/-- the blocks that stores write, as they are at the start -/
def owns (ro : Nat) (t : Tree AV) (σ : Hp) : List Oper → Nat → Option (List (Nat × Nat × ABlk))
  | [], _ => some []
  | o :: os, i => match o.op with
    | .store _ a _ => match opd t a with
      | some (.ptr A _) => match σ.get A, owns ro t σ os (i + 1) with
        | some b, some l => bif Nat.ble ro A && !l.any (fun p => Nat.beq p.2.1 A) then some ((i, A, b) :: l) else none
        | _, _ => none
      | _ => none
    | _ => owns ro t σ os (i + 1)
def cutAll : List (Nat × Nat × ABlk) → Hp → Hp
  | [], σ => σ
  | p :: l, σ => (cutAll l σ).set p.2.1 none
def look : List (Nat × Nat × ABlk) → Nat → Option (Nat × ABlk)
  | [], _ => none
  | p :: l, j => bif Nat.beq p.1 j then some p.2 else look l j

/-- the block that a load reads -/
def qOf (t : Tree AV) (base : Hp) (o : Oper) : List (Nat × ABlk) :=
  match o.op with
  | .load _ a => match opd t a with
    | some (.ptr A _) => match base.get A with
      | some b => [(A, b)]
      | none => []
    | _ => []
  | _ => []
theorem qOf_spec {t : Tree AV} {base : Hp} {o : Oper} {A : Nat} {b : ABlk} (h : (A, b) ∈ qOf t base o) : base.get A = some b := by
  unfold qOf at h
  (repeat' (split at h)) <;> first | (cases h; done) | skip
  rename_i hb
  rcases List.mem_cons.1 h with h | h
  · cases h; exact hb
  · cases h

def dStep (K : Nat → Nat) (ow : List (Nat × Nat × ABlk)) (C : Cx) (H : Hook) (rec : Rec) (ro nt : Nat) (round : Option Nat) (ops : Array Oper) (T : Tree Nat) (i : Nat) (S : DS) : Option DS :=
  match ops[i]? with
  | none => none
  | some o => match K i with
    | 0 => match opAt C H rec S.c nt round S.t ops i (addAll (qOf S.t S.base o) .lf) S.c with
      | some (t, [], _, c) => some { S with t := t, c := c, q := qOf S.t S.base o ++ S.q }
      | _ => none
    | 1 => match opAt C H rec S.c nt round S.t ops i (addSel (Nat.testBit ((T.get i).getD 0)) S.frs S.base) S.c with
      | some (t, [], σ, c) => some { S with t := t, frs := (i, match o.dst with | some d => reach 100000 σ S.c c [(t.get d).getD (.tup [])] [] | none => []) :: S.frs, c := c }
      | _ => none
    | 2 => match opAt C H rec ro nt round S.t ops i (addSel (fun _ => true) S.frs S.base) S.c with
      | some (t, [], σ, c) => some { S with t := t, base := σ, frs := [], c := c, bs := σ :: S.bs }
      | _ => none
    | 3 => match look ow i with
      | some (A, old) => match opAt C H rec ro nt round S.t ops i ((Tree.lf : Hp).set A (some old)) S.c with
        | some (t, [], σ, _) => match σ.get A with
          | some new => some { S with t := t, frs := (i, [(A, new)]) :: S.frs }
          | none => none
        | _ => none
      | none => none
    | _ => none

def dRun (K : Nat → Nat) (ow : List (Nat × Nat × ABlk)) (C : Cx) (H : Hook) (rec : Rec) (ro nt : Nat) (round : Option Nat) (ops : Array Oper) (T : Tree Nat) : Nat → Nat → DS → Option DS
  | 0, _, S => some S
  | k + 1, i, S => match dStep K ow C H rec ro nt round ops T i S with
    | some S' => dRun K ow C H rec ro nt round ops T k (i + 1) S'
    | none => none

/-- do all grounds hold what was read? -/
def allKeep : List (Nat × ABlk) → List Hp → Bool
  | [], _ => true
  | p :: q, bs => bs.all (fun β => match β.get p.1 with | some b => blkEq b p.2 | none => false) && allKeep q bs
theorem allKeep_spec : ∀ {q : List (Nat × ABlk)} {bs : List Hp}, allKeep q bs = true → ∀ p ∈ q, ∀ β ∈ bs, β.get p.1 = some p.2
  | [], _, _, p, hp, _, _ => nomatch hp
  | x :: q, bs, h, p, hp, β, hβ => by
    simp only [allKeep, Bool.and_eq_true, List.all_eq_true] at h
    rcases List.mem_cons.1 hp with rfl | hp
    · have := h.1 β hβ
      split at this
      · rename_i b hb
        rw [hb, blkEq_eq this]
      · cases this
    · exact allKeep_spec h.2 p hp β hβ

def drawnM (md : Md) (C : Cx) (H : Hook) : Drw := fun rec ro nt round t ops σ c =>
  bif rcheck md.st (cls md ops) ops then
    match (bif md.st then owns ro t σ ops.toList 0 else some []) with
    | none => none
    | some ow => match dRun (cls md ops) ow C H rec ro nt round ops (befT ops.toList 0 .lf) ops.size 0 { t := t, base := cutAll ow σ, frs := [], c := c, q := [], bs := [cutAll ow σ] } with
      | some S => bif allKeep S.q S.bs then some (S.t, addSel (fun _ => true) S.frs S.base, S.c) else none
      | none => none
  else none

def firstM (C : Cx) (H : Hook) : List Md → Drw
  | [], _, _, _, _, _, _, _, _ => none
  | md :: l, rec, ro, nt, round, t, ops, σ, c => match drawnM md C H rec ro nt round t ops σ c with
    | some r => some r
    | none => firstM C H l rec ro nt round t ops σ c
def mds : List Md := [⟨false, false, false, false⟩, ⟨true, false, false, false⟩, ⟨false, true, false, false⟩, ⟨true, true, false, false⟩, ⟨false, false, true, false⟩, ⟨true, false, true, false⟩, ⟨false, false, false, true⟩, ⟨false, true, false, true⟩]
def drawn (C : Cx) (H : Hook) : Drw := firstM C H mds

theorem opClass_store {md : Md} {op : Op} (h : opClass md op = 3) : md.st = true ∧ ∃ t a v, op = .store t a v := by
  obtain ⟨ap, ca, st, qu⟩ := md
  unfold opClass at h
  split at h
  all_goals first
    | (cases h; done)
    | (cases st
       · cases h
       · exact ⟨rfl, _, _, _, rfl⟩)
    | (rename_i k
       split at h
       all_goals first
         | (cases h; done)
         | (cases ca <;> cases h; done)
         | (cases ap <;> cases h; done))

theorem cls_store {md : Md} {ops : Array Oper} {i : Nat} {o : Oper} (ho : ops[i]? = some o) (h : cls md ops i = 3) : md.st = true ∧ ∃ t a v, o.op = .store t a v := by
  unfold cls at h
  rw [ho] at h
  dsimp only at h
  split at h
  · cases hb : (md.qu && loose md ops (befT ops.toList 0 .lf) i) with
    | true => rw [hb] at h; cases h
    | false => rw [hb] at h; cases h
  · exact opClass_store h

theorem look_mem : ∀ {l : List (Nat × Nat × ABlk)} {j A : Nat} {b : ABlk}, look l j = some (A, b) → (j, A, b) ∈ l
  | [], _, _, _, h => by cases h
  | p :: l, j, A, b, h => by
    simp only [look] at h
    cases hb : Nat.beq p.1 j with
    | true =>
      rw [hb] at h
      obtain ⟨i, x⟩ := p
      have hx : x = (A, b) := Option.some.inj h
      have hi : i = j := by simpa using hb
      subst hx; subst hi
      exact List.mem_cons_self
    | false => rw [hb] at h; exact List.mem_cons_of_mem _ (look_mem h)

theorem owns_spec {ro : Nat} {t : Tree AV} {σ : Hp} : ∀ {os : List Oper} {i : Nat} {l : List (Nat × Nat × ABlk)}, owns ro t σ os i = some l →
    (∀ p ∈ l, ro ≤ p.2.1 ∧ σ.get p.2.1 = some p.2.2) ∧ ∀ p ∈ l, ∀ q ∈ l, p.2.1 = q.2.1 → p = q
  | [], _, _, h => by cases h; exact ⟨(fun p hp => nomatch hp), (fun p hp => nomatch hp)⟩
  | o :: os, i, l, h => by
    simp only [owns] at h
    split at h
    · split at h
      · rename_i A off hop
        split at h
        · rename_i b l' hb hl
          cases hc : (Nat.ble ro A && !l'.any (fun p => Nat.beq p.2.1 A)) with
          | false => rw [hc] at h; cases h
          | true =>
            rw [hc] at h
            cases h
            simp only [Bool.and_eq_true, Bool.not_eq_true', List.any_eq_false] at hc
            obtain ⟨h1, h2⟩ := owns_spec hl
            have hn : ∀ p ∈ l', p.2.1 ≠ A := fun p hp he => hc.2 p hp (by rw [he]; exact Nat.beq_refl A)
            refine ⟨fun p hp => ?_, fun p hp q hq he => ?_⟩
            · rcases List.mem_cons.1 hp with rfl | hp
              · exact ⟨Nat.le_of_ble_eq_true hc.1, hb⟩
              · exact h1 p hp
            · rcases List.mem_cons.1 hp with rfl | hp <;> rcases List.mem_cons.1 hq with rfl | hq
              · rfl
              · exact absurd he.symm (hn q hq)
              · exact absurd he (hn p hp)
              · exact h2 p hp q hq he
        · cases h
      · cases h
    · exact owns_spec h

theorem cutAll_get : ∀ {l : List (Nat × Nat × ABlk)} {σ : Hp} {A : Nat} {b : ABlk}, (cutAll l σ).get A = some b → σ.get A = some b ∧ ∀ p ∈ l, p.2.1 ≠ A
  | [], _, _, _, h => ⟨h, (fun p hp => nomatch hp)⟩
  | q :: l, σ, A, b, h => by
    simp only [cutAll] at h
    rw [Tree.get_set] at h
    by_cases hA : A = q.2.1
    · rw [if_pos hA] at h; cases h
    · rw [if_neg hA] at h
      obtain ⟨h1, h2⟩ := cutAll_get h
      refine ⟨h1, fun p hp => ?_⟩
      rcases List.mem_cons.1 hp with rfl | hp
      · exact fun he => hA he.symm
      · exact h2 p hp
end Go.Ev

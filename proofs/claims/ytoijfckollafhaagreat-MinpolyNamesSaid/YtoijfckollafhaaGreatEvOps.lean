/- One operation at a time, told without a tape: what it gives, and what the heap is then. -/
import Derived.Test.YtoijfckollafhaaGreatEvRel
namespace Go.Ev
open Go.RowKit

structure Cx where
  tys : Tree TypeInfo
  fns : Tree Func

structure CxOk (P : Program) (C : Cx) : Prop where
  tys : ∀ t i, C.tys.get t = some i → P.info? t = some i
  fns : ∀ f fn, C.fns.get f = some fn → P.funcs[f]? = some fn ∧ ∀ args w, (callFunc f args).run P w = .ok (.enter f args) w
  mixed : P.follows .mixedOrders = true

def Cx.und (C : Cx) (t : TypeId) : Option TypeDesc :=
  match C.tys.get t with
  | some i => match i.desc with
    | .named _ u => match C.tys.get u with
      | some j => some j.desc
      | none => none
    | d => some d
  | none => none

theorem CxOk.und {P : Program} {C : Cx} (h : CxOk P C) {t : TypeId} {d : TypeDesc} (e : C.und t = some d) : P.underlying t = some d := by
  unfold Cx.und at e
  unfold Program.underlying
  cases h1 : C.tys.get t with
  | none => rw [h1] at e; cases e
  | some i =>
    rw [h1] at e
    rw [h.tys _ _ h1]
    obtain ⟨desc, str, size, bytes, hp, al, fa, zero, cmp, ms⟩ := i
    cases desc <;> try exact e
    rename_i n u
    dsimp only at e ⊢
    cases h2 : C.tys.get u with
    | none => rw [h2] at e; cases e
    | some j => rw [h2] at e; rw [h.tys _ _ h2]; exact e

def Cx.isAgg (C : Cx) (t : TypeId) : Option Bool :=
  match C.und t with
  | some (.struct _) => some true
  | some (.array _ _) => some true
  | some _ => some false
  | none => none
def Cx.size (C : Cx) (t : TypeId) : Option Nat :=
  match C.tys.get t with
  | some i => some i.size
  | none => none

theorem run_und {P : Program} {C : Cx} (h : CxOk P C) {t : TypeId} {d : TypeDesc} (e : C.und t = some d) (w : World) : (underlying t).run P w = .ok d w := by
  simp [underlying, h.und e]
theorem run_isAgg {P : Program} {C : Cx} (h : CxOk P C) {t : TypeId} {b : Bool} (e : C.isAgg t = some b) (w : World) : (isAgg t).run P w = .ok b w := by
  unfold Cx.isAgg at e
  cases hu : C.und t with
  | none => rw [hu] at e; cases e
  | some d =>
    rw [hu] at e
    cases d <;> cases e <;> simp [isAgg, run_und h hu]
theorem run_size {P : Program} {C : Cx} (h : CxOk P C) {t : TypeId} {n : Nat} (e : C.size t = some n) (w : World) : (sizeOf t).run P w = .ok n w := by
  unfold Cx.size at e
  cases hu : C.tys.get t with
  | none => rw [hu] at e; cases e
  | some i => rw [hu] at e; cases e; simp [sizeOf, typeInfo, h.tys _ _ hu]

/-- every part of a list by an answer that may fail -/
def mapO {α β : Type} (f : α → Option β) : List α → Option (List β)
  | [] => some []
  | x :: xs => match f x with
    | none => none
    | some y => match mapO f xs with
      | none => none
      | some ys => some (y :: ys)

/-- a value that names no memory -/
def toAV : Nat → Value → Option AV
  | 0, _ => none
  | n + 1, v => match v with
    | .bool b => some (.bool b)
    | .int k m => some (.int k m)
    | .string s => some (.str s)
    | .pointer none => some .nilp
    | .slice none l c => bif Nat.beq (l + c) 0 then some .nils else none
    | .func f a b => match mapO (toAV n) a.toList with
      | none => none
      | some x => match mapO (toAV n) b.toList with
        | none => none
        | some y => some (.fn f x y)
    | .nilFunc => some .nilf
    | .iface t v => match toAV n v with
      | none => none
      | some x => some (.ifc t x)
    | .nilIface => some .nili
    | .agg cs => match mapO (toAV n) cs.toList with
      | none => none
      | some x => some (.agg x)
    | .tuple cs => match mapO (toAV n) cs.toList with
      | none => none
      | some x => some (.tup x)
    | .map none => some .nilm
    | _ => none

theorem mapO_rel {φ : Ren} {f : Value → Option AV} (hf : ∀ v a, f v = some a → VRel φ a v) : ∀ (l : List Value) (r : List AV), mapO f l = some r → LRel φ r l
  | [], r, e => by cases e; exact .nil
  | v :: vs, r, e => by
    simp only [mapO] at e
    cases h1 : f v with
    | none => rw [h1] at e; cases e
    | some a =>
      rw [h1] at e
      dsimp only at e
      cases h2 : mapO f vs with
      | none => rw [h2] at e; cases e
      | some as => rw [h2] at e; cases e; exact .cons (hf _ _ h1) (mapO_rel hf vs as h2)

theorem toAV_rel {φ : Ren} : ∀ (n : Nat) (v : Value) (a : AV), toAV n v = some a → VRel φ a v := by
  intro n
  induction n with
  | zero => intro v a e; cases e
  | succ n ih =>
    intro v a e
    cases v with
    | bool b => cases e; exact .bool b
    | int k m => cases e; exact .int k m
    | string s => cases e; exact .str s
    | float k b => cases e
    | complex k a b => cases e
    | chan r => cases e
    | nilFunc => cases e; exact .nilf
    | nilIface => cases e; exact .nili
    | pointer p => cases p with
      | none => cases e; exact .nilp
      | some p => cases e
    | slice p l c =>
      cases p with
      | some p => cases e
      | none =>
        simp only [toAV] at e
        by_cases h : l + c = 0
        · have hl : l = 0 := by omega
          have hc : c = 0 := by omega
          subst hl; subst hc; cases e; exact .nils
        · have : Nat.beq (l + c) 0 = false := by cases hh : l + c with
            | zero => exact absurd hh h
            | succ m => rfl
          rw [this] at e; cases e
    | map r => cases r with
      | none => cases e; exact .nilm
      | some r => cases e
    | iface t v =>
      simp only [toAV] at e
      cases h : toAV n v with
      | none => rw [h] at e; cases e
      | some x => rw [h] at e; cases e; exact .ifc (ih _ _ h)
    | agg cs =>
      simp only [toAV] at e
      cases h : mapO (toAV n) cs.toList with
      | none => rw [h] at e; cases e
      | some x => rw [h] at e; cases e; have := VRel.agg (mapO_rel ih _ _ h); simpa using this
    | tuple cs =>
      simp only [toAV] at e
      cases h : mapO (toAV n) cs.toList with
      | none => rw [h] at e; cases e
      | some x => rw [h] at e; cases e; have := VRel.tup (mapO_rel ih _ _ h); simpa using this
    | func f a b =>
      simp only [toAV] at e
      cases h : mapO (toAV n) a.toList with
      | none => rw [h] at e; cases e
      | some x =>
        rw [h] at e
        dsimp only at e
        cases h2 : mapO (toAV n) b.toList with
        | none => rw [h2] at e; cases e
        | some y => rw [h2] at e; cases e; have := VRel.fn (f := f) (mapO_rel ih _ _ h) (mapO_rel ih _ _ h2); simpa using this

def Cx.zero (C : Cx) (t : TypeId) : Option AV :=
  match C.tys.get t with
  | some i => match i.zero with
    | some z => toAV 3 z
    | none => none
  | none => none
theorem run_zero {P : Program} {C : Cx} (h : CxOk P C) {t : TypeId} {a : AV} (e : C.zero t = some a) (φ : Ren) (w : World) : ∃ z, (zeroValue t).run P w = .ok z w ∧ VRel φ a z ∧ ∃ i, C.tys.get t = some i ∧ P.info? t = some i ∧ i.zero = some z := by
  unfold Cx.zero at e
  cases hu : C.tys.get t with
  | none => rw [hu] at e; cases e
  | some i =>
    rw [hu] at e
    dsimp only at e
    cases hz : i.zero with
    | none => rw [hz] at e; cases e
    | some z =>
      rw [hz] at e
      exact ⟨z, by simp [zeroValue, typeInfo, h.tys _ _ hu, hz], toAV_rel _ _ _ e, i, rfl, h.tys _ _ hu, hz⟩

/-! ### lists -/
def takeX {α : Type} : Nat → List α → Option (List α)
  | 0, _ => some []
  | _ + 1, [] => none
  | n + 1, x :: xs => match takeX n xs with
    | none => none
    | some ys => some (x :: ys)
theorem takeX_eq {α : Type} : ∀ (n : Nat) (l r : List α), takeX n l = some r → r = l.take n ∧ n ≤ l.length
  | 0, l, r, e => by cases e; simp
  | n + 1, [], r, e => by cases e
  | n + 1, x :: xs, r, e => by
    simp only [takeX] at e
    cases h : takeX n xs with
    | none => rw [h] at e; cases e
    | some ys =>
      rw [h] at e; cases e
      obtain ⟨h1, h2⟩ := takeX_eq n xs ys h
      subst h1
      simp; exact h2
def lsub {α : Type} (l : List α) (off n : Nat) : Option (List α) := takeX n (l.drop off)
theorem lsub_eq {α : Type} {l r : List α} {off n : Nat} (e : lsub l off n = some r) : r = (l.drop off).take n ∧ r.length = n ∧ (off + n ≤ l.length ∨ n = 0) := by
  obtain ⟨h1, h2⟩ := takeX_eq _ _ _ e
  subst h1
  simp at h2
  refine ⟨rfl, by simp; omega, by omega⟩

def putX {α : Type} : List α → Nat → List α → Option (List α)
  | l, 0, [] => some l
  | [], 0, _ :: _ => none
  | _ :: l, 0, v :: vs => match putX l 0 vs with
    | none => none
    | some r => some (v :: r)
  | [], _ + 1, _ => none
  | x :: l, k + 1, vs => match putX l k vs with
    | none => none
    | some r => some (x :: r)
theorem putX_eq {α : Type} : ∀ (l : List α) (off : Nat) (vs r : List α), putX l off vs = some r → r = l.take off ++ vs ++ l.drop (off + vs.length) ∧ off + vs.length ≤ l.length
  | l, 0, [], r, e => by simp [putX] at e; subst e; simp
  | [], 0, _ :: _, r, e => by simp [putX] at e
  | x :: l, 0, v :: vs, r, e => by
    simp only [putX] at e
    cases h : putX l 0 vs with
    | none => rw [h] at e; cases e
    | some q =>
      rw [h] at e; cases e
      obtain ⟨h1, h2⟩ := putX_eq l 0 vs q h
      subst h1
      simp only [Nat.zero_add] at h2 ⊢
      simp [h2]
  | [], k + 1, vs, r, e => by cases vs <;> simp [putX] at e
  | x :: l, k + 1, vs, r, e => by
    have e' : (match putX l k vs with | none => none | some r => some (x :: r)) = some r := by
      cases vs <;> simpa [putX] using e
    cases h : putX l k vs with
    | none => rw [h] at e'; cases e'
    | some q =>
      rw [h] at e'; cases e'
      obtain ⟨h1, h2⟩ := putX_eq l k vs q h
      subst h1
      refine ⟨?_, by simp; omega⟩
      rw [show k + 1 + vs.length = (k + vs.length) + 1 by omega]
      simp

theorem LRel.take {φ : Ren} : ∀ {a : List AV} {v : List Value}, LRel φ a v → ∀ n, LRel φ (a.take n) (v.take n)
  | _, _, .nil, n => by simp; exact .nil
  | _, _, .cons h t, 0 => by simp; exact .nil
  | _, _, .cons h t, n + 1 => by simp; exact .cons h (t.take n)
theorem LRel.drop {φ : Ren} : ∀ {a : List AV} {v : List Value}, LRel φ a v → ∀ n, LRel φ (a.drop n) (v.drop n)
  | _, _, .nil, n => by simp; exact .nil
  | _, _, .cons h t, 0 => by simp; exact .cons h t
  | _, _, .cons h t, n + 1 => by simp; exact t.drop n
theorem LRel.put {φ : Ren} {a vs r : List AV} {c us : List Value} {off : Nat} (h : LRel φ a c) (k : LRel φ vs us) (e : putX a off vs = some r) :
    LRel φ r (c.take off ++ us ++ c.drop (off + us.length)) ∧ off + us.length ≤ c.length := by
  obtain ⟨h1, h2⟩ := putX_eq _ _ _ _ e
  subst h1
  rw [← k.length, ← h.length]
  exact ⟨((h.take _).append k).append (h.drop _), h2⟩

def AV.one : AV → Bool
  | .agg _ => false
  | .tup _ => false
  | _ => true
theorem VRel.one {φ : Ren} {a : AV} {v : Value} (h : VRel φ a v) (ho : a.one = true) : v.oneCell' = true := by
  cases h <;> first | rfl | cases ho
def allOne : List AV → Bool
  | [] => true
  | a :: as => bif a.one then allOne as else false
theorem LRel.one {φ : Ren} : ∀ {a : List AV} {v : List Value}, LRel φ a v → allOne a = true → ∀ u ∈ v, u.oneCell' = true
  | _, _, .nil, _, u, hu => by cases hu
  | _, _, .cons (a := a) h t, ho, u, hu => by
    simp only [allOne] at ho
    cases h1 : a.one with
    | false => rw [h1] at ho; cases ho
    | true =>
      rw [h1] at ho
      cases hu with
      | head => exact h.one h1
      | tail _ hu => exact t.one ho u hu

/-! ### reading and writing cells -/
def rdCells (σ : Hp) (A off n : Nat) : Option (List AV) :=
  match σ.get A with
  | some (.cells cs) => lsub cs off n
  | _ => none

def wrCells (ro : Nat) (σ : Hp) (A off : Nat) (vs : List AV) : Option Hp :=
  bif Nat.ble ro A then
    match σ.get A with
    | some (.cells cs) => bif allOne vs then
        match putX cs off vs with
        | some r => some (σ.set A (some (.cells r)))
        | none => none
      else none
    | _ => none
  else none

section
variable {P : Program} {ro n0 : Nat} {φ : Ren} {σ : Hp} {w : World}

/-- what a reading finds in the model's memory -/
theorem rd_cells (h : SRel ro n0 φ σ w) {A off n : Nat} {r : List AV} (e : rdCells σ A off n = some r) :
    ∃ B s m us, φ A = some (B, s, m) ∧ LRel φ r us ∧ us.length = n ∧ ∀ j u, us[j]? = some u → w.cell? ⟨B, s + off + j, none⟩ = some u := by
  unfold rdCells at e
  split at e
  case h_2 => cases e
  case h_1 cs hA =>
    obtain ⟨⟨B, s, m⟩, hφ, ccs, ety, hh, hsz, hle, hc⟩ := h.h A _ hA
    dsimp only at hh hsz hle hc
    obtain ⟨h1, h2, h3⟩ := lsub_eq e
    subst h1
    have hfit : (cs.drop off).take n = [] ∨ off + n ≤ cs.length := by
      rcases h3 with h3 | h3
      · exact .inr h3
      · left; subst h3; simp
    have hlist : LRel φ ((cs.drop off).take n) ((ccs.toList.drop (s + off)).take n) := by
      rcases h3 with h3 | h3
      · have := (hc.drop off).take n
        rw [List.drop_take, List.drop_drop, List.take_take, Nat.min_eq_left (by omega)] at this
        exact this
      · subst h3; simp; exact .nil
    refine ⟨B, s, m, (ccs.toList.drop (s + off)).take n, hφ, hlist, by rw [← hlist.length, h2], ?_⟩
    intro j u hu
    rw [List.getElem?_take] at hu
    split at hu
    · rw [List.getElem?_drop, Array.getElem?_toList] at hu
      simp only [World.cell?, hh]
      simpa using hu
    · cases hu

theorem run_rd (h : SRel ro n0 φ σ w) {A off n : Nat} {r : List AV} (e : rdCells σ A off n = some r) {B s m : Nat} (hφ : φ A = some (B, s, m)) :
    ∃ us : List Value, (loadCells ⟨B, s + off, none⟩ n).run P w = .ok us.toArray w ∧ LRel φ r us ∧ us.length = n ∧ ∀ j u, us[j]? = some u → w.cell? ((⟨B, s + off, none⟩ : Addr).add j) = some u := by
  obtain ⟨B', s', m', us, hφ', hr, hl, hc⟩ := rd_cells h e
  rw [hφ] at hφ'; cases hφ'
  have hc' : ∀ j u, us[j]? = some u → w.cell? ((⟨B, s + off, none⟩ : Addr).add j) = some u := by
    intro j u hu
    have := hc j u hu
    unfold Addr.add
    split
    · rename_i hj; subst hj; simpa using this
    · exact this
  refine ⟨us, ?_, hr, hl, hc'⟩
  rw [← hl]
  exact run_loadCells_list w _ us hc'

/-- a write -/
theorem run_wrF (h : SRel ro n0 φ σ w) {A off : Nat} {vs : List AV} {us : List Value} {σ' : Hp} (hv : LRel φ vs us) (e : wrCells ro σ A off vs = some σ') {B s m : Nat} (hφ : φ A = some (B, s, m)) :
    ∃ w', (storeCells ⟨B, s + off, none⟩ us).run P w = .ok () w' ∧ SRel ro n0 φ σ' w' ∧ Below n0 w w' ∧ ∀ k, k ≠ B → w'.heap[k]? = w.heap[k]? := by
  unfold wrCells at e
  cases hro : Nat.ble ro A with
  | false => rw [hro] at e; cases e
  | true =>
    rw [hro] at e
    have hro' : ro ≤ A := Nat.le_of_ble_eq_true hro
    simp only [cond_true] at e
    split at e
    case h_2 => cases e
    case h_1 cs hA =>
      cases ho : allOne vs with
      | false => rw [ho] at e; cases e
      | true =>
        rw [ho] at e
        simp only [cond_true] at e
        split at e
        case h_2 => cases e
        case h_1 r hput =>
          cases e
          obtain ⟨⟨B', s', m'⟩, hφ', ccs, ety, hh, hsz, hle, hc⟩ := h.h A _ hA
          rw [hφ] at hφ'; cases hφ'
          dsimp only at hh hsz hle hc
          obtain ⟨hp1, hp2⟩ := putX_eq _ _ _ _ hput
          have hvl := hv.length
          have hfit : s + off + us.length ≤ ccs.size := by omega
          have hst := run_storeCells_at P B (s + off) ety us 0 ccs w hh (by simpa using hfit) (hv.one ho)
          simp only [Nat.add_zero] at hst
          have hrl : r.length = cs.length := by rw [hp1]; simp; omega
          refine ⟨_, hst, h.put hφ hro' (by rw [hA]; rfl) (.cells r) ⟨_, ety, setRow_heap w B ccs _ ety _ hh, ?_, ?_, ?_⟩ (by simp) ?_, ?_⟩
          · simp; omega
          · simp; omega
          · have hnew := (hc.put hv hput).1
            have hcut : (((List.take (s + off) ccs.toList ++ us ++ List.drop (s + off + us.length) ccs.toList).toArray).toList.drop s).take r.length =
                (((ccs.toList.drop s).take cs.length).take off ++ us ++ ((ccs.toList.drop s).take cs.length).drop (off + us.length)) := by
              have e1 : List.take off ((ccs.toList.drop s).take cs.length) = (ccs.toList.drop s).take off := by rw [List.take_take, Nat.min_eq_left (by omega)]
              have e2 : List.drop (off + us.length) ((ccs.toList.drop s).take cs.length) = (ccs.toList.drop (s + off + us.length)).take (cs.length - (off + us.length)) := by
                rw [List.drop_take, List.drop_drop, Nat.add_assoc]
              rw [e1, e2, hrl]
              have e3 : (List.take (s + off) ccs.toList).drop s = (ccs.toList.drop s).take off := by rw [List.drop_take, Nat.add_sub_cancel_left]
              have hl1 : (List.take (s + off) ccs.toList).length = s + off := by simp; omega
              have hl2 : ((ccs.toList.drop s).take off).length = off := by simp; omega
              show List.take cs.length (List.drop s (List.take (s + off) ccs.toList ++ us ++ List.drop (s + off + us.length) ccs.toList)) = _
              rw [List.append_assoc, List.drop_append_of_le_length (by omega), e3, List.take_append, hl2, List.take_append, List.append_assoc]
              rw [List.take_of_length_le (by omega), List.take_of_length_le (l := us) (by omega), show cs.length - off - us.length = cs.length - (off + us.length) by omega]
            rw [hcut]
            exact hnew
          · intro k hk _
            exact setRow_other w B k _ hk
          · have hn : n0 ≤ B := h.o A _ hro' (by rw [hA]; rfl) hφ
            exact ⟨below_setRow (Below.refl _ _) hn _, fun k hk => setRow_other w B k _ hk⟩
theorem run_wr (h : SRel ro n0 φ σ w) {A off : Nat} {vs : List AV} {us : List Value} {σ' : Hp} (hv : LRel φ vs us) (e : wrCells ro σ A off vs = some σ') {B s m : Nat} (hφ : φ A = some (B, s, m)) :
    ∃ w', (storeCells ⟨B, s + off, none⟩ us).run P w = .ok () w' ∧ SRel ro n0 φ σ' w' ∧ Below n0 w w' := by
  obtain ⟨w', h1, h2, h3, _⟩ := run_wrF (P := P) h hv e hφ
  exact ⟨w', h1, h2, h3⟩
end
end Go.Ev

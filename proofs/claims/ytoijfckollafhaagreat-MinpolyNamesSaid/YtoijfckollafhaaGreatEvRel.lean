/- Values and heaps told apart from the block numbers and capacities that a run draws: the relation to the model's own. -/
import Derived.Calls
import Derived.Below
import Derived.Laws.Cells
import Derived.Laws.Rows
import Derived.Laws.Append
import Derived.Laws.AppendOwn
import Derived.Laws.MakeOwn
import Derived.Laws.Slices
import Derived.Laws.CopyOwn
import Derived.Test.YtoijfckollafhaaGreatEvTree
namespace Go.Ev
open Go.RowKit

inductive AV where
  | bool (b : Bool)
  | int (k : IntKind) (n : Int)
  | str (s : ByteArray)
  | ptr (A off : Nat)
  | nilp
  | sl (A off len cap esz : Nat) (ex : Bool)
  | nils
  | sle
  | fn (f : Fn) (fs cs : List AV)
  | yld (L : Nat)
  | nilf
  | ifc (t : TypeId) (v : AV)
  | nili
  | agg (cs : List AV)
  | tup (vs : List AV)
  | mp (M : Nat)
  | nilm

/-- where an abstract block lies: the block, the offset of its first cell, how many cells the block has -/
abbrev Ren := Nat → Option (Nat × Nat × Nat)

def Ren.le (φ ψ : Ren) : Prop := ∀ A x, φ A = some x → ψ A = some x
theorem Ren.le.refl (φ : Ren) : φ.le φ := fun _ _ h => h
theorem Ren.le.trans {φ ψ χ : Ren} (h : φ.le ψ) (k : ψ.le χ) : φ.le χ := fun A x e => k A x (h A x e)
def Ren.ext (φ : Ren) (A : Nat) (x : Nat × Nat × Nat) : Ren := fun B => if B = A then some x else φ B
theorem Ren.ext_self (φ : Ren) (A : Nat) (x : Nat × Nat × Nat) : φ.ext A x A = some x := by simp [Ren.ext]
theorem Ren.ext_other (φ : Ren) {A B : Nat} (x : Nat × Nat × Nat) (h : B ≠ A) : φ.ext A x B = φ B := by simp [Ren.ext, h]
theorem Ren.le_ext {φ : Ren} {A : Nat} (x : Nat × Nat × Nat) (h : φ A = none) : φ.le (φ.ext A x) := by
  intro B y e
  unfold Ren.ext
  by_cases hb : B = A
  · subst hb; rw [h] at e; cases e
  · rw [if_neg hb]; exact e

mutual
inductive VRel (φ : Ren) : AV → Value → Prop
  | bool (b : Bool) : VRel φ (.bool b) (.bool b)
  | int (k : IntKind) (n : Int) : VRel φ (.int k n) (.int k n)
  | str (s : ByteArray) : VRel φ (.str s) (.string s)
  | ptr {A off B s n : Nat} (h : φ A = some (B, s, n)) : VRel φ (.ptr A off) (.pointer (some ⟨B, s + off, none⟩))
  | nilp : VRel φ .nilp (.pointer none)
  | sle (B o c : Nat) : VRel φ .sle (.slice (some ⟨B, o, none⟩) 0 c)
  | sl {A off len cap esz B s n c : Nat} {ex : Bool} (h : φ A = some (B, s, n)) (h1 : len ≤ cap) (h2 : cap ≤ c) (h3 : ex = true → c = cap) (h4 : s + off + c * esz ≤ n) :
      VRel φ (.sl A off len cap esz ex) (.slice (some ⟨B, s + off, none⟩) len c)
  | nils : VRel φ .nils (.slice none 0 0)
  | fn {f : Fn} {fs cs : List AV} {us vs : List Value} (h : LRel φ fs us) (k : LRel φ cs vs) : VRel φ (.fn f fs cs) (.func f us.toArray vs.toArray)
  | yld {L B s n : Nat} (h : φ L = some (B, s, n)) : VRel φ (.yld L) (.func (.yield B) #[] #[])
  | nilf : VRel φ .nilf .nilFunc
  | ifc {t : TypeId} {a : AV} {v : Value} (h : VRel φ a v) : VRel φ (.ifc t a) (.iface t v)
  | nili : VRel φ .nili .nilIface
  | agg {cs : List AV} {vs : List Value} (h : LRel φ cs vs) : VRel φ (.agg cs) (.agg vs.toArray)
  | tup {cs : List AV} {vs : List Value} (h : LRel φ cs vs) : VRel φ (.tup cs) (.tuple vs.toArray)
  | mp {M B s n : Nat} (h : φ M = some (B, s, n)) : VRel φ (.mp M) (.map (some B))
  | nilm : VRel φ .nilm (.map none)
inductive LRel (φ : Ren) : List AV → List Value → Prop
  | nil : LRel φ [] []
  | cons {a : AV} {v : Value} {as : List AV} {vs : List Value} (h : VRel φ a v) (t : LRel φ as vs) : LRel φ (a :: as) (v :: vs)
end

mutual
theorem VRel.mono {φ ψ : Ren} (hl : φ.le ψ) : ∀ {a : AV} {v : Value}, VRel φ a v → VRel ψ a v
  | _, _, .bool b => .bool b
  | _, _, .int k n => .int k n
  | _, _, .str s => .str s
  | _, _, .ptr h => .ptr (hl _ _ h)
  | _, _, .nilp => .nilp
  | _, _, .sle B o c => .sle B o c
  | _, _, .sl h h1 h2 h3 h4 => .sl (hl _ _ h) h1 h2 h3 h4
  | _, _, .nils => .nils
  | _, _, .fn h k => .fn (LRel.mono hl h) (LRel.mono hl k)
  | _, _, .yld h => .yld (hl _ _ h)
  | _, _, .nilf => .nilf
  | _, _, .ifc h => .ifc (VRel.mono hl h)
  | _, _, .nili => .nili
  | _, _, .agg h => .agg (LRel.mono hl h)
  | _, _, .tup h => .tup (LRel.mono hl h)
  | _, _, .mp h => .mp (hl _ _ h)
  | _, _, .nilm => .nilm
theorem LRel.mono {φ ψ : Ren} (hl : φ.le ψ) : ∀ {a : List AV} {v : List Value}, LRel φ a v → LRel ψ a v
  | _, _, .nil => .nil
  | _, _, .cons h t => .cons (VRel.mono hl h) (LRel.mono hl t)
end

theorem LRel.length {φ : Ren} : ∀ {a : List AV} {v : List Value}, LRel φ a v → a.length = v.length
  | _, _, .nil => rfl
  | _, _, .cons _ t => by simp [LRel.length t]
theorem LRel.append {φ : Ren} : ∀ {a b : List AV} {v u : List Value}, LRel φ a v → LRel φ b u → LRel φ (a ++ b) (v ++ u)
  | _, _, _, _, .nil, h => h
  | _, _, _, _, .cons h t, k => .cons h (t.append k)
theorem LRel.get {φ : Ren} : ∀ {a : List AV} {v : List Value}, LRel φ a v → ∀ (i : Nat) (x : AV), a[i]? = some x → ∃ u, v[i]? = some u ∧ VRel φ x u
  | _, _, .nil, i, x, h => by simp at h
  | _, _, .cons h t, 0, x, e => by simp at e; subst e; exact ⟨_, rfl, h⟩
  | _, _, .cons h t, i + 1, x, e => by simp only [List.getElem?_cons_succ] at e ⊢; exact t.get i x e
theorem LRel.of_get {φ : Ren} : ∀ {a : List AV} {v : List Value}, a.length = v.length → (∀ (i : Nat) (x : AV) (u : Value), a[i]? = some x → v[i]? = some u → VRel φ x u) → LRel φ a v
  | [], [], _, _ => .nil
  | [], _ :: _, h, _ => by simp at h
  | _ :: _, [], h, _ => by simp at h
  | a :: as, v :: vs, h, k => .cons (k 0 a v rfl rfl) (LRel.of_get (by simpa using h) fun i x u e e' => k (i + 1) x u (by simpa using e) (by simpa using e'))
theorem LRel.replicate {φ : Ren} {a : AV} {v : Value} (h : VRel φ a v) : ∀ n, LRel φ (List.replicate n a) (List.replicate n v)
  | 0 => .nil
  | n + 1 => .cons h (LRel.replicate h n)

def AV.cells : AV → List AV
  | .agg cs => cs
  | v => [v]
theorem VRel.cells {φ : Ren} {a : AV} {v : Value} (h : VRel φ a v) : LRel φ a.cells v.cells.toList := by
  cases h with
  | agg h => exact h
  | bool b => exact .cons (.bool b) .nil
  | int k n => exact .cons (.int k n) .nil
  | str s => exact .cons (.str s) .nil
  | ptr h => exact .cons (.ptr h) .nil
  | nilp => exact .cons .nilp .nil
  | sl h h1 h2 h3 h4 => exact .cons (.sl h h1 h2 h3 h4) .nil
  | nils => exact .cons .nils .nil
  | sle B o c => exact .cons (.sle B o c) .nil
  | fn h k => exact .cons (.fn h k) .nil
  | yld h => exact .cons (.yld h) .nil
  | nilf => exact .cons .nilf .nil
  | ifc h => exact .cons (.ifc h) .nil
  | nili => exact .cons .nili .nil
  | tup h => exact .cons (.tup h) .nil
  | mp h => exact .cons (.mp h) .nil
  | nilm => exact .cons .nilm .nil

/-! ### heaps -/
structure ALoop where
  st : LoopState
  pend : Option Code
  fn : FuncId
  nt : Nat
  tmps : Tree AV
  params : List Tmp
  assign : Code
  body : Code
  dblk : Nat

inductive ABlk where
  | cells (cs : List AV)
  | loop (l : ALoop)
  | dfr
  | sit (s : ByteArray) (pos : Nat)

abbrev Hp := Tree ABlk

/-- the slots -/
def TRel (φ : Ren) (nt : Nat) (t : Tree AV) (tmps : Array Value) : Prop :=
  tmps.size = nt ∧ ∀ d, VRel φ ((t.get d).getD (.tup [])) (tmps.getD d (.tuple #[]))

/-- cells that lie in a row of the model's -/
def CRel (φ : Ren) (cs : List AV) (ccs : Array Value) (s : Nat) : Prop := s + cs.length ≤ ccs.size ∧ LRel φ cs ((ccs.toList.drop s).take cs.length)

def LoopRel (φ : Ren) (l : ALoop) (r : Loop) : Prop :=
  r.state = l.st ∧ r.pending = l.pend ∧ r.fn = l.fn ∧ TRel φ l.nt l.tmps r.tmps ∧ r.params.toList = l.params ∧ r.assign = l.assign ∧ r.body = l.body ∧ ∃ s n, φ l.dblk = some (r.defers, s, n)

def BRel (φ : Ren) : ABlk → (Nat × Nat × Nat) → World → Prop
  | .cells cs, x, w => ∃ ccs e, w.heap[x.1]? = some (.cells ccs e (0, 0)) ∧ ccs.size = x.2.2 ∧ CRel φ cs ccs x.2.1
  | .loop l, x, w => ∃ r, w.heap[x.1]? = some (.loop r) ∧ LoopRel φ l r
  | .dfr, x, w => w.heap[x.1]? = some (.deferred (some []))
  | .sit s pos, x, w => w.heap[x.1]? = some (.stringIter s pos)

theorem TRel.mono {φ ψ : Ren} (hl : φ.le ψ) {nt : Nat} {t : Tree AV} {tmps : Array Value} (h : TRel φ nt t tmps) : TRel ψ nt t tmps := ⟨h.1, fun d => (h.2 d).mono hl⟩
theorem CRel.mono {φ ψ : Ren} (hl : φ.le ψ) {cs : List AV} {ccs : Array Value} {s : Nat} (h : CRel φ cs ccs s) : CRel ψ cs ccs s := ⟨h.1, h.2.mono hl⟩
theorem LoopRel.mono {φ ψ : Ren} (hl : φ.le ψ) {l : ALoop} {r : Loop} (h : LoopRel φ l r) : LoopRel ψ l r := by
  obtain ⟨h1, h2, h3, h4, h5, h6, h7, s, n, h8⟩ := h
  exact ⟨h1, h2, h3, h4.mono hl, h5, h6, h7, s, n, hl _ _ h8⟩
theorem BRel.mono {φ ψ : Ren} (hl : φ.le ψ) {b : ABlk} {x : Nat × Nat × Nat} {w w' : World} (h : BRel φ b x w) (hw : w'.heap[x.1]? = w.heap[x.1]?) : BRel ψ b x w' := by
  cases b with
  | cells cs => obtain ⟨ccs, e, h1, h2, h4⟩ := h; exact ⟨ccs, e, hw.trans h1, h2, h4.mono hl⟩
  | loop l => obtain ⟨r, h1, h2⟩ := h; exact ⟨r, hw.trans h1, h2.mono hl⟩
  | dfr => exact hw.trans h
  | sit s pos => exact hw.trans h
theorem BRel.lt {φ : Ren} {b : ABlk} {x : Nat × Nat × Nat} {w : World} (h : BRel φ b x w) : x.1 < w.heap.size := by
  have : ∃ o, w.heap[x.1]? = some o := by
    cases b with
    | cells cs => obtain ⟨ccs, e, h1, _⟩ := h; exact ⟨_, h1⟩
    | loop l => obtain ⟨r, h1, _⟩ := h; exact ⟨_, h1⟩
    | dfr => exact ⟨_, h⟩
    | sit s pos => exact ⟨_, h⟩
  obtain ⟨o, ho⟩ := this
  exact (Array.getElem?_eq_some_iff.1 ho).1

/-- the heap's relation; blocks from ro on may be written: they lie from n0 on, each apart from all others -/
structure SRel (ro n0 : Nat) (φ : Ren) (σ : Hp) (w : World) : Prop where
  h : ∀ A b, σ.get A = some b → ∃ x, φ A = some x ∧ BRel φ b x w
  o : ∀ A x, ro ≤ A → (σ.get A).isSome = true → φ A = some x → n0 ≤ x.1
  d : ∀ A A' x x', ro ≤ A → A ≠ A' → (σ.get A).isSome = true → (σ.get A').isSome = true → φ A = some x → φ A' = some x' → x.1 ≠ x'.1
  s : n0 ≤ w.heap.size

/-- between c and c' nothing is told yet -/
def Free (c c' : Nat) (φ : Ren) : Prop := ∀ A, c ≤ A → A < c' → φ A = none
/-- nothing turns outside -/
def Ext (c c' : Nat) (φ φ' : Ren) : Prop := c ≤ c' ∧ ∀ A, A < c ∨ c' ≤ A → φ' A = φ A

theorem Ext.refl (c : Nat) (φ : Ren) : Ext c c φ φ := ⟨Nat.le_refl _, fun _ _ => rfl⟩
theorem Ext.trans {a b c : Nat} {φ ψ χ : Ren} (h : Ext a b φ ψ) (k : Ext b c ψ χ) : Ext a c φ χ :=
  ⟨Nat.le_trans h.1 k.1, fun A hA => (k.2 A (by have := h.1; have := k.1; omega)).trans (h.2 A (by have := h.1; have := k.1; omega))⟩
theorem Ext.le {c c' : Nat} {φ ψ : Ren} (h : Ext c c' φ ψ) (f : Free c c' φ) : φ.le ψ := by
  intro A x e
  have : ¬ (c ≤ A ∧ A < c') := fun ⟨h1, h2⟩ => by rw [f A h1 h2] at e; cases e
  rw [h.2 A (by omega)]
  exact e
theorem Free.left {a b c : Nat} {φ : Ren} (h : Free a c φ) (k : b ≤ c) : Free a b φ := fun A h1 h2 => h A h1 (by omega)
theorem Free.right {a b c : Nat} {φ ψ : Ren} (h : Free a c φ) (k : Ext a b φ ψ) : Free b c ψ := fun A h1 h2 => (k.2 A (by omega)).trans (h A (by have := k.1; omega) h2)

theorem SRel.drew {ro n0 : Nat} {φ : Ren} {σ : Hp} {w : World} (h : SRel ro n0 φ σ w) : SRel ro n0 φ σ w.drew :=
  ⟨fun A b e => let ⟨x, hx, hb⟩ := h.h A b e; ⟨x, hx, hb.mono (Ren.le.refl φ) rfl⟩, h.o, h.d, h.s⟩

theorem SRel.none_of_free {ro n0 : Nat} {φ : Ren} {σ : Hp} {w : World} (h : SRel ro n0 φ σ w) {A : Nat} (hA : φ A = none) : σ.get A = none := by
  cases e : σ.get A with
  | none => rfl
  | some b => obtain ⟨x, hx, _⟩ := h.h A b e; rw [hA] at hx; cases hx

theorem SRel.lt {ro n0 : Nat} {φ : Ren} {σ : Hp} {w : World} (h : SRel ro n0 φ σ w) {A : Nat} {x : Nat × Nat × Nat} (hs : (σ.get A).isSome = true) (hx : φ A = some x) : x.1 < w.heap.size := by
  obtain ⟨b, hb⟩ := Option.isSome_iff_exists.1 hs
  obtain ⟨y, hy, hr⟩ := h.h A b hb
  rw [hx] at hy; cases hy
  exact hr.lt

/-- a new object -/
theorem SRel.alloc {ro n0 : Nat} {φ : Ren} {σ : Hp} {w : World} (h : SRel ro n0 φ σ w) {A : Nat} (hA : φ A = none) (b : ABlk) (o : Obj) (n : Nat)
    (hb : BRel (φ.ext A (w.heap.size, 0, n)) b (w.heap.size, 0, n) (w.alloc o)) :
    SRel ro n0 (φ.ext A (w.heap.size, 0, n)) (σ.set A (some b)) (w.alloc o) := by
  have hle := Ren.le_ext (w.heap.size, 0, n) hA
  have hold : ∀ (B : Nat) (b' : ABlk), B ≠ A → σ.get B = some b' → ∃ x, φ.ext A (w.heap.size, 0, n) B = some x ∧ BRel (φ.ext A (w.heap.size, 0, n)) b' x (w.alloc o) := by
    intro B b' hB e
    obtain ⟨x, hx, hr⟩ := h.h B b' e
    exact ⟨x, hle _ _ hx, hr.mono hle (heap_alloc_old w o _ hr.lt)⟩
  refine ⟨?_, ?_, ?_, ?_⟩
  · intro B b' e
    rw [Tree.get_set] at e
    by_cases hB : B = A
    · subst hB; rw [if_pos rfl] at e; cases e; exact ⟨_, Ren.ext_self _ _ _, hb⟩
    · rw [if_neg hB] at e; exact hold B b' hB e
  · intro B x hr hs hx
    rw [Tree.get_set] at hs
    by_cases hB : B = A
    · subst hB; rw [Ren.ext_self] at hx; cases hx; exact h.s
    · rw [if_neg hB] at hs; rw [Ren.ext_other _ _ hB] at hx; exact h.o B x hr hs hx
  · intro B B' x x' hr hne hs hs' hx hx'
    rw [Tree.get_set] at hs hs'
    by_cases hB : B = A
    · subst hB
      rw [if_neg (Ne.symm hne)] at hs'
      rw [Ren.ext_self] at hx; cases hx
      rw [Ren.ext_other _ _ (Ne.symm hne)] at hx'
      have := h.lt hs' hx'
      show w.heap.size ≠ x'.1
      omega
    · rw [if_neg hB] at hs; rw [Ren.ext_other _ _ hB] at hx
      by_cases hB' : B' = A
      · subst hB'
        rw [Ren.ext_self] at hx'; cases hx'
        have := h.lt hs hx
        show x.1 ≠ w.heap.size
        omega
      · rw [if_neg hB'] at hs'; rw [Ren.ext_other _ _ hB'] at hx'
        exact h.d B B' x x' hr hne hs hs' hx hx'
  · have := h.s; simp; omega

theorem Ext.alloc {c : Nat} {φ : Ren} (x : Nat × Nat × Nat) : Ext c (c + 1) φ (φ.ext c x) :=
  ⟨by omega, fun A hA => Ren.ext_other _ _ (by omega)⟩

/-- new cells -/
theorem SRel.allocCells {ro n0 : Nat} {φ : Ren} {σ : Hp} {w : World} (h : SRel ro n0 φ σ w) {A : Nat} (hA : φ A = none) {acs : List AV} {ccs : Array Value} (e : TypeId) (hc : LRel φ acs ccs.toList) :
    SRel ro n0 (φ.ext A (w.heap.size, 0, ccs.size)) (σ.set A (some (.cells acs))) (w.alloc (.cells ccs e)) := by
  have hl := hc.length
  simp only [Array.length_toList] at hl
  refine h.alloc hA _ _ _ ⟨ccs, e, heap_alloc_new _ _, rfl, ?_, ?_⟩
  · show 0 + acs.length ≤ ccs.size
    omega
  · show LRel _ acs ((ccs.toList.drop 0).take acs.length)
    rw [List.drop_zero, List.take_of_length_le (by simp; omega)]
    exact hc.mono (Ren.le_ext _ hA)

/-- an object of the heap turns in place -/
theorem SRel.put {ro n0 : Nat} {φ : Ren} {σ : Hp} {w w' : World} (h : SRel ro n0 φ σ w) {A : Nat} {x : Nat × Nat × Nat} (hA : φ A = some x) (hro : ro ≤ A) (hsome : (σ.get A).isSome = true) (b : ABlk)
    (hb : BRel φ b x w') (hsz : w.heap.size ≤ w'.heap.size) (hoth : ∀ k, k ≠ x.1 → k < w.heap.size → w'.heap[k]? = w.heap[k]?) :
    SRel ro n0 φ (σ.set A (some b)) w' := by
  have key : ∀ B, ((σ.set A (some b)).get B).isSome = (σ.get B).isSome := by
    intro B
    rw [Tree.get_set]
    by_cases hB : B = A
    · subst hB; simp [hsome]
    · simp [hB]
  refine ⟨?_, ?_, ?_, Nat.le_trans h.s hsz⟩
  · intro B b' e
    rw [Tree.get_set] at e
    by_cases hB : B = A
    · subst hB; rw [if_pos rfl] at e; cases e; exact ⟨x, hA, hb⟩
    · rw [if_neg hB] at e
      obtain ⟨y, hy, hr⟩ := h.h B b' e
      refine ⟨y, hy, hr.mono (Ren.le.refl φ) (hoth _ ?_ hr.lt)⟩
      exact fun heq => h.d A B x y hro (Ne.symm hB) hsome (by rw [e]; rfl) hA hy heq.symm
  · intro B y hr hs hy
    rw [key] at hs
    exact h.o B y hr hs hy
  · intro B B' y y' hr hne hs hs' hy hy'
    rw [key] at hs hs'
    exact h.d B B' y y' hr hne hs hs' hy hy'

/-- what is forgotten -/
theorem SRel.kill {ro n0 : Nat} {φ : Ren} {σ : Hp} {w : World} (h : SRel ro n0 φ σ w) (A : Nat) : SRel ro n0 φ (σ.set A none) w := by
  have key : ∀ B, ((σ.set A none).get B).isSome = true → (σ.get B).isSome = true := by
    intro B hs
    rw [Tree.get_set] at hs
    by_cases hB : B = A
    · subst hB; simp at hs
    · simpa [hB] using hs
  refine ⟨?_, fun B x hr hs hx => h.o B x hr (key B hs) hx, fun B B' x x' hr hne hs hs' hx hx' => h.d B B' x x' hr hne (key B hs) (key B' hs') hx hx', h.s⟩
  intro B b e
  rw [Tree.get_set] at e
  by_cases hB : B = A
  · subst hB; simp at e
  · rw [if_neg hB] at e; exact h.h B b e

end Go.Ev

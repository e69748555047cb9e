/- Regions told one operation after the other; rows told by their values: tables. -/
import Derived.Test.YtinmoligjcajmaaGreatDoorCk06
import Derived.RangeFuncIn
set_option linter.all false
set_option maxRecDepth 20000
set_option maxHeartbeats 6400000
set_option linter.all false
namespace Go.Vl
open Go.RowKit Go.Ev
section
variable {P : Program} {C : Cx} {w0 : Base} {w w' : World} {n : Nat} {β : Bl} {f : Fm} {st : St} {a : Act} {o : Oper} {Q : Post} {ops : Array Oper}

section
variable {B0 : Nat} {S : Nat → Prop} {K k r i : Nat} {T : TypeId} {L : List (Value × List (List V))} {u : Value} {es : List (List V)} {e : List V}
theorem FamOk.own (h : FamOk B0 S w β K T k L) (hr : L[r]? = some (u, es)) : SRep B0 S w (fun _ _ => u.ownBlock) 0 0 (.own 0 T k es) u := by
  obtain ⟨h1, ⟨us, h2, h3⟩, _⟩ := h.1 _ (List.mem_of_getElem? hr)
  exact ⟨h1, rfl, us, h2, h3⟩
theorem FamOk.len (h : FamOk B0 S w β K T k L) (hr : L[r]? = some (u, es)) : ∃ ad cap, u = .slice ad es.length cap := own_one (h.own hr)
theorem FamOk.cells (h : FamOk B0 S w β K T k L) (hr : L[r]? = some (u, es)) (hi : es[i]? = some e) : ∃ g us, u.ownBlock = some g ∧ RepL S w e us ∧ allOne e = true ∧ e.length = k ∧ ∀ j v, us[j]? = some v → w.cell? ⟨g, i * k + j, none⟩ = some v := own_cells (h.own hr) hi
theorem FamOk.apart (h : FamOk B0 S w β K T k L) (hr : L[r]? = some (u, es)) {q : Nat} {p : Value × List (List V)} (hq : L[q]? = some p) (hne : q ≠ r) {B : Nat} (hB : u.ownBlock = some B) : p.1.ownBlock ≠ some B := by
  have hp := List.pairwise_iff_getElem.1 h.2
  obtain ⟨h1, e1⟩ := List.getElem?_eq_some_iff.1 hr
  obtain ⟨h2, e2⟩ := List.getElem?_eq_some_iff.1 hq
  rcases Nat.lt_or_gt_of_ne hne with hlt | hgt
  · intro hpB
    have := hp q r h2 h1 hlt B (by rw [e2]; exact hpB)
    rw [e1] at this
    exact this hB
  · have := hp r q h1 h2 hgt B (by rw [e1]; exact hB)
    rwa [e2] at this
end

end
end Go.Vl
/- Rows come to a family, go out of it; functions that hand back a table. -/
namespace Go.Vl
open Go.RowKit Go.Ev
section
variable {P : Program} {C : Cx} {w0 : Base} {w w' : World} {n : Nat} {β : Bl} {f : Fm} {st : St} {a : Act} {o : Oper} {Q : Post} {ops : Array Oper}

/-- the headers of a family's rows, as an outer row holds them -/
def hdr (L : List (Value × List (List V))) : List (List V) := L.map fun p => [V.raw p.1]
end
end Go.Vl
/- Iterators: functions that are ranged over. -/
namespace Go.Vl
open Go.RowKit Go.Ev

/-- a call of yield -/
def Yld (P : Program) (l : Nat) (us : List Value) (w : World) (R : Bool → World → Prop) : Prop :=
  ∃ f tmps assign body, (Instr.yield l us.toArray).run P w = .ok (.round l f tmps assign body) w ∧ ∀ m, RoundIn Fence.wide m P l f tmps assign body w fun e w' => ∃ b, e = .returned (.bool b) ∧ R b w'
/-- what the rounds of a loop keep -/
structure Rounds (P : Program) (l : Nat) (L : List (List V)) (J : Option Nat → (Nat → Prop) → World → Prop) : Prop where
  grow : ∀ {j : Option Nat} {X X' : Nat → Prop} {w w' : World}, J j X w → Below w.heap.size w w' → (∀ b, X' b → b < w'.heap.size → X b ∨ w.heap.size ≤ b) → J j X' w'
  yld : ∀ {j : Nat} {e : List V} {X : Nat → Prop} {w : World} {us : List Value}, L[j]? = some e → J (some j) X w → RepL X w e us → Yld P l us w fun b w' => ∃ j', (b = true → j' = some (j + 1)) ∧ (b = false → j' = none) ∧ J j' (fun q => X q ∧ q < w.heap.size) w' ∧ (∀ q, X q → q < w.heap.size → w'.heap[q]? = w.heap[q]?) ∧ w.heap.size ≤ w'.heap.size
def bI (w : World) (X : Nat → Prop) : Base := ⟨w, X, fun _ => True, none, w.heap.size, Nat.le_refl _, false⟩
def IS (n : Nat) (X : Nat → Prop) (f : Fm) (a : Act) (w : World) : Prop := Hs (bI w X) n f a w
/-- nothing but values -/
def onlyV : St → Bool
  | [] => true
  | (_, some (.sv (.v _))) :: l => onlyV l
  | (_, none) :: l => onlyV l
  | _ => false
theorem onlyV_mem {T : St} (h : onlyV T = true) {k : Nat} {c : Cell} (e : (k, some c) ∈ T) : ∃ x, c = .sv (.v x) := by
  induction T with
  | nil => cases e
  | cons p T ih =>
    obtain ⟨q, x⟩ := p
    unfold onlyV at h
    split at h
    · rename_i he; cases he
    · rename_i he
      cases he
      rcases List.mem_cons.1 e with e | e
      · cases e; exact ⟨_, rfl⟩
      · exact ih h e
    · rename_i he
      cases he
      rcases List.mem_cons.1 e with e | e
      · cases e
      · exact ih h e
    · cases h
theorem onlyV_lk {T : St} (h : onlyV T = true) {k : Nat} {c : Cell} (e : lk T k = some c) : ∃ x, c = .sv (.v x) := onlyV_mem h (lk_mem e)

section
variable {P : Program} {C : Cx} {n : Nat} {st : St} {o : Oper} {ops : Array Oper} {l : Nat} {L : List (List V)} {J : Option Nat → (Nat → Prop) → World → Prop}

theorem IS.defers {X : Nat → Prop} {f : Fm} {a : Act} {w : World} (h : IS n X f a w) : a.defers = [] := by
  obtain ⟨β, h⟩ := h
  exact h.dfr.1.resolve_left (by simp [bI])
open Classical in
theorem IS.mk {X : Nat → Prop} {T : St} {a : Act} {w : World} (hs : a.tmps.size = n) (hd : a.defers = []) (hT : onlyV T = true) (h : ∀ d x, lk T (2 * d) = some (.sv (.v x)) → Rep X w x (a.tmps.getD d undef)) : IS n X (lk T) a w := by
  let β : Bl := fun k j => if k = 0 ∧ 0 < j ∧ j - 1 < w.heap.size ∧ ¬ X (j - 1) then some (j - 1) else none
  have hval : ∀ k j B, β k j = some B → k = 0 ∧ j = B + 1 ∧ B < w.heap.size ∧ ¬ X B := by
    intro k j B e
    dsimp only [β] at e
    split at e
    · rename_i hh
      cases e
      exact ⟨hh.1, by omega, hh.2.2⟩
    · cases e
  have hsp : ∀ b, b < w.heap.size → ¬ X b → β 0 (b + 1) = some b := by
    intro b h1 h2
    dsimp only [β]
    rw [if_pos ⟨rfl, by omega, by simpa using h1, by simpa using h2⟩]
    rfl
  have hNB : ∀ b, X b → NotB β b := fun b hs k j e => (hval _ _ _ e).2.2.2 hs
  refine ⟨β, hs, ⟨.inr hd, by simp [hd], by rw [hd]; exact .nil⟩, BelP.refl (bI w X), ?_, ?_, fun b h1 h2 _ => hsp b h1 h2, fun k j B e => .inr (.inr (by have := hval _ _ _ e; omega)), fun b _ hs => hNB b hs, fun e d id T k es e1 _ => (by obtain ⟨x, e⟩ := onlyV_lk hT e1; cases e), fun e d id k i off T es B e1 _ _ => (by obtain ⟨x, e⟩ := onlyV_lk hT e1; cases e), ?_, fun d cs e => (by obtain ⟨x, e⟩ := onlyV_lk hT e; cases e), fun d T k L e => (by obtain ⟨x, e⟩ := onlyV_lk hT e; cases e)⟩
  · intro k j k' j' B e1 e2
    have a := hval _ _ _ e1
    have b := hval _ _ _ e2
    omega
  · intro k j B e
    have a := hval _ _ _ e
    exact ⟨fun hh => by omega, a.2.2.1⟩
  · intro d x e
    obtain ⟨y, e'⟩ := onlyV_lk hT e
    cases e'
    exact (h d y e).mono fun b hb' _ => hNB b hb'
abbrev PostI := Exit → St → Option Nat → Prop
variable {Q : PostI} {j : Option Nat}
end
end Go.Vl
/- Loops over iterators. -/
namespace Go.Vl
open Go.RowKit Go.Ev

def owned (β : Bl) (b : Nat) : Prop := ∃ K J, (J = 0 ∨ K % 2 = 1) ∧ β K J = some b
/-- the base of a round -/
def bR (w : World) (β : Bl) (ex : Nat → Prop) (l lo : Nat) (h : lo ≤ w.heap.size) : Base := ⟨w, NotB β, fun b => ¬ owned β b ∧ ¬ ex b, some l, lo, h, false⟩
/-- from one stage to the next -/
structure Stg (ex : Nat → Prop) (β : Bl) (w : World) (β' : Bl) (w' : World) : Prop where
  os : w'.os = w.os
  tape : w'.tape = w.tape
  output : w'.output = w.output
  size : w.heap.size ≤ w'.heap.size
  blk : ∀ b, b < w.heap.size → ¬ owned β b → ¬ ex b → w'.heap[b]? = w.heap[b]?
  nb : ∀ b, b < w.heap.size → NotB β b → NotB β' b
  sp : ∀ b, β 0 (b + 1) = some b → b < w.heap.size → ¬ owned β b → ¬ ex b → β' 0 (b + 1) = some b
  ow : ∀ b, owned β' b → w.heap.size ≤ b ∨ owned β b ∨ ex b
theorem not_owned_of {β : Bl} {b : Nat} (h : NotB β b) : ¬ owned β b := fun ⟨K, J, _, e⟩ => h _ _ e

/-- values and pointers in slots -/
def okE : St → Bool
  | [] => true
  | (k, some (.sv (.v _))) :: l => Nat.beq (k % 2) 0 && okE l
  | (k, some (.sv (.rp _ _ _))) :: l => Nat.beq (k % 2) 0 && okE l
  | _ => false
theorem okE_mem {T : St} (h : okE T = true) {k : Nat} {c : Cell} (e : (k, some c) ∈ T) : k % 2 = 0 ∧ ((∃ x, c = .sv (.v x)) ∨ ∃ d u off, c = .sv (.rp d u off)) := by
  induction T with
  | nil => cases e
  | cons p T ih =>
    obtain ⟨q, x⟩ := p
    unfold okE at h
    split at h
    · rename_i he; cases he
    · rename_i he
      cases he
      simp only [Bool.and_eq_true] at h
      rcases List.mem_cons.1 e with e | e
      · cases e; exact ⟨Nat.eq_of_beq_eq_true h.1, .inl ⟨_, rfl⟩⟩
      · exact ih h.2 e
    · rename_i he
      cases he
      simp only [Bool.and_eq_true] at h
      rcases List.mem_cons.1 e with e | e
      · cases e; exact ⟨Nat.eq_of_beq_eq_true h.1, .inr ⟨_, _, _, rfl⟩⟩
      · exact ih h.2 e
    · cases h
/-- variables and families -/
def oddS : St → Bool
  | [] => true
  | (k, some (.bx _)) :: l => Nat.beq (k % 2) 1 && oddS l
  | (k, some (.fam _ _ _)) :: l => Nat.beq (k % 2) 1 && oddS l
  | _ => false
theorem oddS_mem {T : St} (h : oddS T = true) {k : Nat} {c : Cell} (e : (k, some c) ∈ T) : k % 2 = 1 ∧ ∀ x, c ≠ .sv x := by
  induction T with
  | nil => cases e
  | cons p T ih =>
    obtain ⟨q, x⟩ := p
    unfold oddS at h
    split at h
    · rename_i he; cases he
    · rename_i he
      cases he
      simp only [Bool.and_eq_true] at h
      rcases List.mem_cons.1 e with e | e
      · cases e; exact ⟨Nat.eq_of_beq_eq_true h.1, fun x e => by cases e⟩
      · exact ih h.2 e
    · rename_i he
      cases he
      simp only [Bool.and_eq_true] at h
      rcases List.mem_cons.1 e with e | e
      · cases e; exact ⟨Nat.eq_of_beq_eq_true h.1, fun x e => by cases e⟩
      · exact ih h.2 e
    · cases h
theorem lk_oe {O E : St} (hO : oddS O = true) (hE : okE E = true) {k : Nat} {c : Cell} (e : lk (O ++ E) k = some c) : (k % 2 = 1 ∧ (k, some c) ∈ O ∧ ∀ x, c ≠ .sv x) ∨ (k % 2 = 0 ∧ lk E k = some c ∧ ((∃ x, c = .sv (.v x)) ∨ ∃ d u off, c = .sv (.rp d u off))) := by
  have hm := lk_mem e
  rcases List.mem_append.1 hm with hm | hm
  · have := oddS_mem hO hm
    exact .inl ⟨this.1, hm, this.2⟩
  · have h := okE_mem hE hm
    refine .inr ⟨h.1, ?_, h.2⟩
    rw [lk_append] at e
    rcases app_mem e with h1 | h1
    · have := (oddS_mem hO h1).1; omega
    · exact h1
section
variable {P : Program} {C : Cx} {w0 : Base} {w w' : World} {n l : Nat} {β β' : Bl} {f : Fm} {a : Act} {ex : Nat → Prop}
theorem HB.notOwned (h : HB w0 n β f a w) {q : Nat} (hq : β 0 (q + 1) = some q) : ¬ owned β q := fun ⟨K, J, hj, e⟩ => by
  have := h.inj _ _ _ _ _ e hq
  omega
theorem Stg.trans {β2 : Bl} {w2 : World} (h : Stg ex β w β' w') (k : Stg ex β' w' β2 w2) : Stg ex β w β2 w2 where
  os := k.os.trans h.os
  tape := k.tape.trans h.tape
  output := k.output.trans h.output
  size := Nat.le_trans h.size k.size
  blk b h1 h2 h3 := (k.blk b (Nat.lt_of_lt_of_le h1 h.size) (fun ho => by
    rcases h.ow b ho with h4 | h4 | h4
    · omega
    · exact h2 h4
    · exact h3 h4) h3).trans (h.blk b h1 h2 h3)
  nb b h1 h2 := k.nb b (Nat.lt_of_lt_of_le h1 h.size) (h.nb b h1 h2)
  sp b h1 h2 h3 h4 := k.sp b (h.sp b h1 h2 h3 h4) (Nat.lt_of_lt_of_le h2 h.size) (fun ho => by
    rcases h.ow b ho with h5 | h5 | h5
    · omega
    · exact h3 h5
    · exact h4 h5) h4
  ow b hb := by
    rcases k.ow b hb with h1 | h1 | h1
    · exact .inl (Nat.le_trans h.size h1)
    · exact h.ow b h1
    · exact .inr (.inr h1)
/-- what the slots and variables hold -/
structure Cont (lo n : Nat) (β : Bl) (f : Fm) (a : Act) (w : World) : Prop where
  inj : ∀ k j k' j' B, β k j = some B → β k' j' = some B → k = k' ∧ j = j'
  rng : ∀ k j B, β k j = some B → B < w.heap.size
  spk : ∀ k j B, β k j = some B → j = 0 ∨ k % 2 = 1 ∨ (k = 0 ∧ j = B + 1)
  slot : ∀ d x, f (2 * d) = some (.sv x) → SRep lo (NotB β) w β (2 * d) 0 x (a.tmps.getD d undef)
  box : ∀ d cs, f (2 * d + 1) = some (.bx cs) → ∃ (B : Nat) (T : TypeId) (us : List Value), β (2 * d + 1) 0 = some B ∧ w.heap[B]? = some (.cells us.toArray T (0, 0)) ∧ us.length = cs.length ∧
    ∀ j x u, cs[j]? = some x → us[j]? = some u → SRep lo (NotB β) w β (2 * d + 1) (j + 1) x u ∧ u.oneCell' = true ∧ cellOk x = true
  fm : ∀ d T k L, f (2 * d + 1) = some (.fam T k L) → FamOk lo (NotB β) w β (2 * d + 1) T k L
/-- a round begins -/
theorem Cont.round {lo : Nat} (h : Cont lo n β f a w) (hlo : lo ≤ w.heap.size) (hsz : a.tmps.size = n) (hd : a.defers = []) (hal : ∀ k d id, f k ≠ some (.sv (.al d id))) (hat : ∀ k d id q i off, f k ≠ some (.sv (.at d id q i off))) : HB (bR w β ex l lo hlo) n β f a w := by
  refine ⟨hsz, ⟨.inr hd, by simp [hd], by rw [hd]; exact .nil⟩, BelP.refl _, h.inj, fun k j B e => ⟨fun hj => .inr fun hk => hk.1 ⟨k, j, hj, e⟩, h.rng k j B e⟩, fun b h1 h2 h3 => ?_, h.spk, fun b _ hb => hb, fun e d id T k es e1 _ => absurd e1 (hal _ _ _), fun e d id k i off T es B e1 _ _ => absurd e1 (hat _ _ _ _ _ _), h.slot, h.box, h.fm⟩
  have : ∃ k j, β k j = some b := by
    apply Classical.byContradiction
    intro hh
    exact h2 fun k j e => hh ⟨k, j, e⟩
  obtain ⟨k, j, e⟩ := this
  rcases h.spk _ _ _ e with hj | hj | ⟨hk, hj⟩
  · exact absurd ⟨k, j, .inl hj, e⟩ h3.1
  · exact absurd ⟨k, j, .inr hj, e⟩ h3.1
  · rw [hk, hj] at e; exact e

/-- back in the frame whose loop it is -/
theorem HB.back {O O' E : St} {a3 : Act} (hO : oddS O = true) (hO' : oddS O' = true) (hE : okE E = true) (h : HB w0 n β (lk (O ++ E)) a w) (hs : Stg (fun b => b = l) β w β' w') (hl : β 0 (l + 1) = some l) (hlw : w0.heap.size ≤ l) (hlm : ∀ o, w.heap[l]? ≠ some (.deferred o)) (hc : Cont w0.lo n β' (lk (O' ++ E)) a3 w') : HB w0 n β' (lk (O' ++ E)) a w' := by
  have hkeep : ∀ b, NotB β b → b < w.heap.size → NotB β' b ∧ w'.heap[b]? = w.heap[b]? := fun b hb hlt => ⟨hs.nb b hlt hb, hs.blk b hlt (not_owned_of hb) (fun e => by subst e; exact hb _ _ hl)⟩
  have hspec : ∀ q, β 0 (q + 1) = some q → q ≠ l → β' 0 (q + 1) = some q ∧ w'.heap[q]? = w.heap[q]? := fun q hq hne => ⟨hs.sp q hq (h.rng _ _ _ hq).2 (h.notOwned hq) hne, hs.blk q (h.rng _ _ _ hq).2 (h.notOwned hq) hne⟩
  refine ⟨h.size, ⟨h.dfr.1, fun d hd => ?_, h.dfr.2.2⟩, ?_, hc.inj, fun k j B e => ⟨fun hj => ?_, hc.rng k j B e⟩, fun b h1 h2 h3 => ?_, hc.spk, fun b h1 h2 => (hkeep b (h.od b h1 h2) (Nat.lt_of_lt_of_le h1 h.base)).1, fun e d id T k es e1 _ => ?_, fun e d id k i off T es B e1 _ _ => ?_, fun d x e => ?_, hc.box, hc.fm⟩
  · obtain ⟨r, h1, h2, h3, h4⟩ := h.dfr.2.1 d hd
    have hne : r ≠ l := fun e => by subst e; exact hlm _ h4
    exact ⟨r, h1, (hspec r h2 hne).1, h3, (hspec r h2 hne).2.trans h4⟩
  · refine ⟨hs.os.trans h.bel.os, hs.tape.trans h.bel.tape, hs.output.trans h.bel.output, Nat.le_trans h.base hs.size, fun b h1 h2 => ?_⟩
    refine (hs.blk b (Nat.lt_of_lt_of_le h1 h.base) (fun ho => ?_) (fun e => by omega)).trans (h.bel.block b h1 h2)
    obtain ⟨K, J, hj, e⟩ := ho
    rcases (h.rng _ _ _ e).1 hj with h3 | h3
    · omega
    · exact h3 h2
  · rcases hs.ow B ⟨k, j, hj, e⟩ with h1 | ⟨K, J, hj', e'⟩ | h1
    · exact .inl (Nat.le_trans h.base h1)
    · exact (h.rng _ _ _ e').1 hj'
    · subst h1; exact .inl hlw
  · exact (hspec b (h.sp b h1 h2 h3) (fun e => by omega)).1
  · rcases lk_oe hO' hE e1 with ⟨_, _, h2⟩ | ⟨_, _, ⟨x, h2⟩ | ⟨d, u, off, h2⟩⟩
    · exact absurd rfl (h2 _)
    · cases h2
    · cases h2
  · rcases lk_oe hO' hE e1 with ⟨_, _, h2⟩ | ⟨_, _, ⟨x, h2⟩ | ⟨d, u, off, h2⟩⟩
    · exact absurd rfl (h2 _)
    · cases h2
    · cases h2
  · have hnew := hc.slot d x e
    rcases lk_oe hO' hE e with ⟨_, _, h2⟩ | ⟨_, hlk, h2⟩
    · exact absurd rfl (h2 _)
    · have hold : lk (O ++ E) (2 * d) = some (.sv x) := by
        rw [lk_append]
        cases hq : app O (lk E) (2 * d) with
        | none =>
          have : 2 * d ∉ keys O := fun hm => ?_
          · rw [app_notin this] at hq; rw [hlk] at hq; cases hq
          · clear hq
            have key : ∀ O : St, oddS O = true → 2 * d ∉ keys O := by
              intro O
              induction O with
              | nil => intro _ h; cases h
              | cons p O ih =>
                intro ho hm
                obtain ⟨k, c⟩ := p
                simp only [keys, List.mem_cons] at hm
                unfold oddS at ho
                split at ho
                · rename_i he; cases he
                · rename_i he
                  cases he
                  simp only [Bool.and_eq_true] at ho
                  have := Nat.eq_of_beq_eq_true ho.1
                  rcases hm with hm | hm
                  · omega
                  · exact ih ho.2 hm
                · rename_i he
                  cases he
                  simp only [Bool.and_eq_true] at ho
                  have := Nat.eq_of_beq_eq_true ho.1
                  rcases hm with hm | hm
                  · omega
                  · exact ih ho.2 hm
                · cases ho
            exact key O hO hm
        | some c =>
          rcases app_mem hq with hm | hm
          · have := (oddS_mem hO hm).1; omega
          · rw [hlk] at hm; rw [← hm]
      have hs0 := h.slot d x hold
      rcases h2 with ⟨y, h2⟩ | ⟨d', u, off, h2⟩
      · cases h2
        exact SRep.keep (x := .v y) hs0 hkeep (fun hh => by cases hh) (fun hh => by cases hh) (fun _ _ hh => hh.elim)
      · cases h2
        exact ⟨hs0.1, hnew.2⟩
end
end Go.Vl
/- The loop over an iterator, as a step of the walk. -/
namespace Go.Vl
open Go.RowKit Go.Ev

section
variable {P : Program} {C : Cx} {w0 : Base} {w w' : World} {n l : Nat} {β β' : Bl} {f : Fm} {a : Act} {st : St} {Q : Post}

end
end Go.Vl
/- Variables whose place is told; functions that hold loops over iterators. -/
namespace Go.Vl
open Go.RowKit Go.Ev
section
variable {P : Program} {C : Cx} {w0 : Base} {n : Nat} {st : St} {Q : Post} {ops : Array Oper}
end
end Go.Vl
/- Texts: bytes of them, parts of them. -/
namespace Go.Vl
open Go.RowKit Go.Ev
abbrev tx (l : List UInt8) : ByteArray := ⟨l.toArray⟩
theorem tx_extract (l : List UInt8) (a h : Nat) : (tx l).extract a h = tx ((l.take h).drop a) := by
  apply ByteArray.ext
  simp only [ByteArray.data_extract, tx]
  apply Array.ext'
  simp [List.drop_take]
theorem tx_size (l : List UInt8) : (tx l).size = l.length := by show l.toArray.size = _; simp
section
variable {P : Program} {C : Cx} {w0 : Base} {n : Nat} {st : Fm} {o : Oper}
theorem sem_tLen (hC : CxOk P C) {x : Operand} {k : Call} {t : TypeId} {l : List UInt8} {m : Nat} (hop : o.op = .call k) (hk : k.callee = .builtin .len) (ha : k.args = #[x]) (ht : k.argTypes = #[t]) (hu : C.und t = some .string) (hx : opv st x = some (.v (.str (tx l)))) (hm : l.length = m)
    (hd : dLt n o.dst = true) : OpSem P w0 n o (rdO x) (dput o.dst (some (.sv (.v (.int .i64 (m : Nat)))))) [] st :=
  sem_pure hd fun f hf β a w hh => by
    have e1 := hh.val (x := x) (y := .str (tx l)) (by rw [opv_congr hf]; exact hx)
    generalize hv : a.eval x = v at e1
    cases e1
    obtain ⟨r, h1, h2⟩ := eLen_ok (P := P) (w := w) (φ := fun _ => none) hC (ts := [t]) (x := .str (tx l)) (v := .int .i64 (.ofNat (tx l).size)) (by simp only [eLen, hu]) (.str _) o.type []
    cases h2
    rw [tx_size, hm] at h1
    exact ⟨_, by simp only [execOp, hop, resolve, hk, ha, ht]; simp [invoke, builtin, hv]; rw [h1]; rfl, .int _ _⟩
theorem sem_tIx (hC : CxOk P C) {x y : Operand} {t : TypeId} {l : List UInt8} {c : UInt8} {k : IntKind} {q : Int} (i : Nat) (hc : l[i]? = some c) (hop : o.op = .index t x y) (hx : opv st x = some (.v (.str (tx l)))) (hy : opv st y = some (.v (.int k q))) (hq : q = (i : Nat)) (hu : C.und t = some .string)
    (hd : dLt n o.dst = true) : OpSem P w0 n o (rdO x ++ rdO y) (dput o.dst (some (.sv (.v (.int .u8 (c.toNat : Nat)))))) [] st :=
  sem_pure hd fun f hf β a w hh => by
    obtain ⟨h1, h2⟩ := agree1 hf
    have e1 := hh.val (x := x) (y := .str (tx l)) (by rw [opv_congr h1]; exact hx)
    have e2 := hh.val (x := y) (y := .int k q) (by rw [opv_congr h2]; exact hy)
    generalize hv : a.eval x = v at e1
    generalize hv2 : a.eval y = v2 at e2
    cases e1; cases e2
    subst hq
    have hb : (tx l)[i]? = some c := by
      have hlt := (List.getElem?_eq_some_iff.1 hc).1
      have : i < (tx l).size := by rw [tx_size]; exact hlt
      rw [getElem?_pos (tx l) i this]
      show some (l.toArray[i]) = some c
      rw [List.getElem_toArray]
      rw [← hc, List.getElem?_eq_getElem hlt]
    obtain ⟨r, g1, g2⟩ := eIndex_ok (P := P) (w := w) (φ := fun _ => none) hC (t := t) (a := .str (tx l)) (i := .int k (.ofNat i)) (v := .int .u8 (.ofNat c.toNat)) (by simp only [eIndex, hu, hb]) (.str _) (.int _ _)
    cases g2
    refine ⟨_, ?_, .int _ _⟩
    simp only [execOp, hop, hv, hv2]
    have g1' : (Instr.index t (.string (tx l)) (.int k (i : Nat))).run P w = .ok (.int .u8 (c.toNat : Nat)) w := g1
    simp [g1']
theorem str_slice (hC : CxOk P C) {t : TypeId} {l l' : List UInt8} {lo hi : Option Nat} {a h : Nat} {vl vh : Option Value} {w : World} (hu : C.und t = some .string) (hl : intV lo vl) (hh : intV hi vh) (ha : lo.getD 0 = a) (hb : hi.getD l.length = h) (h1 : a ≤ h) (h2 : h ≤ l.length) (he : (l.take h).drop a = l') :
    (Instr.sliceAt t (.string (tx l)) vl vh none).run P w = .ok (.string (tx l')) w := by
  have hbd : bounds3 (tx l).size (tx l).size lo hi none = some (a, h, (tx l).size) := by
    unfold bounds3
    rw [tx_size]
    simp only [Option.getD_none, ha, hb]
    have b1 : Nat.ble l.length l.length = true := by rw [Nat.ble_eq]; exact Nat.le_refl _
    have b2 : Nat.ble h l.length = true := by rw [Nat.ble_eq]; omega
    have b3 : Nat.ble a h = true := by rw [Nat.ble_eq]; exact h1
    rw [b1, b2, b3]
    rfl
  obtain ⟨r, g1, g2⟩ := eSlice_ok (P := P) (w := w) (φ := fun _ => none) hC (t := t) (x := .str (tx l)) (lo := lo) (hi := hi) (mx := none) (v := .str ((tx l).extract a h)) (by simp only [eSlice, hu, hbd]) (.str _) hl hh (vm := none) rfl
  cases g2
  rw [tx_extract, he] at g1
  exact g1
theorem sem_tMid (hC : CxOk P C) {x y z : Operand} {t : TypeId} {l : List UInt8} {k k' : IntKind} {q q' : Int} (i h : Nat) {l' : List UInt8} (h1 : i ≤ h) (h2 : h ≤ l.length) (he : (l.take h).drop i = l') (hop : o.op = .slice t x (some y) (some z) none) (hx : opv st x = some (.v (.str (tx l)))) (hy : opv st y = some (.v (.int k q))) (hz : opv st z = some (.v (.int k' q'))) (hq : q = (i : Nat)) (hq' : q' = (h : Nat)) (hu : C.und t = some .string)
    (hd : dLt n o.dst = true) : OpSem P w0 n o (rdO x ++ (rdO y ++ rdO z)) (dput o.dst (some (.sv (.v (.str (tx l')))))) [] st :=
  sem_pure hd fun f hf β a w hh => by
    obtain ⟨g1, g23⟩ := agree1 hf
    obtain ⟨g2, g3⟩ := agree1 g23
    have e1 := hh.val (x := x) (y := .str (tx l)) (by rw [opv_congr g1]; exact hx)
    have e2 := hh.val (x := y) (y := .int k q) (by rw [opv_congr g2]; exact hy)
    have e3 := hh.val (x := z) (y := .int k' q') (by rw [opv_congr g3]; exact hz)
    generalize hv : a.eval x = v at e1
    generalize hv2 : a.eval y = v2 at e2
    generalize hv3 : a.eval z = v3 at e3
    cases e1; cases e2; cases e3
    subst hq; subst hq'
    have := str_slice (P := P) (w := w) hC (lo := some i) (hi := some h) hu (vl := some (.int k (i : Nat))) (vh := some (.int k' (h : Nat))) ⟨k, rfl⟩ ⟨k', rfl⟩ rfl rfl h1 h2 he
    exact ⟨_, by simp [execOp, hop, hv, hv2, hv3, this], .str _⟩
theorem sem_tTo (hC : CxOk P C) {x z : Operand} {t : TypeId} {l : List UInt8} {k' : IntKind} {q' : Int} (h : Nat) {l' : List UInt8} (h2 : h ≤ l.length) (he : l.take h = l') (hop : o.op = .slice t x none (some z) none) (hx : opv st x = some (.v (.str (tx l)))) (hz : opv st z = some (.v (.int k' q'))) (hq' : q' = (h : Nat)) (hu : C.und t = some .string)
    (hd : dLt n o.dst = true) : OpSem P w0 n o (rdO x ++ rdO z) (dput o.dst (some (.sv (.v (.str (tx l')))))) [] st :=
  sem_pure hd fun f hf β a w hh => by
    obtain ⟨g1, g3⟩ := agree1 hf
    have e1 := hh.val (x := x) (y := .str (tx l)) (by rw [opv_congr g1]; exact hx)
    have e3 := hh.val (x := z) (y := .int k' q') (by rw [opv_congr g3]; exact hz)
    generalize hv : a.eval x = v at e1
    generalize hv3 : a.eval z = v3 at e3
    cases e1; cases e3
    subst hq'
    have := str_slice (P := P) (w := w) (l' := l') hC (lo := none) (hi := some h) hu (vl := none) (vh := some (.int k' (h : Nat))) rfl ⟨k', rfl⟩ rfl rfl (Nat.zero_le _) h2 (by simpa using he)
    exact ⟨_, by simp [execOp, hop, hv, hv3, this], .str _⟩
theorem sem_tFrom (hC : CxOk P C) {x y : Operand} {t : TypeId} {l : List UInt8} {k : IntKind} {q : Int} (i : Nat) {l' : List UInt8} (h1 : i ≤ l.length) (he : l.drop i = l') (hop : o.op = .slice t x (some y) none none) (hx : opv st x = some (.v (.str (tx l)))) (hy : opv st y = some (.v (.int k q))) (hq : q = (i : Nat)) (hu : C.und t = some .string)
    (hd : dLt n o.dst = true) : OpSem P w0 n o (rdO x ++ rdO y) (dput o.dst (some (.sv (.v (.str (tx l')))))) [] st :=
  sem_pure hd fun f hf β a w hh => by
    obtain ⟨g1, g2⟩ := agree1 hf
    have e1 := hh.val (x := x) (y := .str (tx l)) (by rw [opv_congr g1]; exact hx)
    have e2 := hh.val (x := y) (y := .int k q) (by rw [opv_congr g2]; exact hy)
    generalize hv : a.eval x = v at e1
    generalize hv2 : a.eval y = v2 at e2
    cases e1; cases e2
    subst hq
    have := str_slice (P := P) (w := w) (l' := l') hC (lo := some i) (hi := none) hu (vl := some (.int k (i : Nat))) (vh := none) ⟨k, rfl⟩ rfl rfl rfl h1 (Nat.le_refl _) (by simpa using he)
    exact ⟨_, by simp [execOp, hop, hv, hv2, this], .str _⟩
theorem tx_beq (l m : List UInt8) : ((tx l).toList == (tx m).toList) = decide (l = m) := by
  rw [ByteArray.toList_mk, ByteArray.toList_mk]
  by_cases h : l = m
  · simp [h]
  · rw [decide_eq_false h]; simpa using h
theorem sem_tEq {x y : Operand} {t yt : TypeId} {l m : List UInt8} (b : Bool) (hb : decide (l = m) = b) (hop : o.op = .binOp .eql t x y yt) (hx : opv st x = some (.v (.str (tx l)))) (hy : opv st y = some (.v (.str (tx m))))
    (hd : dLt n o.dst = true) : OpSem P w0 n o (rdO x ++ rdO y) (dput o.dst (some (.sv (.v (.bool b))))) [] st :=
  sem_pure hd fun f hf β a w hh => by
    obtain ⟨g1, g2⟩ := agree1 hf
    have e1 := hh.val (x := x) (y := .str (tx l)) (by rw [opv_congr g1]; exact hx)
    have e2 := hh.val (x := y) (y := .str (tx m)) (by rw [opv_congr g2]; exact hy)
    generalize hv : a.eval x = v at e1
    generalize hv2 : a.eval y = v2 at e2
    cases e1; cases e2
    have hg : (eqGuard .eql t x y (.string (tx l)) (.string (tx m))).run P w = .ok () w := by unfold eqGuard; split <;> simp
    exact ⟨_, by simp only [execOp, hop, hv, hv2]; rw [← hb, ← tx_beq]; simp [hg, binOp, Op.stringOp], .bool _⟩
end
section
variable {P : Program} {C : Cx} {w0 : Base} {n : Nat} {st : St} {Q : Post} {ops : Array Oper} {id k : Nat} {dr : Bool} {st0 : St} {acc : List Stp} {o : Oper}
def offV (b : Bool) : V → Bool
  | .bool c => c == !b
  | .tup [] => true
  | _ => false
theorem stepOk_off {j d : Nat} {b : Bool} {x : V} {f : Fm} (ho : ops[k]? = some o) (hg : o.guard = some (j, b)) (hj : gSlot ops j = some d) (hd : d < n) (hv : f (2 * d) = some (.sv (.v x))) (hx : offV b x = true)
    (hdd : dLt n o.dst = true) : StepOk P w0 n ops k ⟨[2 * d], dput o.dst (some (.sv (.v (.tup [])))), []⟩ f := by
  intro g hr hn a w ⟨β, hh⟩ K Q hK
  have hslot := hh.slot d _ (by rw [hr _ (List.mem_cons_self ..)]; exact hv)
  have hy : yielded ops a.tmps j ≠ some b := by
    unfold yielded
    unfold gSlot at hj
    rw [Array.getElem?_toList] at hj
    cases hq : ops[j]? with
    | none => rw [hq] at hj; cases hj
    | some q =>
      rw [hq] at hj
      dsimp only at hj
      simp only [Option.bind_some, hj]
      have hlt : d < a.tmps.size := by rw [hh.size]; exact hd
      rw [Array.getD_eq_getD_getElem?, Array.getElem?_eq_getElem hlt, Option.getD_some] at hslot
      simp only [SRep] at hslot
      rw [Array.getElem?_eq_getElem hlt]
      generalize a.tmps[d] = v at hslot
      unfold offV at hx
      split at hx
      · rename_i c
        cases hslot
        have : c = !b := by simpa using hx
        subst this
        cases b <;> simp
      · cases hslot with
        | tup h => cases h; simp
      · cases hx
  unfold wpOp
  rw [ho]
  dsimp only
  rw [if_neg (by simp [Region.wanted, hg]; exact hy)]
  refine hK _ _ ⟨β, ?_⟩
  exact hh.dput hdd rfl fun _ => .tup .nil
theorem rr_off {j d : Nat} {b : Bool} {x : V} (ho : ops.toList[k]? = some o) (hg : o.guard = some (j, b)) (hj : gSlot ops j = some d) (hd : Nat.blt d n = true) (hv : lk st (2 * d) = some (.sv (.v x))) (hx : offV b x = true)
    (hdd : dLt n o.dst = true) (hk : RR P w0 n id ops dr Q st0 (k + 1) (⟨[2 * d], dput o.dst (some (.sv (.v (.tup [])))), []⟩ :: acc) (dput o.dst (some (.sv (.v (.tup [])))) ++ st)) : RR P w0 n id ops dr Q st0 k acc st :=
  fun ht => hk (ht.snoc (x := ⟨[2 * d], dput o.dst (some (.sv (.v (.tup [])))), []⟩) (stepOk_off (by simpa using ho) hg hj (by simpa using hd) hv hx hdd) fun K hK => by cases hK)
end
section
variable {P : Program} {w0 : Base} {n : Nat} {st : St} {Q Q' : Post} {c y t : Code}
theorem vw_monoK (hv : VW P w0 n c Q' st) (h : ∀ e a w, kq w0 n Q' e a w → kq w0 n Q e a w) : VW P w0 n c Q st := fun a w hh => wpIn_mono (hv a w hh) (h · · ·)
theorem kq_block (lb : Nat) (h : ∀ e a w, kq w0 n Q' e a w → kq w0 n Q e a w) : ∀ e a w, kq w0 n (inBlockV lb Q') e a w → kq w0 n (inBlockV lb Q) e a w := by
  rintro e a w ⟨st', h1, h2⟩
  cases e with
  | «exit» k =>
    simp only [inBlockV] at h1
    by_cases hk : k = lb
    · rw [if_pos hk] at h1
      obtain ⟨s2, g1, g2⟩ := h .normal a w ⟨st', h1, h2⟩
      exact ⟨s2, by simp only [inBlockV]; rw [if_pos hk]; exact g1, g2⟩
    · rw [if_neg hk] at h1
      obtain ⟨s2, g1, g2⟩ := h (.exit k) a w ⟨st', h1, h2⟩
      exact ⟨s2, by simp only [inBlockV]; rw [if_neg hk]; exact g1, g2⟩
  | _ =>
    obtain ⟨s2, g1, g2⟩ := h _ a w ⟨st', h1, h2⟩
    exact ⟨s2, g1, g2⟩
theorem kq_then (h : ∀ e a w, kq w0 n Q' e a w → kq w0 n Q e a w) : ∀ e a w, kq w0 n (thenV (fun s => VW P w0 n y Q' s) Q') e a w → kq w0 n (thenV (fun s => VW P w0 n y Q s) Q) e a w := by
  rintro e a w ⟨st', h1, h2⟩
  cases e with
  | normal => exact ⟨st', vw_monoK (P := P) h1 h, h2⟩
  | _ =>
    obtain ⟨s2, g1, g2⟩ := h _ a w ⟨st', h1, h2⟩
    exact ⟨s2, g1, g2⟩
theorem kq_meet {B : Type} (T : B → St) (I : B → Prop) (hfl : ∀ b, flat (T b) = true) (hk : ∀ b, I b → VW P w0 n t Q (T b)) : ∀ e a w, kq w0 n (thenV (fun s => ∃ b, I b ∧ sub (T b) (lk s)) Q) e a w → kq w0 n (thenV (fun s => VW P w0 n t Q s) Q) e a w := by
  rintro e a w ⟨st', h1, h2⟩
  cases e with
  | normal =>
    obtain ⟨b, g1, g2⟩ := h1
    exact ⟨T b, hk b g1, h2.sub g2 (hfl _)⟩
  | _ => exact ⟨st', h1, h2⟩
/-- a walk that stands at a block's first region: all ways that leave the block are told alike -/
theorem rr_meet {id : Nat} {ops : Array Oper} {dr : Bool} {lb : Nat} {B : Type} (T : B → St) (I : B → Prop) (hfl : ∀ b, flat (T b) = true)
    (h : VW P w0 n (.region id ops dr) (thenV (fun s => VW P w0 n y (inBlockV lb (thenV (fun s => ∃ b, I b ∧ sub (T b) (lk s)) Q)) s) (inBlockV lb (thenV (fun s => ∃ b, I b ∧ sub (T b) (lk s)) Q))) st) (hk : ∀ b, I b → VW P w0 n t Q (T b)) :
    RR P w0 n id ops dr (thenV (fun s => VW P w0 n y (inBlockV lb (thenV (fun s => VW P w0 n t Q s) Q)) s) (inBlockV lb (thenV (fun s => VW P w0 n t Q s) Q))) st 0 [] st :=
  fun _ => vw_monoK h (kq_then (kq_block lb (kq_meet T I hfl hk)))
end
end Go.Vl

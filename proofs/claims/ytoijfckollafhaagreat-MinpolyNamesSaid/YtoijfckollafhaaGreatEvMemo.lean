/- Calls that are known: a table of them as a hook. -/
import Derived.Test.YtoijfckollafhaaGreatEvCx
namespace Go.Ev
open Go.RowKit

structure Ent where
  f : FuncId
  key : Nat
  m : Nat
  args : List AV
  v : AV
  blks : List (List AV)

abbrev Env := Tree (Nat × Nat)

def listT : Nat → List (List AV) → Tree (List AV) → Tree (List AV)
  | _, [], t => t
  | i, b :: bs, t => listT (i + 1) bs (t.set i (some b))
def Ent.K (e : Ent) : Tree (List AV) := listT 0 e.blks .lf
def Ent.KA (e : Ent) : Tree (List AV) := listT 0 (e.blks.take e.m) .lf
def Ent.n (e : Ent) : Nat := e.blks.length

def baseHp : Nat → Nat → List (List AV) → Hp → Hp
  | 0, _, _, σ => σ
  | _ + 1, _, [], σ => σ
  | m + 1, i, b :: bs, σ => baseHp m (i + 1) bs (σ.set i (some (.cells b)))
def idEnv : Nat → Env → Env
  | 0, t => t
  | i + 1, t => idEnv i (t.set i (some (i, 0)))

def zipX : List AV → List AV → List (AV × AV) → Option (List (AV × AV))
  | [], [], ps => some ps
  | a :: as, b :: bs, ps => match zipX as bs ps with
    | some r => some ((a, b) :: r)
    | none => none
  | _, _, _ => none

/-- values against values in other numbers -/
def mt (σ : Hp) (K : Tree (List AV)) : Nat → Env → List (AV × AV) → Option Env
  | 0, _, _ => none
  | _ + 1, E, [] => some E
  | n + 1, E, (a, b) :: ps =>
    let link (A off i off' : Nat) : Option Env :=
      match E.get i with
      | some (A', sh) => bif Nat.beq A A' && Nat.beq (sh + off') off then mt σ K n E ps else none
      | none => bif Nat.ble off' off then
          match K.get i, σ.get A with
          | some kc, some (.cells ac) => bif Nat.ble (off - off' + kc.length) ac.length then
              match lsub ac (off - off') kc.length with
              | some seg => match zipX seg kc ps with
                | some qs => mt σ K n (E.set i (some (A, off - off'))) qs
                | none => none
              | none => none
            else none
          | _, _ => none
        else none
    match b, a with
    | .bool y, .bool x => bif x == y then mt σ K n E ps else none
    | .int k' y, .int k x => if k = k' ∧ x = y then mt σ K n E ps else none
    | .str s', .str s => if s.data.toList = s'.data.toList then mt σ K n E ps else none
    | .ptr i off', .ptr A off => link A off i off'
    | .sl i off' len' cap' esz' ex', .sl A off len cap esz ex =>
      bif Nat.beq len len' && Nat.beq esz esz' && Nat.ble cap' cap && Nat.ble len' cap' && (!ex' || (ex && Nat.beq cap cap')) then link A off i off' else none
    | .nilp, .nilp => mt σ K n E ps
    | .nils, .nils => mt σ K n E ps
    | .sle, .sle => mt σ K n E ps
    | .nilf, .nilf => mt σ K n E ps
    | .nili, .nili => mt σ K n E ps
    | .nilm, .nilm => mt σ K n E ps
    | .fn f' fs' cs', .fn f fs cs => if f = f' then
        match zipX cs cs' ps with
        | some qs => match zipX fs fs' qs with
          | some rs => mt σ K n E rs
          | none => none
        | none => none
      else none
    | .ifc t' v', .ifc t v => bif Nat.beq t t' then mt σ K n E ((v, v') :: ps) else none
    | .agg cs', .agg cs => match zipX cs cs' ps with
      | some qs => mt σ K n E qs
      | none => none
    | .tup cs', .tup cs => match zipX cs cs' ps with
      | some qs => mt σ K n E qs
      | none => none
    | _, _ => none

mutual
inductive MRel (e : Nat → Option (Nat × Nat)) : AV → AV → Prop
  | bool (b : Bool) : MRel e (.bool b) (.bool b)
  | int (k : IntKind) (n : Int) : MRel e (.int k n) (.int k n)
  | str (s s' : ByteArray) (h : s = s') : MRel e (.str s) (.str s')
  | ptr {A i sh off' : Nat} (h : e i = some (A, sh)) : MRel e (.ptr A (sh + off')) (.ptr i off')
  | sl {A i sh off' len cap cap' esz : Nat} {ex ex' : Bool} (h : e i = some (A, sh)) (h1 : cap' ≤ cap) (h2 : len ≤ cap') (h3 : ex' = true → ex = true ∧ cap = cap') : MRel e (.sl A (sh + off') len cap esz ex) (.sl i off' len cap' esz ex')
  | nilp : MRel e .nilp .nilp
  | nils : MRel e .nils .nils
  | sle : MRel e .sle .sle
  | nilf : MRel e .nilf .nilf
  | nili : MRel e .nili .nili
  | nilm : MRel e .nilm .nilm
  | fn {f : Fn} {fs cs fs' cs' : List AV} (h : MList e fs fs') (k : MList e cs cs') : MRel e (.fn f fs cs) (.fn f fs' cs')
  | ifc {t : TypeId} {v v' : AV} (h : MRel e v v') : MRel e (.ifc t v) (.ifc t v')
  | agg {cs cs' : List AV} (h : MList e cs cs') : MRel e (.agg cs) (.agg cs')
  | tup {cs cs' : List AV} (h : MList e cs cs') : MRel e (.tup cs) (.tup cs')
inductive MList (e : Nat → Option (Nat × Nat)) : List AV → List AV → Prop
  | nil : MList e [] []
  | cons {a b : AV} {as bs : List AV} (h : MRel e a b) (t : MList e as bs) : MList e (a :: as) (b :: bs)
end

theorem zipX_spec : ∀ {as bs : List AV} {ps qs : List (AV × AV)}, zipX as bs ps = some qs → ∀ {e : Nat → Option (Nat × Nat)}, (∀ p ∈ qs, MRel e p.1 p.2) → MList e as bs ∧ ∀ p ∈ ps, MRel e p.1 p.2
  | [], [], ps, qs, h, e, k => by cases h; exact ⟨.nil, k⟩
  | [], _ :: _, _, _, h, _, _ => by cases h
  | _ :: _, [], _, _, h, _, _ => by cases h
  | a :: as, b :: bs, ps, qs, h, e, k => by
    simp only [zipX] at h
    split at h
    · rename_i r hr
      cases h
      obtain ⟨h1, h2⟩ := zipX_spec hr fun p hp => k p (by simp [hp])
      exact ⟨.cons (k (a, b) (by simp)) h1, h2⟩
    · cases h

def EnvLe (E E' : Env) : Prop := ∀ i x, E.get i = some x → E'.get i = some x

/-- what a match tells of the blocks that it has met -/
def BlkOk (σ : Hp) (K : Tree (List AV)) (E : Env) (i A sh : Nat) : Prop :=
  ∃ kc ac seg, K.get i = some kc ∧ σ.get A = some (.cells ac) ∧ sh + kc.length ≤ ac.length ∧ lsub ac sh kc.length = some seg ∧ MList E.get seg kc

theorem mt_spec {σ : Hp} {K : Tree (List AV)} : ∀ (n : Nat) (E : Env) (ps : List (AV × AV)) (E' : Env), mt σ K n E ps = some E' →
    EnvLe E E' ∧ (∀ p ∈ ps, MRel E'.get p.1 p.2) ∧ ∀ i A sh, E.get i = none → E'.get i = some (A, sh) → BlkOk σ K E' i A sh := by
  intro n
  induction n with
  | zero => intro E ps E' h; cases h
  | succ n ih =>
    intro E ps E' h
    cases ps with
    | nil =>
      simp only [mt] at h
      cases h
      exact ⟨fun _ _ h => h, (fun p hp => by cases hp), (fun i A sh h1 h2 => by rw [h1] at h2; cases h2)⟩
    | cons p ps =>
      obtain ⟨a, b⟩ := p
      -- the rest goes on as it stands
      have plain : mt σ K n E ps = some E' → MRel E'.get a b → EnvLe E E' ∧ (∀ p ∈ (a, b) :: ps, MRel E'.get p.1 p.2) ∧ ∀ i A sh, E.get i = none → E'.get i = some (A, sh) → BlkOk σ K E' i A sh := by
        intro h hab
        obtain ⟨h1, h2, h3⟩ := ih _ _ _ h
        refine ⟨h1, fun p hp => ?_, h3⟩
        rcases List.mem_cons.1 hp with rfl | hp
        · exact hab
        · exact h2 p hp
      have zipped : ∀ qs, mt σ K n E qs = some E' → ((∀ p ∈ qs, MRel E'.get p.1 p.2) → MRel E'.get a b ∧ ∀ p ∈ ps, MRel E'.get p.1 p.2) → EnvLe E E' ∧ (∀ p ∈ (a, b) :: ps, MRel E'.get p.1 p.2) ∧ ∀ i A sh, E.get i = none → E'.get i = some (A, sh) → BlkOk σ K E' i A sh := by
        intro qs h hq
        obtain ⟨h1, h2, h3⟩ := ih _ _ _ h
        obtain ⟨h4, h5⟩ := hq h2
        refine ⟨h1, fun p hp => ?_, h3⟩
        rcases List.mem_cons.1 hp with rfl | hp
        · exact h4
        · exact h5 p hp
      have link : ∀ A off i off', (match E.get i with
          | some (A', sh) => bif Nat.beq A A' && Nat.beq (sh + off') off then mt σ K n E ps else none
          | none => bif Nat.ble off' off then
              match K.get i, σ.get A with
              | some kc, some (.cells ac) => bif Nat.ble (off - off' + kc.length) ac.length then
                  match lsub ac (off - off') kc.length with
                  | some seg => match zipX seg kc ps with
                    | some qs => mt σ K n (E.set i (some (A, off - off'))) qs
                    | none => none
                  | none => none
                else none
              | _, _ => none
            else none) = some E' → (∀ sh, E'.get i = some (A, sh) → off = sh + off' → MRel E'.get a b) → EnvLe E E' ∧ (∀ p ∈ (a, b) :: ps, MRel E'.get p.1 p.2) ∧ ∀ i A sh, E.get i = none → E'.get i = some (A, sh) → BlkOk σ K E' i A sh := by
        intro A off i off' h hab
        split at h
        · rename_i A' sh hE
          cases hb : (Nat.beq A A' && Nat.beq (sh + off') off) with
          | false => rw [hb] at h; cases h
          | true =>
            rw [hb] at h
            simp only [cond_true] at h
            simp only [Bool.and_eq_true] at hb
            have hA : A = A' := by simpa using hb.1
            have ho : sh + off' = off := by simpa using hb.2
            subst hA
            obtain ⟨h1, h2, h3⟩ := ih _ _ _ h
            refine ⟨h1, fun p hp => ?_, h3⟩
            rcases List.mem_cons.1 hp with rfl | hp
            · exact hab sh (h1 _ _ hE) ho.symm
            · exact h2 p hp
        · rename_i hE
          cases hb : Nat.ble off' off with
          | false => rw [hb] at h; cases h
          | true =>
            rw [hb] at h
            simp only [cond_true] at h
            have hb' := Nat.le_of_ble_eq_true hb
            split at h
            · rename_i kc ac hK hσ
              cases hl : Nat.ble (off - off' + kc.length) ac.length with
              | false => rw [hl] at h; cases h
              | true =>
                rw [hl] at h
                simp only [cond_true] at h
                have hl' := Nat.le_of_ble_eq_true hl
                split at h
                · rename_i seg hseg
                  split at h
                  · rename_i qs hqs
                    obtain ⟨h1, h2, h3⟩ := ih _ _ _ h
                    obtain ⟨h4, h5⟩ := zipX_spec hqs h2
                    have hi : E'.get i = some (A, off - off') := h1 i _ (by rw [Tree.get_set, if_pos rfl])
                    refine ⟨fun j x hj => h1 j x ?_, fun p hp => ?_, fun j A' sh' hj hj' => ?_⟩
                    · rw [Tree.get_set]
                      by_cases hji : j = i
                      · subst hji; rw [hE] at hj; cases hj
                      · rw [if_neg hji]; exact hj
                    · rcases List.mem_cons.1 hp with rfl | hp
                      · exact hab _ hi (by omega)
                      · exact h5 p hp
                    · by_cases hji : j = i
                      · subst hji
                        rw [hi] at hj'; cases hj'
                        exact ⟨kc, ac, seg, hK, hσ, hl', hseg, h4⟩
                      · exact h3 j A' sh' (by rw [Tree.get_set, if_neg hji]; exact hj) hj'
                  · cases h
                · cases h
            · cases h
      simp only [mt] at h
      split at h
      · rename_i y x
        cases hxy : x == y with
        | false => rw [hxy] at h; cases h
        | true => rw [hxy] at h; have : x = y := by simpa using hxy
                  subst this; exact plain h (.bool _)
      · rename_i k' y k x
        split at h
        · rename_i hc; obtain ⟨rfl, rfl⟩ := hc; exact plain h (.int _ _)
        · cases h
      · rename_i s' s
        split at h
        · rename_i hc
          have : s = s' := by
            cases s; cases s'
            simp only at hc
            congr 1
            exact Array.toList_inj.1 hc
          exact plain h (.str _ _ this)
        · cases h
      · rename_i i off' A off
        exact link A off i off' h fun sh hi ho => by subst ho; exact .ptr hi
      · rename_i i off' len' cap' esz' ex' A off len cap esz ex
        cases hb : (Nat.beq len len' && Nat.beq esz esz' && Nat.ble cap' cap && Nat.ble len' cap' && (!ex' || (ex && Nat.beq cap cap'))) with
        | false => rw [hb] at h; cases h
        | true =>
          rw [hb] at h
          simp only [cond_true] at h
          simp only [Bool.and_eq_true] at hb
          obtain ⟨⟨⟨⟨b1, b2⟩, b3⟩, b4⟩, b5⟩ := hb
          have e1 : len = len' := by simpa using b1
          have e2 : esz = esz' := by simpa using b2
          subst e1; subst e2
          refine link A off i off' h fun sh hi ho => ?_
          subst ho
          refine .sl hi (Nat.le_of_ble_eq_true b3) (Nat.le_of_ble_eq_true b4) fun hex => ?_
          rw [hex] at b5
          simp only [Bool.not_true, Bool.false_or, Bool.and_eq_true] at b5
          exact ⟨b5.1, by simpa using b5.2⟩
      · exact plain h .nilp
      · exact plain h .nils
      · exact plain h .sle
      · exact plain h .nilf
      · exact plain h .nili
      · exact plain h .nilm
      · rename_i f' fs' cs' f fs cs
        split at h
        · rename_i hf; subst hf
          split at h
          · rename_i qs hqs
            split at h
            · rename_i rs hrs
              refine zipped rs h fun hall => ?_
              obtain ⟨k1, k2⟩ := zipX_spec hrs hall
              obtain ⟨k3, k4⟩ := zipX_spec hqs k2
              exact ⟨.fn k1 k3, k4⟩
            · cases h
          · cases h
        · cases h
      · rename_i t' v' t v
        cases hb : Nat.beq t t' with
        | false => rw [hb] at h; cases h
        | true =>
          rw [hb] at h
          have : t = t' := by simpa using hb
          subst this
          refine zipped _ h fun hall => ?_
          exact ⟨.ifc (hall (v, v') (by simp)), fun p hp => hall p (by simp [hp])⟩
      · rename_i cs' cs
        split at h
        · rename_i qs hqs
          refine zipped qs h fun hall => ?_
          obtain ⟨k1, k2⟩ := zipX_spec hqs hall
          exact ⟨.agg k1, k2⟩
        · cases h
      · rename_i cs' cs
        split at h
        · rename_i qs hqs
          refine zipped qs h fun hall => ?_
          obtain ⟨k1, k2⟩ := zipX_spec hqs hall
          exact ⟨.tup k1, k2⟩
        · cases h
      · cases h

/-! ### what a match means in the model's memory -/
section
variable {P : Program} {φ ψ : Ren} {e : Nat → Option (Nat × Nat)}

/-- the numbers of one side lie where those of the other say -/
def Tied (φ ψ : Ren) (e : Nat → Option (Nat × Nat)) : Prop := ∀ i A sh, e i = some (A, sh) → ∀ B s n, φ A = some (B, s, n) → ψ i = some (B, s + sh, n)

mutual
theorem MRel.sem (hT : Tied φ ψ e) : ∀ {a b : AV} {u : Value}, MRel e a b → VRel φ a u → VRel ψ b u
  | _, _, _, .bool b, h => by cases h; exact .bool _
  | _, _, _, .int k n, h => by cases h; exact .int _ _
  | _, _, _, .str s s' hs, h => by subst hs; cases h; exact .str _
  | _, _, _, .ptr hi, h => by
    cases h with
    | ptr hφ => rw [← Nat.add_assoc]; exact .ptr (hT _ _ _ hi _ _ _ hφ)
  | _, _, _, .sl hi h1 h2 h3, h => by
    cases h with
    | sl hφ k1 k2 k3 k4 =>
      rename_i off' len cap cap' esz ex' ex B s n c
      rw [← Nat.add_assoc]
      refine .sl (hT _ _ _ hi _ _ _ hφ) h2 (Nat.le_trans h1 k2) (fun hex => ?_) (by rw [Nat.add_assoc s]; exact k4)
      obtain ⟨q1, q2⟩ := h3 hex
      have := k3 q1
      omega
  | _, _, _, .nilp, h => by cases h; exact .nilp
  | _, _, _, .nils, h => by cases h; exact .nils
  | _, _, _, .sle, h => by cases h; exact .sle _ _ _
  | _, _, _, .nilf, h => by cases h; exact .nilf
  | _, _, _, .nili, h => by cases h; exact .nili
  | _, _, _, .nilm, h => by cases h; exact .nilm
  | _, _, _, .fn h k, hv => by cases hv with | fn h' k' => exact .fn (MList.sem hT h h') (MList.sem hT k k')
  | _, _, _, .ifc h, hv => by cases hv with | ifc h' => exact .ifc (MRel.sem hT h h')
  | _, _, _, .agg h, hv => by cases hv with | agg h' => exact .agg (MList.sem hT h h')
  | _, _, _, .tup h, hv => by cases hv with | tup h' => exact .tup (MList.sem hT h h')
theorem MList.sem (hT : Tied φ ψ e) : ∀ {a b : List AV} {u : List Value}, MList e a b → LRel φ a u → LRel ψ b u
  | _, _, _, .nil, h => by cases h; exact .nil
  | _, _, _, .cons h t, hv => by cases hv with | cons h' t' => exact .cons (MRel.sem hT h h') (MList.sem hT t t')
end

/-- the block that a match has met -/
theorem BlkOk.sem {σ : Hp} {K : Tree (List AV)} {E : Env} {i A sh : Nat} (h : BlkOk σ K E i A sh) (hT : Tied φ ψ E.get) {ro n0 : Nat} {w : World} (hS : SRel ro n0 φ σ w) :
    ∃ kc B s n, K.get i = some kc ∧ φ A = some (B, s, n) ∧ (σ.get A).isSome = true ∧ BRel ψ (.cells kc) (B, s + sh, n) w := by
  obtain ⟨kc, ac, seg, h1, h2, h3, h4, h5⟩ := h
  obtain ⟨⟨B, s, n⟩, hφ, ccs, ety, g1, g2, g3, g4⟩ := hS.h A _ h2
  dsimp only at g1 g2 g3 g4
  refine ⟨kc, B, s, n, h1, hφ, by rw [h2]; rfl, ccs, ety, g1, g2, by show s + sh + kc.length ≤ ccs.size; omega, ?_⟩
  obtain ⟨q1, q2, q3⟩ := lsub_eq h4
  have hseg : LRel φ seg ((ccs.toList.drop (s + sh)).take kc.length) := by
    have := (g4.drop sh).take kc.length
    rw [List.drop_take, List.drop_drop, List.take_take, Nat.min_eq_left (by omega)] at this
    rw [q1]; exact this
  exact h5.sem hT hseg
end

/-! ### back into the caller's numbers -/
mutual
def inst (E : Env) (m c : Nat) : AV → AV
  | .ptr i off => bif Nat.blt i m then
      match E.get i with
      | some (A, sh) => .ptr A (sh + off)
      | none => .nilp
    else .ptr (c + (i - m)) off
  | .sl i off len cap esz ex => bif Nat.blt i m then
      match E.get i with
      | some (A, sh) => .sl A (sh + off) len cap esz ex
      | none => .nilp
    else .sl (c + (i - m)) off len cap esz ex
  | .fn f fs cs => .fn f (instL E m c fs) (instL E m c cs)
  | .ifc t v => .ifc t (inst E m c v)
  | .agg cs => .agg (instL E m c cs)
  | .tup cs => .tup (instL E m c cs)
  | .yld i => bif Nat.blt i m then
      match E.get i with
      | some (A, _) => .yld A
      | none => .nilp
    else .yld (c + (i - m))
  | .mp i => bif Nat.blt i m then
      match E.get i with
      | some (A, _) => .mp A
      | none => .nilp
    else .mp (c + (i - m))
  | .bool b => .bool b
  | .int k n => .int k n
  | .str s => .str s
  | .nilp => .nilp
  | .nils => .nils
  | .sle => .sle
  | .nilf => .nilf
  | .nili => .nili
  | .nilm => .nilm
def instL (E : Env) (m c : Nat) : List AV → List AV
  | [] => []
  | a :: as => inst E m c a :: instL E m c as
end

/-- what lies where -/
structure Back (φ ψ : Ren) (E : Env) (m c : Nat) : Prop where
  old : ∀ i x, i < m → ψ i = some x → ∃ A sh B s n, E.get i = some (A, sh) ∧ φ A = some (B, s, n) ∧ x = (B, s + sh, n)
  new : ∀ i x, m ≤ i → ψ i = some x → φ (c + (i - m)) = some x

theorem blt_true {i m : Nat} (h : i < m) : Nat.blt i m = true := by simpa using h
theorem blt_false {i m : Nat} (h : m ≤ i) : Nat.blt i m = false := by
  cases hb : Nat.blt i m with
  | false => rfl
  | true => have : i < m := by simpa using hb
            omega

section
variable {φ ψ : Ren} {E : Env} {m c : Nat}
mutual
theorem inst_sem (hB : Back φ ψ E m c) : ∀ {b : AV} {u : Value}, VRel ψ b u → VRel φ (inst E m c b) u
  | _, _, .bool b => by rw [inst]; exact .bool _
  | _, _, .int k n => by rw [inst]; exact .int _ _
  | _, _, .str s => by rw [inst]; exact .str _
  | _, _, .ptr (A := i) h => by
    rw [inst]
    rcases Nat.lt_or_ge i m with hi | hi
    · obtain ⟨A, sh, B, s, n, h1, h2, h3⟩ := hB.old i _ hi h
      rw [blt_true hi, h1]; cases h3
      simp only [cond_true]
      rw [Nat.add_assoc]; exact .ptr h2
    · rw [blt_false hi]; exact .ptr (hB.new i _ hi h)
  | _, _, .nilp => by rw [inst]; exact .nilp
  | _, _, .sl (A := i) h h1 h2 h3 h4 => by
    rw [inst]
    rcases Nat.lt_or_ge i m with hi | hi
    · obtain ⟨A, sh, B, s, n, k1, k2, k3⟩ := hB.old i _ hi h
      rw [blt_true hi, k1]; cases k3
      simp only [cond_true]
      rw [Nat.add_assoc]; exact .sl k2 h1 h2 h3 (by rw [← Nat.add_assoc]; exact h4)
    · rw [blt_false hi]; exact .sl (hB.new i _ hi h) h1 h2 h3 h4
  | _, _, .nils => by rw [inst]; exact .nils
  | _, _, .sle B o k => by rw [inst]; exact .sle _ _ _
  | _, _, .fn h k => by rw [inst]; exact .fn (instL_sem hB h) (instL_sem hB k)
  | _, _, .yld (L := i) h => by
    rw [inst]
    rcases Nat.lt_or_ge i m with hi | hi
    · obtain ⟨A, sh, B, s, n, h1, h2, h3⟩ := hB.old i _ hi h
      rw [blt_true hi, h1]; cases h3
      exact .yld h2
    · rw [blt_false hi]; exact .yld (hB.new i _ hi h)
  | _, _, .nilf => by rw [inst]; exact .nilf
  | _, _, .ifc h => by rw [inst]; exact .ifc (inst_sem hB h)
  | _, _, .nili => by rw [inst]; exact .nili
  | _, _, .agg h => by rw [inst]; exact .agg (instL_sem hB h)
  | _, _, .tup h => by rw [inst]; exact .tup (instL_sem hB h)
  | _, _, .mp (M := i) h => by
    rw [inst]
    rcases Nat.lt_or_ge i m with hi | hi
    · obtain ⟨A, sh, B, s, n, h1, h2, h3⟩ := hB.old i _ hi h
      rw [blt_true hi, h1]; cases h3
      exact .mp h2
    · rw [blt_false hi]; exact .mp (hB.new i _ hi h)
  | _, _, .nilm => by rw [inst]; exact .nilm
theorem instL_sem (hB : Back φ ψ E m c) : ∀ {b : List AV} {u : List Value}, LRel ψ b u → LRel φ (instL E m c b) u
  | _, _, .nil => by rw [instL]; exact .nil
  | _, _, .cons h t => by rw [instL]; exact .cons (inst_sem hB h) (instL_sem hB t)
end
theorem instL_length (E : Env) (m c : Nat) : ∀ l : List AV, (instL E m c l).length = l.length
  | [] => by rw [instL]
  | a :: as => by rw [instL, List.length_cons, List.length_cons, instL_length E m c as]
end

/-! ### entries -/
def EntOk (P : Program) (e : Ent) : Prop :=
  ∀ ψ w us, (∀ i, e.m ≤ i → ψ i = none) → SRel e.m w.heap.size ψ (baseHp e.m 0 e.blks .lf) w → LRel ψ e.args us → ∀ cs, ∃ w' ψ' u fr',
    Steps P (lone (Frame.enter P e.f us.toArray .normal) cs w) (lone fr' cs w') ∧ Done P (Frame.enter P e.f us.toArray .normal) fr' w' u ∧ VRel ψ' e.v u ∧
    (∀ i, i < e.m → ψ' i = ψ i) ∧ (∀ i, e.m ≤ i → i < e.n → ∃ kc x, e.K.get i = some kc ∧ ψ' i = some x ∧ BRel ψ' (.cells kc) x w' ∧ w.heap.size ≤ x.1) ∧
    (∀ i j x y, e.m ≤ i → e.m ≤ j → i < e.n → j < e.n → i ≠ j → ψ' i = some x → ψ' j = some y → x.1 ≠ y.1) ∧ (∀ i, e.n ≤ i → ψ' i = none) ∧ e.m ≤ e.n ∧ Below w.heap.size w w'

/-- each of i .. lies in new memory, each apart -/
def freshOk (E : Env) (m : Nat) : Nat → Nat → List Nat → Bool
  | 0, _, _ => true
  | k + 1, i, used => match E.get i with
    | some (A, _) => bif Nat.ble m A && !used.contains A then freshOk E m k (i + 1) (A :: used) else false
    | none => false
def noneAbove : Env → Nat → Bool
  | .lf, _ => true
  | .nd v l r, n => (match v with | some _ => Nat.blt 0 n | none => true) && noneAbove l (n / 2) && noneAbove r ((n - 1) / 2)

def checkEnt (C : Cx) (H : Hook) (D : Drw) (fuel : Nat) (e : Ent) : Bool :=
  match enterF C e.f e.args with
  | none => false
  | some fr => match ev C H D fuel e.m fr (baseHp e.m 0 e.blks .lf) e.m with
    | none => false
    | some (v1, σ1, _) => match mt σ1 e.K 100000 (idEnv e.m .lf) [(v1, e.v)] with
      | none => false
      | some E => freshOk E e.m (e.n - e.m) e.m [] && Nat.ble e.m e.n

theorem idEnv_get : ∀ (m : Nat) (t : Env) (i : Nat), (idEnv m t).get i = if i < m then some (i, 0) else t.get i
  | 0, t, i => by simp [idEnv]
  | m + 1, t, i => by
    rw [idEnv, idEnv_get m, Tree.get_set]
    by_cases h : i < m
    · rw [if_pos h, if_pos (by omega)]
    · rw [if_neg h]
      by_cases h' : i = m
      · subst h'; rw [if_pos rfl, if_pos (by omega)]
      · rw [if_neg h', if_neg (by omega)]

theorem baseHp_get : ∀ (m i : Nat) (bs : List (List AV)) (σ : Hp) (A : Nat), (baseHp m i bs σ).get A = if i ≤ A ∧ A < i + min m bs.length then (bs[A - i]?).map ABlk.cells else σ.get A
  | 0, i, bs, σ, A => by simp only [baseHp, Nat.zero_min, Nat.add_zero]; rw [if_neg (by omega)]
  | m + 1, i, [], σ, A => by simp only [baseHp, List.length_nil, Nat.min_zero, Nat.add_zero]; rw [if_neg (by omega)]
  | m + 1, i, b :: bs, σ, A => by
    rw [baseHp, baseHp_get m (i + 1), Tree.get_set]
    have hmin : min (m + 1) (b :: bs).length = min m bs.length + 1 := by simp only [List.length_cons]; omega
    simp only [hmin]
    by_cases h : i ≤ A ∧ A < i + (min m bs.length + 1)
    · rw [if_pos h]
      by_cases hA : A = i
      · subst hA; rw [if_neg (by omega), if_pos rfl]; simp
      · rw [if_pos (by omega), show A - i = (A - (i + 1)) + 1 by omega]; simp
    · rw [if_neg h, if_neg (by omega), if_neg (by omega)]

theorem listT_get : ∀ (i : Nat) (bs : List (List AV)) (t : Tree (List AV)) (A : Nat), (listT i bs t).get A = if i ≤ A ∧ A < i + bs.length then bs[A - i]? else t.get A
  | i, [], t, A => by simp only [listT, List.length_nil, Nat.add_zero]; rw [if_neg (by omega)]
  | i, b :: bs, t, A => by
    rw [listT, listT_get (i + 1), Tree.get_set]
    simp only [List.length_cons]
    by_cases h : i ≤ A ∧ A < i + (bs.length + 1)
    · rw [if_pos h]
      by_cases hA : A = i
      · subst hA; rw [if_neg (by omega), if_pos rfl]; simp
      · rw [if_pos (by omega), show A - i = (A - (i + 1)) + 1 by omega]; simp
    · rw [if_neg h, if_neg (by omega), if_neg (by omega)]

theorem freshOk_spec {E : Env} {m : Nat} : ∀ (k i : Nat) (used : List Nat), freshOk E m k i used = true →
    (∀ j, i ≤ j → j < i + k → ∃ A sh, E.get j = some (A, sh) ∧ m ≤ A ∧ A ∉ used) ∧
    (∀ j j' A sh A' sh', i ≤ j → i ≤ j' → j < i + k → j' < i + k → j ≠ j' → E.get j = some (A, sh) → E.get j' = some (A', sh') → A ≠ A')
  | 0, i, used, _ => ⟨fun j h1 h2 => by omega, fun j j' A sh A' sh' h1 h2 h3 => by omega⟩
  | k + 1, i, used, h => by
    simp only [freshOk] at h
    split at h
    case h_2 => cases h
    case h_1 A0 sh0 hE =>
      cases hb : (Nat.ble m A0 && !used.contains A0) with
      | false => rw [hb] at h; cases h
      | true =>
        rw [hb] at h
        simp only [cond_true] at h
        simp only [Bool.and_eq_true, Bool.not_eq_true'] at hb
        have hm := Nat.le_of_ble_eq_true hb.1
        have hu : A0 ∉ used := by intro hh; have := List.contains_iff_mem.2 hh; rw [this] at hb; cases hb.2
        obtain ⟨h1, h2⟩ := freshOk_spec k (i + 1) (A0 :: used) h
        refine ⟨fun j g1 g2 => ?_, fun j j' A sh A' sh' g1 g2 g3 g4 g5 g6 g7 => ?_⟩
        · by_cases hj : j = i
          · subst hj; exact ⟨A0, sh0, hE, hm, hu⟩
          · obtain ⟨A, sh, q1, q2, q3⟩ := h1 j (by omega) (by omega)
            exact ⟨A, sh, q1, q2, fun hh => q3 (List.mem_cons_of_mem _ hh)⟩
        · by_cases hj : j = i
          · subst hj
            rw [hE] at g6; cases g6
            obtain ⟨B, sh2, q1, _, q3⟩ := h1 j' (by omega) (by omega)
            rw [g7] at q1; cases q1
            exact fun hh => q3 (by rw [← hh]; exact List.mem_cons_self)
          · by_cases hj' : j' = i
            · subst hj'
              rw [hE] at g7; cases g7
              obtain ⟨B, sh2, q1, _, q3⟩ := h1 j (by omega) (by omega)
              rw [g6] at q1; cases q1
              exact fun hh => q3 (by rw [hh]; exact List.mem_cons_self)
            · exact h2 j j' A sh A' sh' (by omega) (by omega) (by omega) (by omega) g5 g6 g7

theorem kb_base (m : Nat) (bs : List (List AV)) : KB m (baseHp m 0 bs .lf) := by
  intro A hA
  rw [baseHp_get] at hA
  split at hA
  · omega
  · rw [Tree.get_lf] at hA; cases hA

theorem checkEnt_ok {P : Program} {C : Cx} (hC : CxOk P C) {H : Hook} (hH : HookOk P H) {D : Drw} (hD : DrwOk P D) {fuel : Nat} {e : Ent} (h : checkEnt C H D fuel e = true) : EntOk P e := by
  unfold checkEnt at h
  split at h
  · cases h
  · rename_i af haf
    split at h
    · cases h
    · rename_i v1 σ1 c1 hev
      split at h
      · cases h
      · rename_i E hE
        simp only [Bool.and_eq_true] at h
        obtain ⟨hfr, hmn⟩ := h
        have hmn := Nat.le_of_ble_eq_true hmn
        obtain ⟨hEle, hall, hblk⟩ := mt_spec _ _ _ _ hE
        obtain ⟨hf1, hf2⟩ := freshOk_spec _ _ _ hfr
        obtain ⟨hg, hrun⟩ := ev_ok hC hH hD fuel _ _ _ _ _ _ _ hev
        intro ψ w us hψ hS hargs cs
        obtain ⟨hfrm, hro, hfn⟩ := enterF_rel (P := P) hC haf hargs .normal
        obtain ⟨w', φ1, u, hend, k1, k2, k3, k4⟩ := hrun w.heap.size ψ w _ cs (kb_base _ _) hfrm hS (fun A h1 _ => hψ A h1) (.inl rfl) (fun _ => rfl)
        rw [hro] at hend
        obtain ⟨fr', hst, hdone⟩ := hend
        -- the answer's numbers
        obtain ⟨ψ', hψ'⟩ : ∃ ψ' : Ren, ψ' = fun i => if i < e.n then (match E.get i with | some (A, sh) => (φ1 A).map (fun x => (x.1, x.2.1 + sh, x.2.2)) | none => none) else none := ⟨_, rfl⟩
        have hin : ∀ i A sh, E.get i = some (A, sh) → i < e.n := by
          intro i A sh hi
          rcases Nat.lt_or_ge i e.m with h | h
          · omega
          · obtain ⟨kc, _, _, hk, _⟩ := hblk i A sh (by rw [idEnv_get, if_neg (by omega), Tree.get_lf]) hi
            unfold Ent.K at hk
            rw [listT_get] at hk
            split at hk
            · unfold Ent.n; omega
            · rw [Tree.get_lf] at hk; cases hk
        have hval : ∀ i A sh, E.get i = some (A, sh) → ∀ B s n, φ1 A = some (B, s, n) → ψ' i = some (B, s + sh, n) := by
          intro i A sh hi B s n hφ
          rw [hψ']
          dsimp only
          rw [if_pos (hin i A sh hi), hi]
          dsimp only
          rw [hφ]; rfl
        have hold : ∀ i, i < e.m → ψ' i = ψ i := by
          intro i hi
          have hEi : E.get i = some (i, 0) := hEle i _ (by rw [idEnv_get, if_pos hi])
          have hx : φ1 i = ψ i := k3.2 i (.inl hi)
          rw [hψ']
          dsimp only
          rw [if_pos (by omega), hEi]
          dsimp only
          rw [hx]
          cases ψ i with
          | none => rfl
          | some x => obtain ⟨B, s, n⟩ := x; rfl
        have hnew : ∀ i, e.m ≤ i → i < e.n → ∃ A sh kc x x1, E.get i = some (A, sh) ∧ e.m ≤ A ∧ (σ1.get A).isSome = true ∧ φ1 A = some x1 ∧ x.1 = x1.1 ∧ e.K.get i = some kc ∧ ψ' i = some x ∧ BRel ψ' (.cells kc) x w' ∧ w.heap.size ≤ x.1 := by
          intro i h1 h2
          obtain ⟨A, sh, hEi, hA, _⟩ := hf1 i h1 (by omega)
          obtain ⟨kc, B, s, n, g1, g2, g3, g4⟩ := (hblk i A sh (by rw [idEnv_get, if_neg (by omega), Tree.get_lf]) hEi).sem hval k2
          exact ⟨A, sh, kc, (B, s + sh, n), (B, s, n), hEi, hA, g3, g2, rfl, g1, hval i A sh hEi B s n g2, g4, (show w.heap.size ≤ B from k2.o A (B, s, n) hA g3 g2)⟩
        refine ⟨w', ψ', u, fr', hst, hdone, (hall (v1, e.v) (by simp)).sem hval k1, hold, fun i h1 h2 => ?_, fun i j x y h1 h2 h3 h4 h5 h6 h7 => ?_, fun i hi => ?_, hmn, k4⟩
        · obtain ⟨A, sh, kc, x, x1, _, _, _, _, _, g1, g2, g3, g4⟩ := hnew i h1 h2
          exact ⟨kc, x, g1, g2, g3, g4⟩
        · obtain ⟨A, sh, _, x', x1, q1, q2, q3, q4, q5, _, q6, _⟩ := hnew i h1 h3
          obtain ⟨A', sh', _, y', y1, r1, r2, r3, r4, r5, _, r6, _⟩ := hnew j h2 h4
          rw [h6] at q6; cases q6
          rw [h7] at r6; cases r6
          rw [q5, r5]
          exact k2.d A A' x1 y1 q2 (hf2 i j A sh A' sh' h1 h2 (by omega) (by omega) h5 q1 r1) q3 r3 q4 r4
        · rw [hψ']
          dsimp only
          rw [if_neg (by omega)]

/-! ### the table -/
def allIn (E : Env) : Nat → Bool
  | 0 => true
  | i + 1 => match E.get i with
    | some _ => allIn E i
    | none => false
def addFresh (E : Env) (m c0 : Nat) : Nat → List (List AV) → Hp → Hp
  | _, [], σ => σ
  | c, b :: bs, σ => addFresh E m c0 (c + 1) bs (σ.set c (some (.cells (instL E m c0 b))))

def applyEnt (e : Ent) (args : List AV) (σ : Hp) (c : Nat) : Res :=
  match zipX args e.args [] with
  | none => none
  | some ps => match mt σ e.KA 100000 .lf ps with
    | none => none
    | some E => bif allIn E e.m && Nat.ble e.m e.n then some (inst E e.m c e.v, addFresh E e.m c c (e.blks.drop e.m) σ, c + (e.n - e.m)) else none

def firstE : List Ent → List AV → Hp → Nat → Res
  | [], _, _, _ => none
  | e :: es, args, σ, c => match applyEnt e args σ c with
    | some r => some r
    | none => firstE es args σ c

/-- a number out of what arguments hold -/
def hs (σ : Hp) : Nat → List AV → Nat → Nat
  | 0, _, h => h
  | _ + 1, [], h => h
  | n + 1, a :: as, h => match a with
    | .bool b => hs σ n as ((h * 5 + (bif b then 1 else 2)) % 1048576)
    | .int _ (.ofNat k) => hs σ n as ((h * 31 + k + 3) % 1048576)
    | .int _ (.negSucc k) => hs σ n as ((h * 37 + k + 5) % 1048576)
    | .sl A off len _ esz _ => match rdCells σ A off (len * esz) with
      | some cs => hs σ n (cs ++ as) ((h * 41 + len + 7) % 1048576)
      | none => h
    | .agg cs => hs σ n (cs ++ as) ((h * 43 + 11) % 1048576)
    | _ => hs σ n as ((h * 7 + 13) % 1048576)
def keyOf (σ : Hp) (args : List AV) : Nat := hs σ 60 args 1

abbrev Tab := Tree (Tree (List Ent))
def hookT (T : Tab) : Hook := fun f args σ c =>
  match T.get f with
  | none => none
  | some T' => match T'.get (keyOf σ args) with
    | none => none
    | some l => firstE l args σ c
def insE (T : Tab) (e : Ent) : Tab :=
  T.set e.f (some (let T' := (T.get e.f).getD .lf; T'.set e.key (some (e :: (T'.get e.key).getD []))))
def insAll : List Ent → Tab → Tab
  | [], T => T
  | e :: es, T => insAll es (insE T e)
def TabOk (P : Program) (T : Tab) : Prop := ∀ f T' k l e, T.get f = some T' → T'.get k = some l → e ∈ l → e.f = f ∧ EntOk P e

theorem TabOk.lf (P : Program) : TabOk P .lf := fun f T' k l e h => by rw [Tree.get_lf] at h; cases h
theorem TabOk.ins {P : Program} {T : Tab} (h : TabOk P T) {e : Ent} (he : EntOk P e) : TabOk P (insE T e) := by
  intro f T' k l x hf hk hx
  unfold insE at hf
  rw [Tree.get_set] at hf
  by_cases hfe : f = e.f
  · rw [if_pos hfe] at hf
    cases hf
    rw [Tree.get_set] at hk
    by_cases hke : k = e.key
    · rw [if_pos hke] at hk
      cases hk
      rcases List.mem_cons.1 hx with rfl | hx
      · exact ⟨hfe.symm, he⟩
      · cases hT : T.get e.f with
        | none => rw [hT] at hx; simp [Tree.get_lf] at hx
        | some T0 =>
          rw [hT] at hx
          simp only [Option.getD_some] at hx
          cases hl : T0.get e.key with
          | none => rw [hl] at hx; simp at hx
          | some l0 => rw [hl] at hx; have := h e.f T0 e.key l0 x hT hl hx; exact ⟨by rw [hfe]; exact this.1, this.2⟩
    · rw [if_neg hke] at hk
      cases hT : T.get e.f with
      | none => rw [hT] at hk; simp [Tree.get_lf] at hk
      | some T0 =>
        rw [hT] at hk
        have := h e.f T0 k l x hT hk hx
        exact ⟨by rw [hfe]; exact this.1, this.2⟩
  · rw [if_neg hfe] at hf
    exact h f T' k l x hf hk hx
theorem TabOk.all {P : Program} : ∀ (es : List Ent) {T : Tab}, TabOk P T → (∀ e ∈ es, EntOk P e) → TabOk P (insAll es T)
  | [], T, h, _ => h
  | e :: es, T, h, he => TabOk.all es (h.ins (he e (by simp))) fun x hx => he x (by simp [hx])

theorem allIn_spec {E : Env} : ∀ (m : Nat), allIn E m = true → ∀ i, i < m → ∃ x, E.get i = some x
  | 0, _, i, hi => by omega
  | m + 1, h, i, hi => by
    simp only [allIn] at h
    split at h
    · rename_i x hx
      by_cases him : i = m
      · subst him; exact ⟨x, hx⟩
      · exact allIn_spec m h i (by omega)
    · cases h

theorem addFresh_get (E : Env) (m c0 : Nat) : ∀ (bs : List (List AV)) (c : Nat) (σ : Hp) (A : Nat), (addFresh E m c0 c bs σ).get A = if c ≤ A ∧ A < c + bs.length then (bs[A - c]?).map (fun b => ABlk.cells (instL E m c0 b)) else σ.get A
  | [], c, σ, A => by simp only [addFresh, List.length_nil, Nat.add_zero]; rw [if_neg (by omega)]
  | b :: bs, c, σ, A => by
    rw [addFresh, addFresh_get E m c0 bs, Tree.get_set]
    simp only [List.length_cons]
    by_cases h : c ≤ A ∧ A < c + (bs.length + 1)
    · rw [if_pos h]
      by_cases hA : A = c
      · subst hA; rw [if_neg (by omega), if_pos rfl]; simp
      · rw [if_pos (by omega), show A - c = (A - (c + 1)) + 1 by omega]; simp
    · rw [if_neg h, if_neg (by omega), if_neg (by omega)]

theorem applyEnt_ok {P : Program} {e : Ent} (he : EntOk P e) {args : List AV} {σ : Hp} {c : Nat} {v : AV} {σ' : Hp} {c' : Nat} (h : applyEnt e args σ c = some (v, σ', c')) :
    Grow c σ c' σ' ∧ ∀ ro n0 φ w us, KB c σ → SRel ro n0 φ σ w → Free c c' φ → LRel φ args us → CallOut P ro n0 c φ w e.f us v σ' c' := by
  unfold applyEnt at h
  split at h
  · cases h
  · rename_i ps hps
    split at h
    · cases h
    · rename_i E hE
      cases hb : (allIn E e.m && Nat.ble e.m e.n) with
      | false => rw [hb] at h; cases h
      | true =>
        rw [hb] at h; cases h
        simp only [Bool.and_eq_true] at hb
        have hin := allIn_spec _ hb.1
        have hmn := Nat.le_of_ble_eq_true hb.2
        obtain ⟨_, hall, hblk⟩ := mt_spec _ _ _ _ hE
        obtain ⟨hargsM, _⟩ := zipX_spec hps hall
        have hlen : (e.blks.drop e.m).length = e.n - e.m := by simp [Ent.n]
        have hget := addFresh_get E e.m c (e.blks.drop e.m) c σ
        rw [hlen] at hget
        refine ⟨⟨by omega, fun hk A hA => ?_⟩, fun ro n0 φ w us hkb hS hf hargs cs => ?_⟩
        · rw [hget] at hA
          split at hA
          · omega
          · have := hk A hA; omega
        · -- the entry's own numbers
          obtain ⟨ψ, hψ⟩ : ∃ ψ : Ren, ψ = fun i => if i < e.m then (match E.get i with | some (A, sh) => (φ A).map (fun x => (x.1, x.2.1 + sh, x.2.2)) | none => none) else none := ⟨_, rfl⟩
          have hEm : ∀ i x, E.get i = some x → i < e.m := by
            intro i x hi
            obtain ⟨A, sh⟩ := x
            obtain ⟨kc, _, _, hk, _⟩ := hblk i A sh (Tree.get_lf i) hi
            unfold Ent.KA at hk
            rw [listT_get] at hk
            split at hk
            · rename_i hh; rw [List.length_take] at hh; omega
            · rw [Tree.get_lf] at hk; cases hk
          have hT : Tied φ ψ E.get := by
            intro i A sh hi B s n hφ
            rw [hψ]
            dsimp only
            rw [if_pos (hEm i _ hi), hi]
            dsimp only
            rw [hφ]; rfl
          have hψnone : ∀ i, e.m ≤ i → ψ i = none := by
            intro i hi
            rw [hψ]
            dsimp only
            rw [if_neg (by omega)]
          have hbase : SRel e.m w.heap.size ψ (baseHp e.m 0 e.blks .lf) w := by
            refine ⟨fun A b hA => ?_, fun A x h1 h2 => ?_, fun A A' x x' h1 h2 h3 => ?_, Nat.le_refl _⟩
            · rw [baseHp_get] at hA
              split at hA
              · rename_i hh
                obtain ⟨⟨A', sh⟩, hx⟩ := hin A (by omega)
                obtain ⟨kc, B, s, n, g1, g2, g3, g4⟩ := (hblk A A' sh (Tree.get_lf A) hx).sem hT hS
                unfold Ent.KA at g1
                rw [listT_get] at g1
                split at g1
                · rw [List.getElem?_take, if_pos (by omega)] at g1
                  rw [g1] at hA
                  cases hA
                  exact ⟨_, hT A A' sh hx B s n g2, g4⟩
                · rw [Tree.get_lf] at g1; cases g1
              · rw [Tree.get_lf] at hA; cases hA
            · exact absurd (kb_base _ _ A h2) (by omega)
            · exact absurd (kb_base _ _ A h3) (by omega)
          obtain ⟨w', ψ', u, fr', hst, hdone, hv, hold, hnew, hap, habove, _, hbel⟩ := he ψ w us hψnone hbase (hargsM.sem hT hargs) cs
          obtain ⟨φ', hφ'⟩ : ∃ φ' : Ren, φ' = fun A => if c ≤ A ∧ A < c + (e.n - e.m) then ψ' (e.m + (A - c)) else φ A := ⟨_, rfl⟩
          have hin' : ∀ A, c ≤ A → A < c + (e.n - e.m) → φ' A = ψ' (e.m + (A - c)) := by
            intro A h1 h2; rw [hφ']; dsimp only; rw [if_pos ⟨h1, h2⟩]
          have hout : ∀ A, A < c ∨ c + (e.n - e.m) ≤ A → φ' A = φ A := by
            intro A h1; rw [hφ']; dsimp only; rw [if_neg (by omega)]
          have hext : Ext c (c + (e.n - e.m)) φ φ' := ⟨by omega, hout⟩
          have hle : φ.le φ' := hext.le hf
          have hback : Back φ' ψ' E e.m c := by
            refine ⟨fun i x hi hx => ?_, fun i x hi hx => ?_⟩
            · rw [hold i hi, hψ] at hx
              dsimp only at hx
              rw [if_pos hi] at hx
              obtain ⟨⟨A, sh⟩, hE'⟩ := hin i hi
              rw [hE'] at hx
              dsimp only at hx
              cases hφA : φ A with
              | none => rw [hφA] at hx; cases hx
              | some y =>
                obtain ⟨B, s, n⟩ := y
                rw [hφA] at hx
                cases hx
                exact ⟨A, sh, B, s, n, hE', hle A _ hφA, rfl⟩
            · have hlt : i < e.n := by
                rcases Nat.lt_or_ge i e.n with h | h
                · exact h
                · rw [habove i h] at hx; cases hx
              rw [hin' _ (by omega) (by omega), show e.m + (c + (i - e.m) - c) = i by omega]
              exact hx
          -- the new blocks
          have hfresh : ∀ A, c ≤ A → A < c + (e.n - e.m) → ∃ kc x, (e.blks.drop e.m)[A - c]? = some kc ∧ φ' A = some x ∧ BRel φ' (.cells (instL E e.m c kc)) x w' ∧ w.heap.size ≤ x.1 := by
            intro A h1 h2
            obtain ⟨kc, x, g1, g2, g3, g4⟩ := hnew (e.m + (A - c)) (by omega) (by omega)
            unfold Ent.K at g1
            rw [listT_get] at g1
            split at g1
            · refine ⟨kc, x, by rw [List.getElem?_drop]; exact g1, by rw [hin' A h1 h2]; exact g2, ?_, g4⟩
              obtain ⟨ccs, ety, q1, q2, q3, q4⟩ := g3
              refine ⟨ccs, ety, q1, q2, by rw [instL_length]; exact q3, by rw [instL_length]; exact instL_sem hback q4⟩
            · rw [Tree.get_lf] at g1; cases g1
          have hsplit : ∀ A b, (addFresh E e.m c c (e.blks.drop e.m) σ).get A = some b →
              (c ≤ A ∧ A < c + (e.n - e.m) ∧ ∃ kc, (e.blks.drop e.m)[A - c]? = some kc ∧ b = .cells (instL E e.m c kc)) ∨ (σ.get A = some b ∧ A < c) := by
            intro A b hA
            rw [hget] at hA
            split at hA
            · rename_i hh
              left
              refine ⟨hh.1, hh.2, ?_⟩
              cases hk : (e.blks.drop e.m)[A - c]? with
              | none => rw [hk] at hA; cases hA
              | some kc => rw [hk] at hA; cases hA; exact ⟨kc, rfl, rfl⟩
            · exact .inr ⟨hA, hkb A (by rw [hA]; rfl)⟩
          refine ⟨w', φ', u, fr', hst, hdone, inst_sem hback hv, ⟨fun A b hA => ?_, fun A x h1 h2 h3 => ?_, fun A A' x x' h1 h2 h3 h4 h5 h6 => ?_, ?_⟩, hext, hbel.mono hS.s⟩
          · rcases hsplit A b hA with ⟨g1, g2, kc, g3, rfl⟩ | ⟨g1, g2⟩
            · obtain ⟨kc', x, q1, q2, q3, _⟩ := hfresh A g1 g2
              rw [g3] at q1; cases q1
              exact ⟨x, q2, q3⟩
            · obtain ⟨x, q1, q2⟩ := hS.h A b g1
              exact ⟨x, hle A x q1, q2.mono hle (hbel.block _ q2.lt)⟩
          · obtain ⟨b, hb⟩ := Option.isSome_iff_exists.1 h2
            rcases hsplit A b hb with ⟨g1, g2, _⟩ | ⟨g1, g2⟩
            · obtain ⟨kc', y, q1, q2, q3, q4⟩ := hfresh A g1 g2
              rw [h3] at q2; cases q2
              exact Nat.le_trans hS.s q4
            · obtain ⟨y, q1, q2⟩ := hS.h A b g1
              rw [hout A (.inl g2)] at h3
              exact hS.o A x h1 (by rw [g1]; rfl) h3
          · obtain ⟨b, hb⟩ := Option.isSome_iff_exists.1 h3
            obtain ⟨b', hb'⟩ := Option.isSome_iff_exists.1 h4
            have oldlt : ∀ A b x, σ.get A = some b → A < c → φ' A = some x → x.1 < w.heap.size := by
              intro A b x g1 g2 g3
              rw [hout A (.inl g2)] at g3
              obtain ⟨y, q1, q2⟩ := hS.h A b g1
              rw [g3] at q1; cases q1
              exact q2.lt
            rcases hsplit A b hb with ⟨g1, g2, _⟩ | ⟨g1, g2⟩
            · rcases hsplit A' b' hb' with ⟨k1, k2, _⟩ | ⟨k1, k2⟩
              · rw [hin' A g1 g2] at h5
                rw [hin' A' k1 k2] at h6
                exact hap _ _ x x' (by omega) (by omega) (by omega) (by omega) (by omega) h5 h6
              · obtain ⟨kc', y, q1, q2, q3, q4⟩ := hfresh A g1 g2
                rw [h5] at q2; cases q2
                have := oldlt A' b' x' k1 k2 h6
                omega
            · rcases hsplit A' b' hb' with ⟨k1, k2, _⟩ | ⟨k1, k2⟩
              · obtain ⟨kc', y, q1, q2, q3, q4⟩ := hfresh A' k1 k2
                rw [h6] at q2; cases q2
                have := oldlt A b x g1 g2 h5
                omega
              · rw [hout A (.inl g2)] at h5
                rw [hout A' (.inl k2)] at h6
                exact hS.d A A' x x' h1 h2 (by rw [g1]; rfl) (by rw [k1]; rfl) h5 h6
          · exact Nat.le_trans hS.s hbel.size

theorem firstE_ok {P : Program} : ∀ {es : List Ent} {f : FuncId}, (∀ e ∈ es, e.f = f ∧ EntOk P e) → ∀ {args : List AV} {σ : Hp} {c : Nat} {v : AV} {σ' : Hp} {c' : Nat}, firstE es args σ c = some (v, σ', c') →
    Grow c σ c' σ' ∧ ∀ ro n0 φ w us, KB c σ → SRel ro n0 φ σ w → Free c c' φ → LRel φ args us → CallOut P ro n0 c φ w f us v σ' c'
  | [], _, _, _, _, _, _, _, _, h => by cases h
  | e :: es, f, hes, args, σ, c, v, σ', c', h => by
    simp only [firstE] at h
    split at h
    · rename_i r hr
      cases h
      obtain ⟨h1, h2⟩ := hes e (by simp)
      subst h1
      exact applyEnt_ok h2 hr
    · exact firstE_ok (fun x hx => hes x (by simp [hx])) h

theorem hookT_ok {P : Program} {T : Tab} (hT : TabOk P T) : HookOk P (hookT T) := by
  intro f args σ c v σ' c' h
  unfold hookT at h
  split at h
  · cases h
  · rename_i T' hT'
    split at h
    · cases h
    · rename_i l hl
      exact firstE_ok (fun e he => hT f T' _ l e hT' hl he) h

/-- a batch of entries -/
def checkAll (C : Cx) (T : Tab) (fuel : Nat) : List Ent → Bool
  | [] => true
  | e :: es => checkEnt C (hookT T) (drawn C (hookT T)) fuel e && checkAll C T fuel es

theorem TabOk.batch {P : Program} {C : Cx} (hC : CxOk P C) {T : Tab} (hT : TabOk P T) {fuel : Nat} {es : List Ent} (h : checkAll C T fuel es = true) : TabOk P (insAll es T) := by
  refine hT.all es ?_
  induction es with
  | nil => intro e he; cases he
  | cons e es ih =>
    simp only [checkAll, Bool.and_eq_true] at h
    intro x hx
    rcases List.mem_cons.1 hx with rfl | hx
    · exact checkEnt_ok hC (hookT_ok hT) (drawn_ok hC (hookT_ok hT)) h.1
    · exact ih h.2 x hx
end Go.Ev

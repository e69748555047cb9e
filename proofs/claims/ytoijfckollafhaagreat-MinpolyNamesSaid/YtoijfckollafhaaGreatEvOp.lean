/- One operation of the model's code. -/
import Derived.Test.YtoijfckollafhaaGreatEvMem3b
namespace Go.Ev
open Go.RowKit

inductive ARes where
  | val (v : AV) (σ : Hp) (c : Nat)
  | call (f : FuncId) (args : List AV)
  | yld (L : Nat) (args : List AV)
  | rcv
  | dfr (f : FuncId) (caps args : List AV)

def opd (t : Tree AV) : Operand → Option AV
  | .tmp d => some (match t.get d with | some v => v | none => .tup [])
  | .const v => toAV 3 v
  | .global _ => none
  | .func f => some (.fn (.func f) [] [])

def optO (t : Tree AV) : Option Operand → Option (Option AV)
  | none => some none
  | some x => match opd t x with
    | some v => some (some v)
    | none => none

def ePairs (t : Tree AV) : List (Nat × Operand) → Option (List (Nat × AV))
  | [] => some []
  | (i, x) :: xs => match opd t x with
    | none => none
    | some a => match ePairs t xs with
      | none => none
      | some r => some ((i, a) :: r)

def pureR (σ : Hp) (c : Nat) : Option AV → Option ARes
  | some v => some (.val v σ c)
  | none => none
def memR : Option (AV × Hp × Nat) → Option ARes
  | some (v, σ, c) => some (.val v σ c)
  | none => none
def unitR (c : Nat) : Option Hp → Option ARes
  | some σ => some (.val (.tup []) σ c)
  | none => none

def eBuiltin (C : Cx) (ro : Nat) (σ : Hp) (c : Nat) (b : Builtin) (ts : List TypeId) (args : List AV) : Option ARes :=
  match b, args with
  | .append, s :: x :: _ => memR (eAppend C ro σ c ts s x)
  | .copy, d :: x :: _ => match eCopy C ro σ ts d x with
    | some (v, σ') => some (.val v σ' c)
    | none => none
  | .len, x :: _ => pureR σ c (eLen C ts x)
  | .cap, x :: _ => pureR σ c (eCap C ts x)
  | .max, xs => pureR σ c (eMM true xs)
  | .min, xs => pureR σ c (eMM false xs)
  | .recover, _ => some .rcv
  | _, _ => none

def eCall (C : Cx) (ro : Nat) (σ : Hp) (c : Nat) (t : Tree AV) (k : Call) : Option ARes :=
  match mapO (opd t) k.args.toList with
  | none => none
  | some args => match k.callee with
    | .value f => match opd t f with
      | some (.fn (.func g) fs cs) => match C.fns.get g with
        | some _ => some (.call g (fs ++ args ++ cs))
        | none => none
      | some (.yld L) => some (.yld L args)
      | _ => none
    | .builtin b => eBuiltin C ro σ c b k.argTypes.toList args
    | .invoke _ _ => none

def eOp (C : Cx) (ro : Nat) (σ : Hp) (c : Nat) (t : Tree AV) (o : Oper) : Option ARes :=
  match o.op with
  | .move x => pureR σ c (opd t x)
  | .assign x => pureR σ c (opd t x)
  | .pick q a b => match opd t q with
    | some (.bool true) => pureR σ c (opd t a)
    | some (.bool false) => pureR σ c (opd t b)
    | _ => none
  | .alloc e => memR (eAlloc C σ c e)
  | .box _ x => match opd t x with
    | some a => memR (some (eBox σ c a))
    | none => none
  | .build ty ps => match ePairs t ps.toList with
    | some l => pureR σ c (eBuild C ty l)
    | none => none
  | .buildSlice ty len ps => match ePairs t ps.toList with
    | some l => memR (eBuildSlice C σ c ty len l)
    | none => none
  | .load ty a => match opd t a with
    | some a => pureR σ c (eLoad C σ ty a)
    | none => none
  | .store ty a v => match opd t a, opd t v with
    | some a, some v => unitR c (eStore C ro σ ty a v)
    | _, _ => none
  | .nilCheck x => match opd t x with
    | some (.ptr A off) => some (.val (.ptr A off) σ c)
    | some (.fn (.func f) fs cs) => some (.val (.fn (.func f) fs cs) σ c)
    | some (.yld L) => some (.val (.yld L) σ c)
    | some (.ifc ty v) => some (.val (.ifc ty v) σ c)
    | _ => none
  | .binOp op ty x y _ => match opd t x, opd t y with
    | some a, some b => pureR σ c (eBin C op ty x y a b)
    | _, _ => none
  | .unOp op _ x => match op, opd t x with
    | .neg, some (.int k n) => pureR σ c (eInt .sub k 0 n)
    | .xor, some (.int k n) => pureR σ c (eInt .xor k (if k.signed then -1 else k.max) n)
    | .not, some (.bool b) => some (.val (.bool (!b)) σ c)
    | _, _ => none
  | .convert src dst x => match opd t x with
    | some a => pureR σ c (eConv C σ src dst a)
    | none => none
  | .makeInterface ty x => match C.und ty, opd t x with
    | some (.interface _), _ => none
    | some _, some a => some (.val (.ifc ty a) σ c)
    | _, _ => none
  | .makeFunc (.func f) first caps => match mapO (opd t) first.toList, mapO (opd t) caps.toList with
    | some a, some b => some (.val (.fn (.func f) a b) σ c)
    | _, _ => none
  | .makeSlice ty l m => match opd t l, opd t m with
    | some a, some b => memR (eMake C σ c ty a b)
    | _, _ => none
  | .slice ty x lo hi mx => match opd t x, optO t lo, optO t hi, optO t mx with
    | some a, some l, some h, some m => match bound l, bound h, bound m with
      | some l, some h, some m => pureR σ c (eSlice C ty a l h m)
      | _, _, _ => none
    | _, _, _, _ => none
  | .fieldAddr s x f => match opd t x with
    | some a => pureR σ c (eFieldAddr C s a f)
    | none => none
  | .field s x f => match opd t x with
    | some a => pureR σ c (eField C s a f)
    | none => none
  | .indexAddr ty x i => match opd t x, opd t i with
    | some a, some b => pureR σ c (eIndexAddr C ty a b)
    | _, _ => none
  | .index ty x i => match opd t x, opd t i with
    | some a, some b => pureR σ c (eIndex C ty a b)
    | _, _ => none
  | .extract x i => match opd t x with
    | some (.tup vs) => pureR σ c vs[i]?
    | _ => none
  | .call k => eCall C ro σ c t k
  | .defer k => match eCall C ro σ c t k, k.callee with
    | some (.call _ _), .value f => match opd t f, mapO (opd t) k.args.toList with
      | some (.fn (.func g) fs cs), some args => some (.dfr g cs (fs ++ args))
      | _, _ => none
    | _, _ => none
  | _ => none

section
variable {P : Program} {ro n0 c : Nat} {φ : Ren} {σ : Hp} {w : World}

/-- the slots hold what they are told to hold -/
def EvRel (φ : Ren) (t : Tree AV) (ρ : Operand → Value) : Prop := ∀ x a, opd t x = some a → VRel φ a (ρ x)

theorem evRel_frame {nt : Nat} {t : Tree AV} {fr : Frame} (h : TRel φ nt t fr.tmps) : EvRel φ t fr.eval := by
  intro x a e
  cases x with
  | tmp d =>
    simp only [opd] at e
    have := h.2 d
    cases hg : t.get d with
    | none => rw [hg] at e this; cases e; exact this
    | some v => rw [hg] at e this; cases e; exact this
  | const v => exact toAV_rel _ _ _ e
  | global g => cases e
  | func f => cases e; exact .fn .nil .nil

theorem mapO_ops {t : Tree AV} {ρ : Operand → Value} (h : EvRel φ t ρ) : ∀ (l : List Operand) (r : List AV), mapO (opd t) l = some r → LRel φ r (l.map ρ)
  | [], r, e => by cases e; exact .nil
  | x :: xs, r, e => by
    simp only [mapO] at e
    cases h1 : opd t x with
    | none => rw [h1] at e; cases e
    | some a =>
      rw [h1] at e
      dsimp only at e
      cases h2 : mapO (opd t) xs with
      | none => rw [h2] at e; cases e
      | some as => rw [h2] at e; cases e; exact .cons (h _ _ h1) (mapO_ops h xs as h2)

theorem ePairs_ops {t : Tree AV} {ρ : Operand → Value} (h : EvRel φ t ρ) : ∀ (l : List (Nat × Operand)) (r : List (Nat × AV)), ePairs t l = some r → PRel φ r (l.map fun (i, x) => (i, ρ x))
  | [], r, e => by cases e; exact .nil
  | (i, x) :: xs, r, e => by
    simp only [ePairs] at e
    cases h1 : opd t x with
    | none => rw [h1] at e; cases e
    | some a =>
      rw [h1] at e
      dsimp only at e
      cases h2 : ePairs t xs with
      | none => rw [h2] at e; cases e
      | some as => rw [h2] at e; cases e; exact .cons (h _ _ h1) (ePairs_ops h xs as h2)

theorem optO_ops {t : Tree AV} {ρ : Operand → Value} (h : EvRel φ t ρ) {x : Option Operand} {r : Option AV} (e : optO t x = some r) : ORel φ r (x.map ρ) := by
  cases x with
  | none => cases e; exact .none
  | some x =>
    simp only [optO] at e
    cases h1 : opd t x with
    | none => rw [h1] at e; cases e
    | some a => rw [h1] at e; cases e; exact .some (h _ _ h1)

/-- what an operation that gives a value comes to -/
def OutN (P : Program) (ro n0 c : Nat) (φ : Ren) (w : World) (s : Sem Next) (v : AV) (σ' : Hp) (c' : Nat) : Prop :=
  ∃ nx u w' φ', s.run P w = .ok nx w' ∧ (nx = .value u ∨ (nx = .skip ∧ u = undef)) ∧ VRel φ' v u ∧ SRel ro n0 φ' σ' w' ∧ Ext c c' φ φ' ∧ Below n0 w w'

theorem OutN.ofV {s : Sem Value} {v : AV} {σ' : Hp} {c' : Nat} (h : OutV P ro n0 c φ w s v σ' c') : OutN P ro n0 c φ w (do pure (.value (← s))) v σ' c' := by
  obtain ⟨u, w', φ', h1, h2, h3, h4, h5⟩ := h
  exact ⟨.value u, u, w', φ', by simp [h1], .inl rfl, h2, h3, h4, h5⟩

theorem OutN.ofP {s : Sem Value} {v : AV} (h : SRel ro n0 φ σ w) (k : ∃ u, s.run P w = .ok u w ∧ VRel φ v u) : OutN P ro n0 c φ w (do pure (.value (← s))) v σ c :=
  OutN.ofV (OutV.pure h k)

/-- a value as it stands -/
theorem OutN.ret {v : AV} {u : Value} (h : SRel ro n0 φ σ w) (k : VRel φ v u) : OutN P ro n0 c φ w (pure (.value u)) v σ c :=
  ⟨.value u, u, w, φ, rfl, .inl rfl, k, h, Ext.refl _ _, Below.refl _ _⟩

theorem pureR_val {x : Option AV} {v : AV} {σ' : Hp} {c' : Nat} (e : pureR σ c x = some (.val v σ' c')) : x = some v ∧ σ' = σ ∧ c' = c := by
  cases x with
  | none => cases e
  | some y => cases e; exact ⟨rfl, rfl, rfl⟩
theorem memR_val {x : Option (AV × Hp × Nat)} {v : AV} {σ' : Hp} {c' : Nat} (e : memR x = some (.val v σ' c')) : x = some (v, σ', c') := by
  cases x with
  | none => cases e
  | some y => cases e; rfl

theorem eBuiltin_val {C : Cx} (hC : CxOk P C) (h : SRel ro n0 φ σ w) {b : Builtin} {ts : Array TypeId} {args : List AV} {v : AV} {σ' : Hp} {c' : Nat} (e : eBuiltin C ro σ c b ts.toList args = some (.val v σ' c')) (hf : Free c c' φ) {us : List Value} (hargs : LRel φ args us) (ty : TypeId) (consts : Array Bool) :
    OutN P ro n0 c φ w (builtin b ts ty consts us.toArray) v σ' c' := by
  have hts : ts.toList.toArray = ts := by simp
  unfold eBuiltin at e
  split at e
  · cases hargs with
    | cons h1 h2 => cases h2 with
      | cons h2 h3 =>
        refine OutN.ofV (s := Builtin.append_ ts ty _) ?_
        rw [← hts]
        exact eAppend_ok hC h (memR_val e) hf h1 h2 ty _
  · cases hargs with
    | cons h1 h2 => cases h2 with
      | cons h2 h3 =>
        split at e
        · rename_i hc
          cases e
          refine OutN.ofV (s := Builtin.copy_ ts ty _) ?_
          rw [← hts]
          exact eCopy_ok hC h hc h1 h2 ty _
        · cases e
  · cases hargs with
    | cons h1 h2 =>
      obtain ⟨e1, rfl, rfl⟩ := pureR_val e
      refine OutN.ofP (s := Builtin.len_ ts ty _) h ?_
      rw [← hts]
      exact eLen_ok hC e1 h1 ty _
  · cases hargs with
    | cons h1 h2 =>
      obtain ⟨e1, rfl, rfl⟩ := pureR_val e
      refine OutN.ofP (s := Builtin.cap_ ts ty _) h ?_
      rw [← hts]
      exact eCap_ok hC e1 h1 ty _
  · obtain ⟨e1, rfl, rfl⟩ := pureR_val e
    exact OutN.ofP h (eMax'_ok e1 hargs ts ty)
  · obtain ⟨e1, rfl, rfl⟩ := pureR_val e
    exact OutN.ofP h (eMin'_ok e1 hargs ts ty)
  · cases e
  · cases e

theorem resolve_builtin {ρ : Operand → Value} {k : Call} {b : Builtin} (hb : k.callee = .builtin b) (ty : TypeId) :
    ∃ cs, (do let d ← resolve ρ k ty; invoke d.target d.args : Sem Next) = builtin b k.argTypes ty cs (k.args.map ρ) :=
  ⟨_, by simp only [resolve, hb, pure_bind, invoke]; rfl⟩

theorem map_toArray (ρ : Operand → Value) (l : Array Operand) : l.map ρ = (l.toList.map ρ).toArray := by
  apply Array.ext'
  simp

theorem eOp_val {C : Cx} (hC : CxOk P C) (h : SRel ro n0 φ σ w) {t : Tree AV} {o : Oper} {ρ : Operand → Value} (hρ : EvRel φ t ρ) {v : AV} {σ' : Hp} {c' : Nat} (e : eOp C ro σ c t o = some (.val v σ' c')) (hf : Free c c' φ) :
    OutN P ro n0 c φ w (execOp ρ o) v σ' c' := by
  unfold eOp at e
  unfold execOp
  dsimp only
  split at e
  · -- move
    rename_i x hop; rw [hop]
    obtain ⟨e1, rfl, rfl⟩ := pureR_val e
    exact OutN.ret h (hρ _ _ e1)
  · rename_i x hop; rw [hop]
    obtain ⟨e1, rfl, rfl⟩ := pureR_val e
    exact OutN.ret h (hρ _ _ e1)
  · -- pick
    rename_i q a b hop; rw [hop]
    split at e
    · rename_i hq
      obtain ⟨e1, rfl, rfl⟩ := pureR_val e
      have hb := hρ _ _ hq
      generalize hqv : ρ q = qv at hb
      cases hb
      refine ⟨.value (ρ a), ρ a, w, φ, by simp [hqv, asBool], .inl rfl, hρ _ _ e1, h, Ext.refl _ _, Below.refl _ _⟩
    · rename_i hq
      obtain ⟨e1, rfl, rfl⟩ := pureR_val e
      have hb := hρ _ _ hq
      generalize hqv : ρ q = qv at hb
      cases hb
      refine ⟨.value (ρ b), ρ b, w, φ, by simp [hqv, asBool], .inl rfl, hρ _ _ e1, h, Ext.refl _ _, Below.refl _ _⟩
    · cases e
  · -- alloc
    rename_i ty hop; rw [hop]
    exact OutN.ofV (eAlloc_ok hC h (memR_val e) hf)
  · -- box
    rename_i ty x hop; rw [hop]
    split at e
    · rename_i a ha
      exact OutN.ofV (eBox_ok h (Option.some.inj (memR_val e)) hf (hρ _ _ ha))
    · cases e
  · -- build
    rename_i ty ps hop; rw [hop]
    split at e
    · rename_i l hl
      obtain ⟨e1, rfl, rfl⟩ := pureR_val e
      exact OutN.ofP h (eBuild_ok hC e1 (by have := ePairs_ops hρ _ _ hl; simpa using this))
    · cases e
  · -- buildSlice
    rename_i ty len ps hop; rw [hop]
    split at e
    · rename_i l hl
      exact OutN.ofV (eBuildSlice_ok hC h (memR_val e) hf (by have := ePairs_ops hρ _ _ hl; simpa using this))
    · cases e
  · -- load
    rename_i ty a hop; rw [hop]
    split at e
    · rename_i a' ha
      obtain ⟨e1, rfl, rfl⟩ := pureR_val e
      exact OutN.ofP h (eLoad_ok hC h e1 (hρ _ _ ha))
    · cases e
  · -- store
    rename_i ty a x hop; rw [hop]
    split at e
    · rename_i a' x' ha hx
      unfold unitR at e
      split at e
      · rename_i σ2 hst
        cases e
        obtain ⟨w', h1, h2, h3⟩ := eStore_ok (P := P) hC h hst (hρ _ _ ha) (hρ _ _ hx)
        exact ⟨.skip, undef, w', φ, by simp [h1], .inr ⟨rfl, rfl⟩, .tup .nil, h2, Ext.refl _ _, h3⟩
      · cases e
    · cases e
  · -- nilCheck
    rename_i x hop; rw [hop]
    dsimp only
    split at e
    · rename_i A off hx
      cases e
      have hb := hρ _ _ hx
      generalize hqv : ρ x = qv at hb
      cases hb with
      | ptr hφ => exact OutN.ret h (.ptr hφ)
    · rename_i f fs cs hx
      cases e
      have hb := hρ _ _ hx
      generalize hqv : ρ x = qv at hb
      cases hb with
      | fn k1 k2 => exact OutN.ret h (.fn k1 k2)
    · rename_i L hx
      cases e
      have hb := hρ _ _ hx
      generalize hqv : ρ x = qv at hb
      cases hb with
      | yld k1 => exact OutN.ret h (.yld k1)
    · rename_i ty v' hx
      cases e
      have hb := hρ _ _ hx
      generalize hqv : ρ x = qv at hb
      cases hb with
      | ifc k1 => exact OutN.ret h (.ifc k1)
    · cases e
  · -- binOp
    rename_i op ty x y yt hop; rw [hop]
    split at e
    · rename_i a b ha hb
      obtain ⟨e1, rfl, rfl⟩ := pureR_val e
      exact OutN.ofP h (eBin_ok hC e1 (hρ _ _ ha) (hρ _ _ hb))
    · cases e
  · -- unOp
    rename_i op ty x hop; rw [hop]
    split at e
    · rename_i k n hx
      obtain ⟨e1, rfl, rfl⟩ := pureR_val e
      have hb := hρ _ _ hx
      generalize hqv : ρ x = qv at hb
      cases hb
      have := eInt_ok (P := P) (φ := φ) (w := w) e1 (by decide) (by decide) 0
      exact OutN.ofP h (by simpa [Op.unary, binOp, hqv] using this)
    · rename_i k n hx
      obtain ⟨e1, rfl, rfl⟩ := pureR_val e
      have hb := hρ _ _ hx
      generalize hqv : ρ x = qv at hb
      cases hb
      have := eInt_ok (P := P) (φ := φ) (w := w) e1 (by decide) (by decide) 0
      exact OutN.ofP h (by simpa [Op.unary, binOp, hqv] using this)
    · rename_i b hx
      cases e
      have hb := hρ _ _ hx
      generalize hqv : ρ x = qv at hb
      cases hb
      exact OutN.ofP h ⟨.bool (!b), by simp [Op.unary, hqv], .bool _⟩
    · cases e
  · -- convert
    rename_i src dst x hop; rw [hop]
    split at e
    · rename_i a ha
      obtain ⟨e1, rfl, rfl⟩ := pureR_val e
      exact OutN.ofP h (eConv_ok hC h e1 (hρ _ _ ha))
    · cases e
  · -- makeInterface
    rename_i ty x hop; rw [hop]
    split at e
    · cases e
    · rename_i d a hni hu ha
      cases e
      refine OutN.ofP h ⟨.iface ty (ρ x), ?_, .ifc (hρ _ _ ha)⟩
      simp only [Instr.makeInterface, Sem.run_bind, run_und hC hu, Result.andThen_ok]
      rfl
    · cases e
  · -- makeFunc
    rename_i f first caps hop; rw [hop]
    split at e
    · rename_i a b ha hb
      cases e
      refine OutN.ofP h ⟨.func (.func f) (first.map ρ) (caps.map ρ), by simp [Instr.makeFunc], ?_⟩
      rw [map_toArray, map_toArray]
      exact .fn (mapO_ops hρ _ _ ha) (mapO_ops hρ _ _ hb)
    · cases e
  · -- makeSlice
    rename_i ty l m hop; rw [hop]
    split at e
    · rename_i a b ha hb
      exact OutN.ofV (eMake_ok hC h (memR_val e) hf (hρ _ _ ha) (hρ _ _ hb))
    · cases e
  · -- slice
    rename_i ty x lo hi mx hop; rw [hop]
    split at e
    · rename_i a l h' m ha hl hh hm
      split at e
      · rename_i l2 h2 m2 hl2 hh2 hm2
        obtain ⟨e1, rfl, rfl⟩ := pureR_val e
        exact OutN.ofP h (eSlice_ok hC e1 (hρ _ _ ha) (bound_ok (optO_ops hρ hl) hl2) (bound_ok (optO_ops hρ hh) hh2) (bound_ok (optO_ops hρ hm) hm2))
      · cases e
    · cases e
  · -- fieldAddr
    rename_i s x f hop; rw [hop]
    split at e
    · rename_i a ha
      obtain ⟨e1, rfl, rfl⟩ := pureR_val e
      exact OutN.ofP h (eFieldAddr_ok hC e1 (hρ _ _ ha))
    · cases e
  · -- field
    rename_i s x f hop; rw [hop]
    split at e
    · rename_i a ha
      obtain ⟨e1, rfl, rfl⟩ := pureR_val e
      exact OutN.ofP h (eField_ok hC e1 (hρ _ _ ha))
    · cases e
  · -- indexAddr
    rename_i ty x i hop; rw [hop]
    split at e
    · rename_i a b ha hb
      obtain ⟨e1, rfl, rfl⟩ := pureR_val e
      exact OutN.ofP h (eIndexAddr_ok hC e1 (hρ _ _ ha) (hρ _ _ hb))
    · cases e
  · -- index
    rename_i ty x i hop; rw [hop]
    split at e
    · rename_i a b ha hb
      obtain ⟨e1, rfl, rfl⟩ := pureR_val e
      exact OutN.ofP h (eIndex_ok hC e1 (hρ _ _ ha) (hρ _ _ hb))
    · cases e
  · -- extract
    rename_i x i hop; rw [hop]
    split at e
    · rename_i vs hx
      obtain ⟨e1, rfl, rfl⟩ := pureR_val e
      have hb := hρ _ _ hx
      generalize hqv : ρ x = qv at hb
      cases hb with
      | tup k =>
        obtain ⟨u, hu, hr⟩ := k.get _ _ e1
        exact OutN.ofP h ⟨u, by simp [Instr.extract, hqv, hu], hr⟩
    · cases e
  · -- call
    rename_i k hop; rw [hop]
    unfold eCall at e
    split at e
    · cases e
    · rename_i args hargs
      split at e
      · split at e
        · split at e <;> cases e
        · cases e
        · cases e
      · rename_i b hb
        dsimp only
        obtain ⟨cs, hcs⟩ := resolve_builtin (ρ := ρ) hb o.type
        rw [hcs, map_toArray]
        exact eBuiltin_val hC h e hf (mapO_ops hρ _ _ hargs) _ _
      · cases e
  · -- defer
    rename_i k hop
    split at e
    · split at e <;> cases e
    · cases e
  · cases e
theorem eBuiltin_form {C : Cx} {b : Builtin} {ts : List TypeId} {args : List AV} {r : ARes} (e : eBuiltin C ro σ c b ts args = some r) : (∃ v σ' c', r = .val v σ' c') ∨ (r = .rcv ∧ b = .recover) := by
  unfold eBuiltin at e
  split at e
  · unfold memR at e; split at e <;> cases e; exact .inl ⟨_, _, _, rfl⟩
  · split at e <;> cases e; exact .inl ⟨_, _, _, rfl⟩
  · unfold pureR at e; split at e <;> cases e; exact .inl ⟨_, _, _, rfl⟩
  · unfold pureR at e; split at e <;> cases e; exact .inl ⟨_, _, _, rfl⟩
  · unfold pureR at e; split at e <;> cases e; exact .inl ⟨_, _, _, rfl⟩
  · unfold pureR at e; split at e <;> cases e; exact .inl ⟨_, _, _, rfl⟩
  · cases e; exact .inr ⟨rfl, rfl⟩
  · cases e

theorem resolve_value {ρ : Operand → Value} {k : Call} {f : Operand} (hk : k.callee = .value f) {fn : Fn} {first captured : Array Value} (hf : ρ f = .func fn first captured) (ty : TypeId) :
    resolve ρ k ty = pure { target := .fn fn captured, args := first ++ k.args.map ρ } := by
  simp only [resolve, hk, hf, Deferred.ofValue]

theorem eCall_call {C : Cx} (hC : CxOk P C) {t : Tree AV} {k : Call} {ρ : Operand → Value} (hρ : EvRel φ t ρ) {f : FuncId} {args : List AV} (e : eCall C ro σ c t k = some (.call f args)) (ty : TypeId) :
    ∃ us : List Value, (do let d ← resolve ρ k ty; invoke d.target d.args : Sem Next).run P w = .ok (.enter f us.toArray) w ∧ LRel φ args us ∧ ∃ fn, C.fns.get f = some fn := by
  unfold eCall at e
  split at e
  · cases e
  · rename_i as has
    split at e
    · rename_i x hx
      split at e
      · rename_i g fs cs hfx
        split at e
        · rename_i fn hfn
          cases e
          have hb := hρ _ _ hfx
          generalize hqv : ρ x = qv at hb
          cases hb with
          | fn k1 k2 =>
            rename_i us vs
            refine ⟨us ++ k.args.toList.map ρ ++ vs, ?_, (k1.append (mapO_ops hρ _ _ has)).append k2, fn, hfn⟩
            rw [resolve_value hx hqv, pure_bind]
            simp only [invoke]
            have : us.toArray ++ k.args.map ρ ++ vs.toArray = (us ++ k.args.toList.map ρ ++ vs).toArray := by
              apply Array.ext'; simp
            rw [this]
            exact (hC.fns _ _ hfn).2 _ _
        · cases e
      · cases e
      · cases e
    · rcases eBuiltin_form e with ⟨_, _, _, h⟩ | ⟨h, _⟩ <;> cases h
    · cases e

theorem eCall_yld {C : Cx} {t : Tree AV} {k : Call} {ρ : Operand → Value} (hρ : EvRel φ t ρ) {L : Nat} {args : List AV} (e : eCall C ro σ c t k = some (.yld L args)) (ty : TypeId) :
    ∃ (B s n : Nat) (us : List Value), φ L = some (B, s, n) ∧ (do let d ← resolve ρ k ty; invoke d.target d.args : Sem Next) = Instr.yield B us.toArray ∧ LRel φ args us := by
  unfold eCall at e
  split at e
  · cases e
  · rename_i as has
    split at e
    · rename_i x hx
      split at e
      · split at e <;> cases e
      · rename_i L' hfx
        cases e
        have hb := hρ _ _ hfx
        generalize hqv : ρ x = qv at hb
        cases hb with
        | yld hφ =>
          refine ⟨_, _, _, k.args.toList.map ρ, hφ, ?_, mapO_ops hρ _ _ has⟩
          rw [resolve_value hx hqv, pure_bind]
          simp only [invoke]
          congr 1
          apply Array.ext'; simp
      · cases e
    · rcases eBuiltin_form e with ⟨_, _, _, h⟩ | ⟨h, _⟩ <;> cases h
    · cases e

theorem eCall_rcv {C : Cx} {t : Tree AV} {k : Call} {ρ : Operand → Value} (e : eCall C ro σ c t k = some .rcv) (ty : TypeId) :
    (do let d ← resolve ρ k ty; invoke d.target d.args : Sem Next).run P w = .ok .recover w := by
  unfold eCall at e
  split at e
  · cases e
  · split at e
    · split at e
      · split at e <;> cases e
      · cases e
      · cases e
    · rename_i b hb
      rcases eBuiltin_form e with ⟨_, _, _, h⟩ | ⟨_, hb'⟩
      · cases h
      · obtain ⟨cs, hcs⟩ := resolve_builtin (ρ := ρ) hb ty
        rw [hcs, hb']
        rfl
    · cases e

theorem eCall_dfr {C : Cx} {t : Tree AV} {k : Call} {f : FuncId} {caps args : List AV} : eCall C ro σ c t k ≠ some (.dfr f caps args) := by
  intro e
  unfold eCall at e
  split at e
  · cases e
  · split at e
    · split at e
      · split at e <;> cases e
      · cases e
      · cases e
    · rcases eBuiltin_form e with ⟨_, _, _, h⟩ | ⟨h, _⟩ <;> cases h
    · cases e

/-- what an operation that gives no value is -/
theorem eOp_form {C : Cx} {t : Tree AV} {o : Oper} {r : ARes} (e : eOp C ro σ c t o = some r) :
    (∃ v σ' c', r = .val v σ' c') ∨ (∃ k, o.op = .call k ∧ eCall C ro σ c t k = some r) ∨
    (∃ k f g fs cs args as, o.op = .defer k ∧ k.callee = .value f ∧ opd t f = some (.fn (.func g) fs cs) ∧ mapO (opd t) k.args.toList = some args ∧ eCall C ro σ c t k = some (.call g as) ∧ r = .dfr g cs (fs ++ args)) := by
  have hp : ∀ {x : Option AV}, pureR σ c x = some r → ∃ v σ' c', r = .val v σ' c' := by
    intro x h; unfold pureR at h; split at h <;> cases h; exact ⟨_, _, _, rfl⟩
  have hm : ∀ {x : Option (AV × Hp × Nat)}, memR x = some r → ∃ v σ' c', r = .val v σ' c' := by
    intro x h; unfold memR at h; split at h <;> cases h; exact ⟨_, _, _, rfl⟩
  have hu : ∀ {x : Option Hp}, unitR c x = some r → ∃ v σ' c', r = .val v σ' c' := by
    intro x h; unfold unitR at h; split at h <;> cases h; exact ⟨_, _, _, rfl⟩
  unfold eOp at e
  split at e
  case h_23 k hop => exact .inr (.inl ⟨k, hop, e⟩)
  case h_24 k hop =>
    split at e
    · rename_i g0 as f hc hf
      split at e
      · rename_i g fs cs args hfx hargs
        cases e
        refine .inr (.inr ⟨k, f, g, fs, cs, args, as, hop, hf, hfx, hargs, ?_, rfl⟩)
        have : g0 = g := by
          unfold eCall at hc
          rw [hargs, hf] at hc
          dsimp only at hc
          rw [hfx] at hc
          dsimp only at hc
          split at hc <;> cases hc
          rfl
        rw [← this]; exact hc
      · cases e
    · cases e
  case h_25 => cases e
  all_goals
    left
    first
      | exact hp e
      | exact hm e
      | exact hu e
      | (repeat' (split at e)) <;> first | exact hp e | exact hm e | exact hu e | (cases e; done) | (cases e; exact ⟨_, _, _, rfl⟩)
end
end Go.Ev

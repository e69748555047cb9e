/- copy, len, cap, max, min, conversions. -/
import Derived.Test.YtoijfckollafhaaGreatEvMem3
import Derived.Laws.BytesArg
namespace Go.Ev
open Go.RowKit
section
variable {P : Program} {ro n0 c : Nat} {φ : Ren} {σ : Hp} {w : World}

def eLenD : AV → Option Nat
  | .sl _ _ n _ _ _ => some n
  | .nils => some 0
  | .sle => some 0
  | _ => none
def eCopy (C : Cx) (ro : Nat) (σ : Hp) (ts : List TypeId) (d x : AV) : Option (AV × Hp) :=
  match ts with
  | t :: _ => match C.und t with
    | some (.slice elem) => match C.size elem with
      | none => none
      | some size => match eLenOf x, eLenD d with
        | some m, some l => match Nat.min m l with
          | 0 => some (.int .i64 0, σ)
          | n + 1 => match eFirst σ size (n + 1) x, d with
            | some cs, .sl A off _ _ _ _ => match wrCells ro σ A off cs with
              | some σ' => some (.int .i64 (.ofNat (n + 1)), σ')
              | none => none
            | _, _ => none
        | _, _ => none
    | _ => none
  | _ => none

theorem first_zero {x : AV} {u : Value} {size n : Nat} (hl : eLenOf x = some n) (hx : VRel φ x u) : (Builtin.firstCells size 0 u).run P w = .ok #[] w := by
  cases hx <;> simp [eLenOf] at hl <;> simp [Builtin.firstCells, loadCells, loadCellsFrom]

theorem eCopy_ok {C : Cx} (hC : CxOk P C) (h : SRel ro n0 φ σ w) {ts : List TypeId} {d x v : AV} {σ' : Hp} (e : eCopy C ro σ ts d x = some (v, σ')) {ud ux : Value} (hd : VRel φ d ud) (hx : VRel φ x ux) (ty : TypeId) (rest' : List Value) :
    OutV P ro n0 c φ w (Builtin.copy_ ts.toArray ty (ud :: ux :: rest').toArray) v σ' c := by
  unfold eCopy at e
  split at e
  case h_2 => cases e
  case h_1 t rest =>
    split at e
    case h_2 => cases e
    case h_1 elem ht =>
      split at e
      · cases e
      · rename_i size hs
        split at e
        case h_2 => cases e
        case h_1 m l hm hl =>
          have hlen := eLenOf_ok (P := P) (w := w) hm hx
          have ht' := hC.und ht
          have hsz := run_size (P := P) hC hs w
          split at e
          · rename_i hmin
            cases e
            have hf := first_zero (P := P) (w := w) (size := size) hm hx
            refine OutV.pure h ⟨.int .i64 0, ?_, .int _ _⟩
            cases hd <;> simp [eLenD] at hl <;> subst hl <;> simp [Builtin.copy_, run_underlying ht', hlen, hsz, hmin, hf, storeCells, goInt]
          · rename_i n hmin
            split at e
            case h_2 => cases e
            case h_1 cs A off q1 q2 q3 q4 hcs =>
              split at e
              case h_2 => cases e
              case h_1 σ2 hw =>
                cases e
                cases hd with
                | sl hφ h1 h2 h3 h4 =>
                  simp only [eLenD, Option.some.injEq] at hl
                  subst hl
                  obtain ⟨vs, hv1, hv2⟩ := eFirst_ok (P := P) h hcs hx
                  obtain ⟨w', hst, hS, hB⟩ := run_wr (P := P) h hv2 hw hφ
                  refine ⟨.int .i64 (.ofNat (n + 1)), w', φ, ?_, .int _ _, hS, Ext.refl _ _, hB⟩
                  simp [Builtin.copy_, run_underlying ht', hlen, hsz, hmin, hv1, hst, goInt]

def eLen (C : Cx) (ts : List TypeId) (x : AV) : Option AV :=
  match ts with
  | t :: _ => match C.und t, x with
    | some .string, .str s => some (.int .i64 (.ofNat s.size))
    | some (.slice _), .sl _ _ n _ _ _ => some (.int .i64 (.ofNat n))
    | some (.slice _), .nils => some (.int .i64 (.ofNat 0))
    | some (.slice _), .sle => some (.int .i64 (.ofNat 0))
    | some (.array n _), _ => some (.int .i64 (.ofNat n))
    | _, _ => none
  | _ => none
theorem eLen_ok {C : Cx} (hC : CxOk P C) {ts : List TypeId} {x v : AV} (e : eLen C ts x = some v) {u : Value} (hx : VRel φ x u) (ty : TypeId) (rest' : List Value) :
    ∃ r, (Builtin.len_ ts.toArray ty (u :: rest').toArray).run P w = .ok r w ∧ VRel φ v r := by
  unfold eLen at e
  split at e
  case h_2 => cases e
  case h_1 t rest =>
    split at e
    case h_6 => cases e
    case h_5 n el ht => cases e; exact ⟨.int .i64 (.ofNat n), by simp [Builtin.len_, run_und hC ht, goInt], .int _ _⟩
    all_goals (rename_i ht; cases hx; cases e; exact ⟨.int .i64 (.ofNat _), by simp [Builtin.len_, run_und hC ht, goInt], .int _ _⟩)

def eCap (C : Cx) (ts : List TypeId) (x : AV) : Option AV :=
  match ts with
  | t :: _ => match C.und t, x with
    | some (.slice _), .sl _ _ _ cap _ true => some (.int .i64 (.ofNat cap))
    | some (.slice _), .nils => some (.int .i64 (.ofNat 0))
    | _, _ => none
  | _ => none
theorem eCap_ok {C : Cx} (hC : CxOk P C) {ts : List TypeId} {x v : AV} (e : eCap C ts x = some v) {u : Value} (hx : VRel φ x u) (ty : TypeId) (rest' : List Value) :
    ∃ r, (Builtin.cap_ ts.toArray ty (u :: rest').toArray).run P w = .ok r w ∧ VRel φ v r := by
  unfold eCap at e
  split at e
  case h_2 => cases e
  case h_1 t rest =>
    split at e
    case h_3 => cases e
    case h_1 ht =>
      cases hx with
      | sl hφ h1 h2 h3 h4 =>
        cases e
        have := h3 rfl
        subst this
        exact ⟨.int .i64 (.ofNat _), by simp [Builtin.cap_, run_und hC ht, goInt], .int _ _⟩
    case h_2 ht => cases hx; cases e; exact ⟨.int .i64 (.ofNat _), by simp [Builtin.cap_, run_und hC ht, goInt], .int _ _⟩

/-- the greatest, the least of integers -/
def eMax : Int → IntKind → List AV → Option AV
  | m, k, [] => some (.int k m)
  | m, k, .int k' n :: xs => if k = k' then eMax (if n > m then n else m) k xs else none
  | _, _, _ => none
def eMin : Int → IntKind → List AV → Option AV
  | m, k, [] => some (.int k m)
  | m, k, .int k' n :: xs => if k = k' then eMin (if n < m then n else m) k xs else none
  | _, _, _ => none
theorem eMax_ok : ∀ (xs : List AV) (m : Int) (k : IntKind) (v : AV), eMax m k xs = some v → ∀ us, LRel φ xs us → ∃ r, (us.foldlM Builtin.max2 (.int k m)).run P w = .ok r w ∧ VRel φ v r
  | [], m, k, v, e, us, h => by cases h; cases e; exact ⟨_, rfl, .int _ _⟩
  | x :: xs, m, k, v, e, us, h => by
    cases x <;> simp only [eMax] at e <;> try (cases e; done)
    rename_i k' n
    cases h with
    | cons h1 h2 =>
      cases h1
      split at e
      · rename_i hk; subst hk
        obtain ⟨r, hr, hv⟩ := eMax_ok xs _ _ _ e _ h2
        exact ⟨r, by simpa [List.foldlM_cons, Builtin.max2] using hr, hv⟩
      · cases e
theorem eMin_ok : ∀ (xs : List AV) (m : Int) (k : IntKind) (v : AV), eMin m k xs = some v → ∀ us, LRel φ xs us → ∃ r, (us.foldlM Builtin.min2 (.int k m)).run P w = .ok r w ∧ VRel φ v r
  | [], m, k, v, e, us, h => by cases h; cases e; exact ⟨_, rfl, .int _ _⟩
  | x :: xs, m, k, v, e, us, h => by
    cases x <;> simp only [eMin] at e <;> try (cases e; done)
    rename_i k' n
    cases h with
    | cons h1 h2 =>
      cases h1
      split at e
      · rename_i hk; subst hk
        obtain ⟨r, hr, hv⟩ := eMin_ok xs _ _ _ e _ h2
        exact ⟨r, by simpa [List.foldlM_cons, Builtin.min2] using hr, hv⟩
      · cases e

def eMM (mx : Bool) (xs : List AV) : Option AV :=
  match xs with
  | .int k m :: xs => bif mx then eMax m k xs else eMin m k xs
  | _ => none
theorem eMax'_ok {xs : List AV} {v : AV} (e : eMM true xs = some v) {us : List Value} (h : LRel φ xs us) (ts : Array TypeId) (ty : TypeId) : ∃ r, (Builtin.max_ ts ty us.toArray).run P w = .ok r w ∧ VRel φ v r := by
  unfold eMM at e
  split at e
  · cases h with
    | cons h1 h2 => cases h1; exact eMax_ok _ _ _ _ e _ h2
  · cases e
theorem eMin'_ok {xs : List AV} {v : AV} (e : eMM false xs = some v) {us : List Value} (h : LRel φ xs us) (ts : Array TypeId) (ty : TypeId) : ∃ r, (Builtin.min_ ts ty us.toArray).run P w = .ok r w ∧ VRel φ v r := by
  unfold eMM at e
  split at e
  · cases h with
    | cons h1 h2 => cases h1; exact eMin_ok _ _ _ _ e _ h2
  · cases e

/-! ### conversions -/
def bytesOf : List AV → Option (List UInt8)
  | [] => some []
  | .int .u8 (.ofNat n) :: xs => match bytesOf xs with
    | some bs => some (UInt8.ofNat n :: bs)
    | none => none
  | _ => none
def eConv (C : Cx) (σ : Hp) (src dst : TypeId) (x : AV) : Option AV :=
  match C.und src, C.und dst, x with
  | some _, some (.int k), .int _ n => some (.int k (ewrap k n))
  | some .string, some .string, .str s => some (.str s)
  | some (.slice e), some .string, x => match C.und e with
    | some (.int .u8) => match x with
      | .nils => some (.str .empty)
      | .sl A off n _ _ _ => match rdCells σ A off n with
        | some cs => match bytesOf cs with
          | some bs => some (.str ⟨bs.toArray⟩)
          | none => none
        | none => none
      | _ => none
    | _ => none
  | _, _, _ => none
theorem bytesOf_ok : ∀ {cs : List AV} {bs : List UInt8} {us : List Value}, bytesOf cs = some bs → LRel φ cs us → ∃ ns : List Int, us = ns.map (fun n => Value.int .u8 n) ∧ bs = ns.map (fun n => UInt8.ofNat n.toNat)
  | [], bs, us, e, h => by cases e; cases h; exact ⟨[], rfl, rfl⟩
  | x :: xs, bs, us, e, h => by
    cases x <;> try (simp [bytesOf] at e; done)
    rename_i k n
    cases k <;> try (simp [bytesOf] at e; done)
    cases n with
    | negSucc n => simp [bytesOf] at e
    | ofNat n =>
      simp only [bytesOf] at e
      split at e
      · rename_i bs' hb
        cases e
        cases h with
        | cons h1 h2 =>
          cases h1
          obtain ⟨ns, rfl, rfl⟩ := bytesOf_ok hb h2
          exact ⟨.ofNat n :: ns, rfl, rfl⟩
      · cases e

theorem eConv_ok {C : Cx} (hC : CxOk P C) (h : SRel ro n0 φ σ w) {src dst : TypeId} {x v : AV} (e : eConv C σ src dst x = some v) {u : Value} (hx : VRel φ x u) :
    ∃ r, (convert src dst u).run P w = .ok r w ∧ VRel φ v r := by
  unfold eConv at e
  split at e
  · rename_i d k k' n h1 h2
    cases hx; cases e
    refine ⟨.int k (k.wrap n), ?_, by rw [ewrap_eq]; exact .int _ _⟩
    simp [convert, run_und hC h1, run_und hC h2, Conv.intToInt]
  · rename_i s h1 h2
    cases hx; cases e
    exact ⟨.string s, by simp [convert, run_und hC h1, run_und hC h2], .str _⟩
  · rename_i el x' hni hns h1 h2
    split at e
    case h_2 => cases e
    case h_1 h3 =>
      split at e
      · cases hx; cases e
        exact ⟨.string .empty, by simp [convert, run_und hC h1, run_und hC h2, run_und hC h3, Conv.bytesToString], .str _⟩
      · cases hx with
        | sl hφ k1 k2 k3 k4 =>
          split at e
          case h_2 => cases e
          case h_1 cs hcs =>
            split at e
            case h_2 => cases e
            case h_1 bs hbs =>
              cases e
              obtain ⟨us, r1, r2, r3, r4⟩ := run_rd (P := P) h hcs hφ
              obtain ⟨ns, rfl, rfl⟩ := bytesOf_ok hbs r2
              refine ⟨.string ⟨(ns.map fun n => UInt8.ofNat n.toNat).toArray⟩, ?_, .str _⟩
              rw [run_convert_bytes_string w src dst _ _ _ _ (hC.und h1) (hC.und h3) (hC.und h2), run_bytesToString w _ _ _ ns r1, foldl_push_bytes]
              simp [ByteArray.empty, ByteArray.emptyWithCapacity]
              rfl
      · cases e
  · cases e
end
end Go.Ev

/- Reading, writing, slicing. -/
import Derived.Test.YtoijfckollafhaaGreatEvMem
namespace Go.Ev
open Go.RowKit

section
variable {P : Program} {ro n0 c : Nat} {φ : Ren} {σ : Hp} {w : World}

theorem add_none (B o n : Nat) : (⟨B, o, none⟩ : Addr).add n = ⟨B, o + n, none⟩ := by
  unfold Addr.add; split <;> simp_all

def eLoad (C : Cx) (σ : Hp) (t : TypeId) (a : AV) : Option AV :=
  match a with
  | .ptr A off => match C.isAgg t with
    | some true => match C.size t with
      | some n => match rdCells σ A off n with
        | some cs => some (.agg cs)
        | none => none
      | none => none
    | some false => match rdCells σ A off 1 with
      | some (v :: _) => some v
      | _ => none
    | none => none
  | _ => none

theorem run_load1 {A B s m off : Nat} {v : AV} {cs : List AV} (h : SRel ro n0 φ σ w) (e : rdCells σ A off 1 = some (v :: cs)) (hφ : φ A = some (B, s, m)) :
    ∃ u, w.cell? ⟨B, s + off, none⟩ = some u ∧ VRel φ v u := by
  obtain ⟨B', s', m', us, hφ', hr, hl, hc⟩ := rd_cells h e
  rw [hφ] at hφ'; cases hφ'
  cases hr with
  | cons hv ht =>
    rename_i u us'
    have := hc 0 u rfl
    exact ⟨u, by simpa using this, hv⟩

theorem eLoad_ok {C : Cx} (hC : CxOk P C) (h : SRel ro n0 φ σ w) {t : TypeId} {a v : AV} (e : eLoad C σ t a = some v) {u : Value} (ha : VRel φ a u) :
    ∃ r, (Instr.loadAt t u).run P w = .ok r w ∧ VRel φ v r := by
  unfold eLoad at e
  split at e
  case h_2 => cases e
  case h_1 A off =>
    cases ha with
    | ptr hφ =>
      rename_i B s m
      split at e
      · rename_i hg
        split at e
        · rename_i n hs
          split at e
          · rename_i cs hr
            cases e
            obtain ⟨us, h1, h2, h3, _⟩ := run_rd (P := P) h hr hφ
            refine ⟨.agg us.toArray, ?_, .agg h2⟩
            simp [Instr.loadAt, Instr.sureAddr, loadVar, run_isAgg hC hg, run_size hC hs, h1]
          · cases e
        · cases e
      · rename_i hg
        split at e
        · rename_i v' cs hr
          cases e
          obtain ⟨u, h1, h2⟩ := run_load1 h hr hφ
          refine ⟨u, ?_, h2⟩
          simp [Instr.loadAt, Instr.sureAddr, loadVar, run_isAgg hC hg, h1]
        · cases e
      · cases e

def eStore (C : Cx) (ro : Nat) (σ : Hp) (t : TypeId) (a v : AV) : Option Hp :=
  match a with
  | .ptr A off => match C.size t with
    | some n => bif Nat.beq v.cells.length n then wrCells ro σ A off v.cells else none
    | none => none
  | _ => none

theorem eStore_okF {C : Cx} (hC : CxOk P C) (h : SRel ro n0 φ σ w) {t : TypeId} {a v : AV} {σ' : Hp} (e : eStore C ro σ t a v = some σ') {u x : Value} (ha : VRel φ a u) (hv : VRel φ v x) :
    ∃ w', (Instr.storeAt t u x).run P w = .ok () w' ∧ SRel ro n0 φ σ' w' ∧ Below n0 w w' ∧ ∀ A off B s m, a = .ptr A off → φ A = some (B, s, m) → ∀ k, k ≠ B → w'.heap[k]? = w.heap[k]? := by
  unfold eStore at e
  split at e
  case h_2 => cases e
  case h_1 A off =>
    cases ha with
    | ptr hφ =>
      rename_i B s m
      split at e
      · rename_i n hs
        cases hb : Nat.beq v.cells.length n with
        | false => rw [hb] at e; cases e
        | true =>
          rw [hb] at e
          simp only [cond_true] at e
          have hl : v.cells.length = n := by simpa using hb
          obtain ⟨w', h1, h2, h3, h4⟩ := run_wrF (P := P) h hv.cells e hφ
          have hc := hv.cells.length
          simp only [Array.length_toList] at hc
          have hn : x.cells.size = n := by omega
          refine ⟨w', ?_, h2, h3, fun A' off' B' s' m' hA hφ' => by cases hA; rw [hφ] at hφ'; cases hφ'; exact h4⟩
          simp [Instr.storeAt, Instr.sureAddr, storeVar, run_size hC hs, hn, h1]
      · cases e

theorem eStore_ok {C : Cx} (hC : CxOk P C) (h : SRel ro n0 φ σ w) {t : TypeId} {a v : AV} {σ' : Hp} (e : eStore C ro σ t a v = some σ') {u x : Value} (ha : VRel φ a u) (hv : VRel φ v x) :
    ∃ w', (Instr.storeAt t u x).run P w = .ok () w' ∧ SRel ro n0 φ σ' w' ∧ Below n0 w w' := by
  obtain ⟨w', h1, h2, h3, _⟩ := eStore_okF (P := P) hC h e ha hv
  exact ⟨w', h1, h2, h3⟩

def ePart (C : Cx) (t : TypeId) (cs : List AV) (off : Nat) : Option AV :=
  match C.isAgg t with
  | some true => match C.size t with
    | some n => match lsub cs off n with
      | some r => some (.agg r)
      | none => none
    | none => none
  | some false => cs[off]?
  | none => none
theorem ePart_ok {C : Cx} (hC : CxOk P C) {t : TypeId} {cs : List AV} {off : Nat} {v : AV} (e : ePart C t cs off = some v) {ccs : Array Value} (hc : LRel φ cs ccs.toList) :
    ∃ u, (part t ccs off).run P w = .ok u w ∧ VRel φ v u := by
  unfold ePart at e
  split at e
  · rename_i hg
    split at e
    · rename_i n hs
      split at e
      · rename_i r hr
        cases e
        obtain ⟨h1, h2, h3⟩ := lsub_eq hr
        refine ⟨.agg (ccs.extract off (off + n)), ?_, ?_⟩
        · simp [part, run_isAgg hC hg, run_size hC hs]
        · have := VRel.agg ((hc.drop off).take n)
          rw [← h1] at this
          have he : ((ccs.toList.drop off).take n).toArray = ccs.extract off (off + n) := by
            apply Array.ext'
            simp [List.take_drop]
          rw [he] at this
          exact this
      · cases e
    · cases e
  · rename_i hg
    obtain ⟨u, hu, hr⟩ := hc.get off v e
    refine ⟨u, ?_, hr⟩
    have : ccs[off]? = some u := by simpa using hu
    simp [part, run_isAgg hC hg, this]
  · cases e

def eField (C : Cx) (t : TypeId) (a : AV) (f : Nat) : Option AV :=
  match C.und t, a with
  | some (.struct fields), .agg cs => match fields[f]? with
    | some fd => ePart C fd.type cs fd.offset
    | none => none
  | _, _ => none
theorem eField_ok {C : Cx} (hC : CxOk P C) {t : TypeId} {a v : AV} {f : Nat} (e : eField C t a f = some v) {u : Value} (ha : VRel φ a u) :
    ∃ r, (Instr.field t u f).run P w = .ok r w ∧ VRel φ v r := by
  unfold eField at e
  split at e
  case h_2 => cases e
  case h_1 fields cs hu =>
    cases ha with
    | agg hc =>
      rename_i vs
      split at e
      · rename_i fd hfd
        obtain ⟨r, h1, h2⟩ := ePart_ok (w := w) hC e (ccs := vs.toArray) (by simpa using hc)
        refine ⟨r, ?_, h2⟩
        simp [Instr.field, run_und hC hu, hfd, asAgg, h1]
      · cases e

def eFieldAddr (C : Cx) (t : TypeId) (a : AV) (f : Nat) : Option AV :=
  match C.und t, a with
  | some (.struct fields), .ptr A off => match fields[f]? with
    | some fd => match C.size fd.type with
      | some (_ + 1) => some (.ptr A (off + fd.offset))
      | _ => none
    | none => none
  | _, _ => none
theorem eFieldAddr_ok {C : Cx} (hC : CxOk P C) {t : TypeId} {a v : AV} {f : Nat} (e : eFieldAddr C t a f = some v) {u : Value} (ha : VRel φ a u) :
    ∃ r, (Instr.fieldAt t u f).run P w = .ok r w ∧ VRel φ v r := by
  unfold eFieldAddr at e
  split at e
  case h_2 => cases e
  case h_1 fields A off hu =>
    cases ha with
    | ptr hφ =>
      rename_i B s m
      split at e
      · rename_i fd hfd
        split at e
        · rename_i n hs
          cases e
          refine ⟨.pointer (some ⟨B, s + (off + fd.offset), none⟩), ?_, .ptr hφ⟩
          simp [Instr.fieldAt, run_und hC hu, hfd, Instr.sureAddr, fieldPlace, run_size hC hs, add_none, Nat.add_assoc]
        · cases e
      · cases e

def eIndex (C : Cx) (t : TypeId) (a i : AV) : Option AV :=
  match C.und t, a, i with
  | some (.array len elem), .agg cs, .int _ (.ofNat n) => match C.size elem with
    | some sz => bif Nat.blt n len then ePart C elem cs (n * sz) else none
    | none => none
  | some .string, .str s, .int _ (.ofNat n) => match s[n]? with
    | some b => some (.int .u8 (.ofNat b.toNat))
    | none => none
  | _, _, _ => none
theorem eIndex_ok {C : Cx} (hC : CxOk P C) {t : TypeId} {a i v : AV} (e : eIndex C t a i = some v) {u x : Value} (ha : VRel φ a u) (hi : VRel φ i x) :
    ∃ r, (Instr.index t u x).run P w = .ok r w ∧ VRel φ v r := by
  unfold eIndex at e
  split at e
  case h_3 => cases e
  case h_1 len elem cs k n hu =>
    cases hi
    cases ha with
    | agg hc =>
      rename_i vs
      split at e
      · rename_i sz hs
        cases hb : Nat.blt n len with
        | false => rw [hb] at e; cases e
        | true =>
          rw [hb] at e
          simp only [cond_true] at e
          have hlt : n < len := by simpa using hb
          obtain ⟨r, h1, h2⟩ := ePart_ok (w := w) hC e (ccs := vs.toArray) (by simpa using hc)
          refine ⟨r, ?_, h2⟩
          simp [Instr.index, asIntOf, run_und hC hu, hlt, run_size hC hs, h1]
      · cases e
  case h_2 s k n hu =>
    cases hi; cases ha
    split at e
    · rename_i b hb
      cases e
      refine ⟨.int .u8 b.toNat, ?_, .int _ _⟩
      simp [Instr.index, asIntOf, run_und hC hu, hb]
    · cases e

def eIndexAddr (C : Cx) (t : TypeId) (a i : AV) : Option AV :=
  match C.und t, a, i with
  | some (.slice elem), .sl A off len _ _ _, .int _ (.ofNat n) => match C.size elem with
    | some sz => bif Nat.blt n len then some (.ptr A (off + n * sz)) else none
    | none => none
  | some (.array len elem), .ptr A off, .int _ (.ofNat n) => match C.size elem with
    | some sz => bif Nat.blt n len then some (.ptr A (off + n * sz)) else none
    | none => none
  | _, _, _ => none
theorem eIndexAddr_ok {C : Cx} (hC : CxOk P C) {t : TypeId} {a i v : AV} (e : eIndexAddr C t a i = some v) {u x : Value} (ha : VRel φ a u) (hi : VRel φ i x) :
    ∃ r, (Instr.indexAt t u x).run P w = .ok r w ∧ VRel φ v r := by
  unfold eIndexAddr at e
  split at e
  case h_3 => cases e
  case h_1 elem A off len cap esz ex k n hu =>
    cases hi
    cases ha with
    | sl hφ h1 h2 h3 h4 =>
      rename_i B s m cc
      split at e
      · rename_i sz hs
        cases hb : Nat.blt n len with
        | false => rw [hb] at e; cases e
        | true =>
          rw [hb] at e; cases e
          have hlt : n < len := by simpa using hb
          refine ⟨.pointer (some ⟨B, s + (off + n * sz), none⟩), ?_, .ptr hφ⟩
          simp [Instr.indexAt, asIntOf, run_und hC hu, hlt, run_size hC hs, add_none, Nat.add_assoc]
      · cases e
  case h_2 len elem A off k n hu =>
    cases hi
    cases ha with
    | ptr hφ =>
      rename_i B s m
      split at e
      · rename_i sz hs
        cases hb : Nat.blt n len with
        | false => rw [hb] at e; cases e
        | true =>
          rw [hb] at e; cases e
          have hlt : n < len := by simpa using hb
          refine ⟨.pointer (some ⟨B, s + (off + n * sz), none⟩), ?_, .ptr hφ⟩
          simp [Instr.indexAt, asIntOf, run_und hC hu, hlt, run_size hC hs, add_none, Nat.add_assoc, Instr.sureAddr]
      · cases e

/-! ### slices of slices -/
/-- a bound: none: not written; some n: n -/
def bound (x : Option AV) : Option (Option Nat) :=
  match x with
  | none => some none
  | some (.int _ (.ofNat n)) => some (some n)
  | _ => none

inductive ORel (φ : Ren) : Option AV → Option Value → Prop
  | none : ORel φ none none
  | some {a : AV} {v : Value} (h : VRel φ a v) : ORel φ (some a) (some v)

def intV (x : Option Nat) (v : Option Value) : Prop := match x with
  | none => v = none
  | some n => ∃ k, v = some (.int k n)
theorem bound_ok {x : Option AV} {y : Option Value} {b : Option Nat} (h : ORel φ x y) (e : bound x = some b) : intV b y := by
  unfold bound at e
  split at e
  · cases h; cases e; rfl
  · rename_i k n
    cases h with
    | some h => cases h; cases e; exact ⟨k, rfl⟩
  · cases e

/-- where the bounds lie: low, high, greatest -/
def bounds3 (len cap : Nat) (lo hi mx : Option Nat) : Option (Nat × Nat × Nat) :=
  match mx, hi with
  | some _, none => none
  | mx, hi =>
    let m := mx.getD cap
    let h := hi.getD len
    let l := lo.getD 0
    bif Nat.ble m cap && Nat.ble h m && Nat.ble l h then some (l, h, m) else none

theorem run_bounds {len cap cc : Nat} {lo hi mx : Option Nat} {l h m : Nat} (e : bounds3 len cap lo hi mx = some (l, h, m)) (hcap : cap ≤ cc) {vl vh vm : Option Value} (hl : intV lo vl) (hh : intV hi vh) (hm : intV mx vm) :
    (Instr.sliceBounds true len cc vl vh vm).run P w = .ok (l, h, if mx.isSome then m else cc) w ∧ l ≤ h ∧ h ≤ m ∧ m ≤ cap ∧ (mx = none → m = cap) := by
  have hsb : ∀ (k : IntKind) (n y : Nat) (code : BoundsCode), n ≤ y → (Instr.sliceBound (.int k n) y code).run P w = .ok n w := by
    intro k n y code hny
    have := run_sliceBound (P := P) w k n y code (by omega) (by omega)
    simpa using this
  unfold bounds3 at e
  split at e
  · cases e
  · rename_i mx' hi' hne
    dsimp only at e
    cases hb : (Nat.ble (mx.getD cap) cap && Nat.ble (hi.getD len) (mx.getD cap) && Nat.ble (lo.getD 0) (hi.getD len)) with
    | false => rw [hb] at e; cases e
    | true =>
      rw [hb] at e; cases e
      simp only [Bool.and_eq_true] at hb
      obtain ⟨⟨h1, h2⟩, h3⟩ := hb
      have h1 := Nat.le_of_ble_eq_true h1
      have h2 := Nat.le_of_ble_eq_true h2
      have h3 := Nat.le_of_ble_eq_true h3
      refine ⟨?_, h3, h2, h1, fun hx => by subst hx; rfl⟩
      cases mx with
      | none =>
        simp only [Option.getD_none] at h1 h2
        cases hm
        cases hi with
        | none =>
          cases hh
          cases lo with
          | none => cases hl; simp [Instr.sliceBounds]
          | some l =>
            obtain ⟨k, rfl⟩ := hl
            simp only [Option.getD_some, Option.getD_none] at h3
            simp [Instr.sliceBounds, hsb _ _ _ _ h3]
        | some hv =>
          obtain ⟨k, rfl⟩ := hh
          simp only [Option.getD_some] at h2 h3
          cases lo with
          | none => cases hl; simp [Instr.sliceBounds, hsb _ _ _ _ (Nat.le_trans h2 hcap)]
          | some l =>
            obtain ⟨k', rfl⟩ := hl
            simp only [Option.getD_some] at h3
            simp [Instr.sliceBounds, hsb _ _ _ _ (Nat.le_trans h2 hcap), hsb _ _ _ _ h3]
      | some mv =>
        obtain ⟨km, rfl⟩ := hm
        simp only [Option.getD_some] at h1 h2
        cases hi with
        | none => exact absurd rfl (hne mv rfl)
        | some hv =>
          obtain ⟨k, rfl⟩ := hh
          simp only [Option.getD_some] at h2 h3
          cases lo with
          | none => cases hl; simp [Instr.sliceBounds, hsb _ _ _ _ (Nat.le_trans h1 hcap), hsb _ _ _ _ h2]
          | some l =>
            obtain ⟨k', rfl⟩ := hl
            simp only [Option.getD_some] at h3
            simp [Instr.sliceBounds, hsb _ _ _ _ (Nat.le_trans h1 hcap), hsb _ _ _ _ h2, hsb _ _ _ _ h3]
def eSlice (C : Cx) (t : TypeId) (x : AV) (lo hi mx : Option Nat) : Option AV :=
  match C.und t, x with
  | some (.slice elem), .sl A off len cap esz ex =>
    match C.size elem with
    | none => none
    | some sz => bif Nat.beq sz esz then
        match bounds3 len cap lo hi mx with
        | none => none
        | some (l, h, m) =>
          bif ex || mx.isSome then
            bif Nat.beq l m then some (.sl A off (h - l) 0 esz true) else some (.sl A (off + l * esz) (h - l) (m - l) esz true)
          else
            bif Nat.blt l m then some (.sl A (off + l * esz) (h - l) (m - l) esz false)
            else bif Nat.beq l 0 then some (.sl A off 0 0 esz false) else some .sle
      else none
  | some (.slice elem), .nils => match C.size elem with
    | none => none
    | some _ => match bounds3 0 0 lo hi mx with
      | some _ => some .nils
      | none => none
  | some .string, .str s => match mx with
    | some _ => none
    | none => match bounds3 s.size s.size lo hi none with
      | some (l, h, _) => some (.str (s.extract l h))
      | none => none
  | _, _ => none

theorem run_boundsS {len : Nat} {lo hi : Option Nat} {l h m : Nat} (e : bounds3 len len lo hi none = some (l, h, m)) {vl vh : Option Value} (hl : intV lo vl) (hh : intV hi vh) :
    (Instr.sliceBounds false len len vl vh none).run P w = .ok (l, h, len) w := by
  have hsb : ∀ (k : IntKind) (n y : Nat) (code : BoundsCode), n ≤ y → (Instr.sliceBound (.int k n) y code).run P w = .ok n w := by
    intro k n y code hny
    have := run_sliceBound (P := P) w k n y code (by omega) (by omega)
    simpa using this
  unfold bounds3 at e
  simp only [Option.getD_none] at e
  cases hb : (Nat.ble len len && Nat.ble (hi.getD len) len && Nat.ble (lo.getD 0) (hi.getD len)) with
  | false => rw [hb] at e; cases e
  | true =>
    rw [hb] at e; cases e
    simp only [Bool.and_eq_true] at hb
    obtain ⟨⟨h1, h2⟩, h3⟩ := hb
    have h2 := Nat.le_of_ble_eq_true h2
    have h3 := Nat.le_of_ble_eq_true h3
    cases hi with
    | none =>
      cases hh
      cases lo with
      | none => cases hl; simp [Instr.sliceBounds]
      | some l =>
        obtain ⟨k, rfl⟩ := hl
        simp only [Option.getD_some, Option.getD_none] at h3
        simp [Instr.sliceBounds, hsb _ _ _ _ h3]
    | some hv =>
      obtain ⟨k, rfl⟩ := hh
      simp only [Option.getD_some] at h2 h3
      cases lo with
      | none => cases hl; simp [Instr.sliceBounds, hsb _ _ _ _ h2]
      | some l =>
        obtain ⟨k', rfl⟩ := hl
        simp only [Option.getD_some] at h3
        simp [Instr.sliceBounds, hsb _ _ _ _ h2, hsb _ _ _ _ h3]

theorem eSlice_ok {C : Cx} (hC : CxOk P C) {t : TypeId} {x v : AV} {lo hi mx : Option Nat} (e : eSlice C t x lo hi mx = some v) {u : Value} (hx : VRel φ x u) {vl vh vm : Option Value} (hl : intV lo vl) (hh : intV hi vh) (hm : intV mx vm) :
    ∃ r, (Instr.sliceAt t u vl vh vm).run P w = .ok r w ∧ VRel φ v r := by
  unfold eSlice at e
  split at e
  case h_4 => cases e
  case h_1 elem A off len cap esz ex hu =>
    cases hx with
    | sl hφ h1 h2 h3 h4 =>
      rename_i B s m cc
      split at e
      · cases e
      · rename_i sz hs
        cases hb : Nat.beq sz esz with
        | false => rw [hb] at e; cases e
        | true =>
          rw [hb] at e
          simp only [cond_true] at e
          have hsz : sz = esz := by simpa using hb
          subst hsz
          split at e
          · cases e
          · rename_i l h' m' hb3
            obtain ⟨hr, hlh, hhm, hmc, hmn⟩ := run_bounds (P := P) (w := w) hb3 h2 hl hh hm
            have hrun : ∀ mm, (if mx.isSome = true then m' else cc) = mm → (Instr.sliceAt t (.slice (some ⟨B, s + off, none⟩) len cc) vl vh vm).run P w =
                .ok (.slice (some (if mm = l then ⟨B, s + off, none⟩ else ⟨B, s + off + l * sz, none⟩)) (h' - l) (mm - l)) w := by
              intro mm hmm
              rw [hmm] at hr
              have hs' : (if mm = l then (some ⟨B, s + off, none⟩ : Option Addr) else Option.map (fun (x : Addr) => x.add (l * sz)) (some (⟨B, s + off, none⟩ : Addr))) = some (if mm = l then ⟨B, s + off, none⟩ else ⟨B, s + off + l * sz, none⟩) := by
                split <;> simp [add_none]
              simp only [Instr.sliceAt, Sem.run_bind, run_und hC hu, Result.andThen_ok, Instr.slice, hr, run_size hC hs, Sem.run_pure, hs']
            cases hex : (ex || mx.isSome) with
            | true =>
              rw [hex] at e
              simp only [cond_true] at e
              have hmm : (if mx.isSome = true then m' else cc) = m' := by
                cases hmx : mx with
                | some q => rfl
                | none =>
                  rw [hmx] at hex
                  simp at hex
                  have := h3 hex
                  have := hmn hmx
                  simp; omega
              refine ⟨_, hrun m' hmm, ?_⟩
              cases hlm : Nat.beq l m' with
              | true =>
                rw [hlm] at e; cases e
                have hlm' : l = m' := by simpa using hlm
                rw [if_pos hlm'.symm, show m' - l = 0 by omega]
                exact .sl hφ (by omega) (by omega) (fun _ => rfl) (by omega)
              | false =>
                rw [hlm] at e; cases e
                have hlm' : ¬ m' = l := by intro hh; subst hh; simp at hlm
                rw [if_neg hlm', Nat.add_assoc]
                refine .sl hφ (by omega) (by omega) (fun _ => rfl) ?_
                have : l * sz + (m' - l) * sz = m' * sz := by rw [← Nat.add_mul]; congr 1; omega
                have : m' * sz ≤ cc * sz := Nat.mul_le_mul_right _ (by omega)
                omega
            | false =>
              rw [hex] at e
              simp only [cond_false] at e
              simp only [Bool.or_eq_false_iff] at hex
              have hmm : (if mx.isSome = true then m' else cc) = cc := by rw [hex.2]; rfl
              have hmx : mx = none := by cases mx with | none => rfl | some q => exact absurd hex.2 (by simp)
              have hmcap := hmn hmx
              refine ⟨_, hrun cc hmm, ?_⟩
              cases hlm : Nat.blt l m' with
              | true =>
                rw [hlm] at e; cases e
                have hlm' : l < m' := by simpa using hlm
                rw [if_neg (by omega), Nat.add_assoc]
                refine .sl hφ (by omega) (by omega) (fun hh => by cases hh) ?_
                have : l * sz + (cc - l) * sz = cc * sz := by rw [← Nat.add_mul]; congr 1; omega
                omega
              | false =>
                rw [hlm] at e
                simp only [cond_false] at e
                have hlm' : ¬ l < m' := by intro hh; have : Nat.blt l m' = true := by simpa using hh
                                           rw [this] at hlm; cases hlm
                have hl0 : h' - l = 0 := by omega
                rw [hl0]
                cases hz : Nat.beq l 0 with
                | true =>
                  rw [hz] at e; cases e
                  have hz' : l = 0 := by simpa using hz
                  subst hz'
                  simp only [Nat.zero_mul, Nat.add_zero, ite_self, Nat.sub_zero]
                  exact .sl hφ (by omega) (by omega) (fun hh => by cases hh) (by omega)
                | false =>
                  rw [hz] at e; cases e
                  split
                  · exact .sle _ _ _
                  · exact .sle _ _ _
  case h_2 elem hu =>
    cases hx
    split at e
    · cases e
    · rename_i sz hs
      split at e
      case h_2 => cases e
      case h_1 q hb3 =>
        obtain ⟨l, h', m'⟩ := q
        cases e
        obtain ⟨hr, hlh, hhm, hmc, hmn⟩ := run_bounds (P := P) (w := w) hb3 (Nat.le_refl 0) hl hh hm
        have hl0 : l = 0 := by omega
        have hh0 : h' = 0 := by omega
        have hm0 : m' = 0 := by omega
        subst hl0; subst hh0; subst hm0
        simp only [ite_self] at hr
        refine ⟨.slice none 0 0, ?_, .nils⟩
        simp [Instr.sliceAt, Instr.slice, run_und hC hu, hr, run_size hC hs]
  case h_3 s hu =>
    cases hx
    split at e
    · cases e
    · cases hm
      split at e
      case h_2 => cases e
      case h_1 l h' m' hb3 =>
        cases e
        have hr := run_boundsS (P := P) (w := w) hb3 hl hh
        refine ⟨.string (s.extract l h'), ?_, .str _⟩
        simp [Instr.sliceAt, run_und hC hu, Instr.slice, hr]
end
end Go.Ev

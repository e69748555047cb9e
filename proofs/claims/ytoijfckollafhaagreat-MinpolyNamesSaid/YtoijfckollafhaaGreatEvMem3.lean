/- make, append, copy, len, cap, max, min, conversions. -/
import Derived.Test.YtoijfckollafhaaGreatEvMem2
namespace Go.Ev
open Go.RowKit

section
variable {P : Program} {ro n0 c : Nat} {φ : Ren} {σ : Hp} {w : World}

def eMake (C : Cx) (σ : Hp) (c : Nat) (t : TypeId) (l m : AV) : Option (AV × Hp × Nat) :=
  match C.und t, l, m with
  | some (.slice elem), .int _ (.ofNat l), .int _ (.ofNat m) =>
    match C.tys.get elem with
    | none => none
    | some i => match C.zero elem with
      | none => none
      | some z => bif Nat.ble l m && Nat.ble (i.bytes * m) 281474976710656 && Nat.ble m 1099511627776 && Nat.beq z.cells.length i.size && Nat.blt 0 i.size then
          some (.sl c 0 l m i.size true, σ.set c (some (.cells (repL m z.cells))), c + 1)
        else none
  | _, _, _ => none

theorem eMake_ok {C : Cx} (hC : CxOk P C) (h : SRel ro n0 φ σ w) {t : TypeId} {l m v : AV} {σ' : Hp} {c' : Nat} (e : eMake C σ c t l m = some (v, σ', c')) (hf : Free c c' φ) {x y : Value} (hx : VRel φ l x) (hy : VRel φ m y) :
    OutV P ro n0 c φ w (Instr.makeSlice t x y) v σ' c' := by
  unfold eMake at e
  split at e
  case h_2 => cases e
  case h_1 elem k l k' m hu =>
    cases hx; cases hy
    split at e
    · cases e
    · rename_i i hi
      split at e
      · cases e
      · rename_i z hz
        cases hb : (Nat.ble l m && Nat.ble (i.bytes * m) 281474976710656 && Nat.ble m 1099511627776 && Nat.beq z.cells.length i.size && Nat.blt 0 i.size) with
        | false => rw [hb] at e; cases e
        | true =>
          rw [hb] at e; cases e
          simp only [Bool.and_eq_true] at hb
          obtain ⟨⟨⟨⟨h1, h2⟩, h3⟩, h4⟩, h5⟩ := hb
          have h1 := Nat.le_of_ble_eq_true h1
          have h2 := Nat.le_of_ble_eq_true h2
          have h3 := Nat.le_of_ble_eq_true h3
          have h4 : z.cells.length = i.size := by simpa using h4
          have h5 : 0 < i.size := by simpa using h5
          obtain ⟨zc, hz1, hz2, i', hi1, hi2, hi3⟩ := run_zero (w := w) hC hz φ
          rw [hi] at hi1; cases hi1
          have hzl := hz2.cells.length
          simp only [Array.length_toList] at hzl
          have hzs : zc.cells.size = i.size := by omega
          have hcells : LRel φ (repL m z.cells) (madeCells zc.cells (m * i.size)).toList := by
            unfold madeCells
            rw [← hzs, zeros_list]; exact repL_rel hz2.cells m
          have hb' : (i.bytes : Int) * (m : Int) ≤ 281474976710656 := by
            have : ((i.bytes * m : Nat) : Int) ≤ 281474976710656 := by omega
            rwa [Int.natCast_mul] at this
          have hrun := run_make (P := P) w t elem i zc (hC.und hu) hi2 hi3 k k' l m (by omega) (by omega) hb' (by omega)
          simp only [Int.toNat_natCast] at hrun
          refine out_new h (hf c (Nat.le_refl _) (by omega)) elem hcells fun φ' hφ' => ?_
          refine ⟨.slice (some ⟨w.heap.size, 0, none⟩) l m, hrun, ?_⟩
          have := VRel.sl (φ := φ') (off := 0) (len := l) (cap := m) (c := m) (esz := i.size) (ex := true) hφ' h1 (Nat.le_refl _) (fun _ => rfl) (by rw [size_madeCells]; omega)
          simpa using this

/-! ### what is appended or copied -/
def bytesAV (s : ByteArray) : List AV := s.data.toList.map fun b => .int .u8 (.ofNat b.toNat)

/-- how many elements -/
def eLenOf : AV → Option Nat
  | .sl _ _ n _ _ _ => some n
  | .nils => some 0
  | .sle => some 0
  | .str s => some s.size
  | _ => none
/-- the first n of them, each of so many cells -/
def eFirst (σ : Hp) (size n : Nat) : AV → Option (List AV)
  | .sl A off _ _ _ _ => rdCells σ A off (n * size)
  | .nils => bif Nat.beq n 0 then some [] else none
  | .sle => bif Nat.beq n 0 then some [] else none
  | .str s => bif Nat.beq size 1 then takeX n (bytesAV s) else none
  | _ => none

theorem eLenOf_ok {a : AV} {n : Nat} (e : eLenOf a = some n) {u : Value} (ha : VRel φ a u) : (Builtin.lenOf u).run P w = .ok n w := by
  unfold eLenOf at e
  split at e <;> first | (cases e; done) | (cases ha; cases e; rfl)

theorem bytes_rel (s : ByteArray) : LRel φ (bytesAV s) (s.data.map fun b => Value.int .u8 b.toNat).toList := by
  unfold bytesAV
  rw [Array.toList_map]
  induction s.data.toList with
  | nil => exact .nil
  | cons b bs ih => exact .cons (.int _ _) ih

theorem eFirst_ok (h : SRel ro n0 φ σ w) {size n : Nat} {a : AV} {r : List AV} (e : eFirst σ size n a = some r) {u : Value} (ha : VRel φ a u) :
    ∃ us : List Value, (Builtin.firstCells size n u).run P w = .ok us.toArray w ∧ LRel φ r us := by
  unfold eFirst at e
  split at e
  · cases ha with
    | sl hφ h1 h2 h3 h4 =>
      obtain ⟨us, hr, hl, _, _⟩ := run_rd (P := P) h e hφ
      exact ⟨us, by simpa [Builtin.firstCells] using hr, hl⟩
  · cases ha
    cases hb : Nat.beq n 0 with
    | false => rw [hb] at e; cases e
    | true => rw [hb] at e; cases e; exact ⟨[], by simp [Builtin.firstCells], .nil⟩
  · cases ha
    cases hb : Nat.beq n 0 with
    | false => rw [hb] at e; cases e
    | true =>
      rw [hb] at e; cases e
      have hn : n = 0 := by simpa using hb
      subst hn
      exact ⟨[], by simp [Builtin.firstCells, loadCells, loadCellsFrom], .nil⟩
  · cases ha
    rename_i s
    cases hb : Nat.beq size 1 with
    | false => rw [hb] at e; cases e
    | true =>
      rw [hb] at e
      simp only [cond_true] at e
      obtain ⟨h1, h2⟩ := takeX_eq _ _ _ e
      subst h1
      refine ⟨((s.data.map fun b => Value.int .u8 b.toNat).toList).take n, ?_, (bytes_rel s).take n⟩
      have he : (Array.map (fun b => Value.int IntKind.u8 ↑b.toNat) (s.extract 0 n).data) = (List.take n (Array.map (fun b => Value.int IntKind.u8 ↑b.toNat) s.data).toList).toArray := by
        apply Array.ext'
        simp [ByteArray.data_extract]
      simp only [Builtin.firstCells, Sem.run_pure, he]
  · cases e

theorem kill_lt {A : Nat} {x : Nat × Nat × Nat} (h : SRel ro n0 φ σ w) (hs : (σ.get A).isSome = true) (hx : φ A = some x) : x.1 < w.heap.size := h.lt hs hx

/-- the world's row turns hands: the old name is forgotten, a new one given -/
theorem SRel.regrow (h : SRel ro n0 φ σ w) {A B s m : Nat} (hA : φ A = some (B, s, m)) (hro : ro ≤ A) (hsome : (σ.get A).isSome = true) (hc : φ c = none) {ccs : Array Value} {ety : TypeId}
    (hh : w.heap[B]? = some (.cells ccs ety (0, 0))) (hm : ccs.size = m) {o : Nat} {old new : List AV} {us : List Value}
    (hold : LRel φ old ((ccs.toList.drop o).take old.length)) (hnew : LRel φ new us) (hfit : o + old.length + us.length ≤ ccs.size) :
    SRel ro n0 (φ.ext c (B, o, m)) ((σ.set A none).set c (some (.cells (old ++ new)))) (w.setRow B (ccs.toList.take (o + old.length) ++ us ++ ccs.toList.drop (o + old.length + us.length)).toArray) ∧
    Below n0 w (w.setRow B (ccs.toList.take (o + old.length) ++ us ++ ccs.toList.drop (o + old.length + us.length)).toArray) := by
  obtain ⟨row, hrow⟩ : ∃ row, (ccs.toList.take (o + old.length) ++ us ++ ccs.toList.drop (o + old.length + us.length)).toArray = row := ⟨_, rfl⟩
  have hcA : c ≠ A := fun hh => by subst hh; rw [hc] at hA; cases hA
  have hB : B < w.heap.size := h.lt hsome hA
  have hrl : row.size = ccs.size := by rw [← hrow]; simp; omega
  have hn0 : n0 ≤ B := h.o A _ hro hsome hA
  rw [hrow]
  have hle := Ren.le_ext (B, o, m) hc
  refine ⟨⟨?_, ?_, ?_, ?_⟩, below_setRow (Below.refl _ _) hn0 _⟩
  · intro D b e
    rw [Tree.get_set] at e
    by_cases hD : D = c
    · subst hD
      rw [if_pos rfl] at e; cases e
      refine ⟨_, Ren.ext_self _ _ _, row, ety, setRow_heap w B ccs _ ety _ hh, by show row.size = m; omega, ?_, ?_⟩
      · have := hnew.length
        simp only [List.length_append]; show o + _ ≤ row.size; omega
      · have hl := hnew.length
        have : (row.toList.drop o).take (old ++ new).length = (ccs.toList.drop o).take old.length ++ us := by
          rw [← hrow]
          simp only [List.append_assoc]
          rw [List.drop_append_of_le_length (by simp; omega), List.drop_take, Nat.add_sub_cancel_left, List.length_append]
          have e1 : ((ccs.toList.drop o).take old.length).length = old.length := by simp; omega
          rw [List.take_append, e1, Nat.add_sub_cancel_left, List.take_append, hl, Nat.sub_self]
          rw [List.take_of_length_le (by rw [e1]; omega), List.take_of_length_le (l := us) (by omega)]
          simp
        show LRel _ (old ++ new) ((row.toList.drop o).take (old ++ new).length)
        rw [this]
        exact (hold.append hnew).mono hle
    · rw [if_neg hD, Tree.get_set] at e
      by_cases hDA : D = A
      · subst hDA; rw [if_pos rfl] at e; cases e
      · rw [if_neg hDA] at e
        obtain ⟨y, hy, hr⟩ := h.h D b e
        refine ⟨y, hle _ _ hy, hr.mono hle (setRow_other w B y.1 _ ?_)⟩
        exact fun heq => h.d A D _ y hro (Ne.symm hDA) hsome (by rw [e]; rfl) hA hy heq.symm
  · intro D x hr hs hx
    rw [Tree.get_set] at hs
    by_cases hD : D = c
    · subst hD; rw [Ren.ext_self] at hx; cases hx; exact hn0
    · rw [if_neg hD, Tree.get_set] at hs
      rw [Ren.ext_other _ _ hD] at hx
      by_cases hDA : D = A
      · subst hDA; simp at hs
      · rw [if_neg hDA] at hs; exact h.o D x hr hs hx
  · intro D D' x x' hr hne hs hs' hx hx'
    have get' : ∀ E, E ≠ c → (((σ.set A none).set c (some (.cells (old ++ new)))).get E).isSome = true → E ≠ A ∧ (σ.get E).isSome = true := by
      intro E hE hsE
      rw [Tree.get_set, if_neg hE, Tree.get_set] at hsE
      by_cases hEA : E = A
      · subst hEA; simp at hsE
      · rw [if_neg hEA] at hsE; exact ⟨hEA, hsE⟩
    by_cases hD : D = c
    · subst hD
      rw [Ren.ext_self] at hx; cases hx
      obtain ⟨h1, h2⟩ := get' D' (Ne.symm hne) hs'
      rw [Ren.ext_other _ _ (Ne.symm hne)] at hx'
      exact h.d A D' (B, s, m) x' hro (Ne.symm h1) hsome h2 hA hx'
    · obtain ⟨h1, h2⟩ := get' D hD hs
      rw [Ren.ext_other _ _ hD] at hx
      by_cases hD' : D' = c
      · subst hD'
        rw [Ren.ext_self] at hx'; cases hx'
        exact h.d D A x (B, s, m) hr h1 h2 hsome hx hA
      · obtain ⟨h3, h4⟩ := get' D' hD' hs'
        rw [Ren.ext_other _ _ hD'] at hx'
        exact h.d D D' x x' hr hne h2 h4 hx hx'
  · have := h.s
    simp; omega

theorem rd_len {A off n : Nat} {r : List AV} (e : rdCells σ A off n = some r) : r.length = n := by
  unfold rdCells at e
  split at e
  · exact (lsub_eq e).2.1
  · cases e

theorem rd_seg (h : SRel ro n0 φ σ w) {A off n B s m : Nat} {r : List AV} (e : rdCells σ A off n = some r) (hφ : φ A = some (B, s, m)) :
    ∃ ccs ety, w.heap[B]? = some (.cells ccs ety (0, 0)) ∧ ccs.size = m ∧ LRel φ r ((ccs.toList.drop (s + off)).take r.length) ∧ (σ.get A).isSome = true := by
  unfold rdCells at e
  split at e
  case h_2 => cases e
  case h_1 cs hA =>
    obtain ⟨x, hφ', ccs, ety, hh, hsz, hle, hc⟩ := h.h A _ hA
    rw [hφ] at hφ'; cases hφ'
    dsimp only at hh hsz hle hc
    obtain ⟨h1, h2, h3⟩ := lsub_eq e
    refine ⟨ccs, ety, hh, hsz, ?_, by rw [hA]; rfl⟩
    rw [h2, h1]
    rcases h3 with h3 | h3
    · have := (hc.drop off).take n
      rw [List.drop_take, List.drop_drop, List.take_take, Nat.min_eq_left (by omega)] at this
      exact this
    · subst h3; simp; exact .nil

def eAppend (C : Cx) (ro : Nat) (σ : Hp) (c : Nat) (ts : List TypeId) (s x : AV) : Option (AV × Hp × Nat) :=
  match ts with
  | t :: u :: _ =>
    match C.und t, C.und u with
    | some (.slice _), some (.int _) => none
    | some (.slice elem), some _ =>
      match C.tys.get elem with
      | none => none
      | some i => match i.zero with
       | none => none
       | some z => match eLenOf x with
        | none => none
        | some 0 => match s with
          | .nils => some (.nils, σ, c)
          | .sl A off len cap esz ex => some (.sl A off len cap esz ex, σ, c)
          | .sle => some (.sle, σ, c)
          | _ => none
        | some (n + 1) => match eFirst σ i.size (n + 1) x with
          | none => none
          | some new => match s with
            | .nils => bif Nat.ble ((n + 1) * i.bytes) 140737488355328 && Nat.ble (n + 1) 1099511627776 && Nat.beq new.length ((n + 1) * i.size) && Nat.beq z.cells.size i.size then
                some (.sl c 0 (n + 1) (n + 1) i.size false, σ.set c (some (.cells new)), c + 1) else none
            | .sl A off len cap esz ex =>
              bif Nat.beq esz i.size then
                bif Nat.ble (len + (n + 1)) cap then
                  match wrCells ro σ A (off + len * esz) new with
                  | some σ' => some (.sl A off (len + (n + 1)) cap esz ex, σ', c)
                  | none => none
                else bif Nat.ble ((len + (n + 1)) * i.bytes) 140737488355328 && Nat.ble (len + (n + 1)) 1099511627776 && Nat.beq new.length ((n + 1) * i.size) && Nat.beq z.cells.size i.size then
                  match rdCells σ A off (len * esz) with
                  | none => none
                  | some old =>
                    bif ex then some (.sl c 0 (len + (n + 1)) (len + (n + 1)) esz false, σ.set c (some (.cells (old ++ new))), c + 1)
                    else bif Nat.ble ro A && allOne new then some (.sl c 0 (len + (n + 1)) (len + (n + 1)) esz false, (σ.set A none).set c (some (.cells (old ++ new))), c + 1)
                    else none
                else none
              else none
            | _ => none
    | _, _ => none
  | _ => none

theorem app_zero {t u ty elem : TypeId} {d : TypeDesc} {i : TypeInfo} (ht : P.underlying t = some (.slice elem)) (hu : P.underlying u = some d) (hd : ∀ k, d ≠ .int k) (hi : P.info? elem = some i)
    {base : Option Addr} {sLen sCap : Nat} {x : Value} (hl : (Builtin.lenOf x).run P w = .ok 0 w) (hf : ∃ us : List Value, us = [] ∧ (Builtin.firstCells i.size 0 x).run P w = .ok us.toArray w) (hcap : sLen ≤ sCap) (rest : List TypeId) (rest' : List Value) :
    (Builtin.append_ (t :: u :: rest).toArray ty (.slice base sLen sCap :: x :: rest').toArray).run P w = .ok (.slice base sLen sCap) w := by
  obtain ⟨us, rfl, hf⟩ := hf
  cases base with
  | none => simp [Builtin.append_, run_underlying ht, run_underlying hu, sizeOf, typeInfo, hi, hl, hf, hcap]
  | some a => simp [Builtin.append_, run_underlying ht, run_underlying hu, sizeOf, typeInfo, hi, hl, hf, hcap, storeCells]

theorem app_room {t u ty elem : TypeId} {d : TypeDesc} {i : TypeInfo} (ht : P.underlying t = some (.slice elem)) (hu : P.underlying u = some d) (hd : ∀ k, d ≠ .int k) (hi : P.info? elem = some i)
    {a : Addr} {sLen sCap n : Nat} {x : Value} {us : List Value} {w' : World} (hl : (Builtin.lenOf x).run P w = .ok n w) (hf : (Builtin.firstCells i.size n x).run P w = .ok us.toArray w) (hcap : sLen + n ≤ sCap)
    (hs : (storeCells (a.add (sLen * i.size)) us).run P w = .ok () w') (rest : List TypeId) (rest' : List Value) :
    (Builtin.append_ (t :: u :: rest).toArray ty (.slice (some a) sLen sCap :: x :: rest').toArray).run P w = .ok (.slice (some a) (sLen + n) sCap) w' := by
  simp [Builtin.append_, run_underlying ht, run_underlying hu, sizeOf, typeInfo, hi, hl, hf, hcap, hs]

theorem app_grow {t u ty elem : TypeId} {d : TypeDesc} {i : TypeInfo} {z : Value} (ht : P.underlying t = some (.slice elem)) (hu : P.underlying u = some d) (hd : ∀ k, d ≠ .int k) (hi : P.info? elem = some i) (hzero : i.zero = some z)
    {base : Option Addr} {sLen sCap n : Nat} {x : Value} {olds us : List Value} (hl : (Builtin.lenOf x).run P w = .ok n w) (ho : (Builtin.firstCells i.size sLen (.slice base sLen sCap)).run P w.drew = .ok olds.toArray w.drew)
    (hf : (Builtin.firstCells i.size n x).run P w.drew = .ok us.toArray w.drew) (hcap : sCap < sLen + n) (h63 : sLen + n ≤ 1099511627776) (h48 : (sLen + n) * i.bytes ≤ 140737488355328) (rest : List TypeId) (rest' : List Value) :
    (Builtin.append_ (t :: u :: rest).toArray ty (.slice base sLen sCap :: x :: rest').toArray).run P w =
      .ok (.slice (some ⟨w.heap.size, 0, none⟩) (sLen + n) (grownCap w (sLen + n) sCap elem)) (w.drew.alloc (.cells ((olds ++ us).toArray ++ Builtin.zeroCells z.cells (grownCap w (sLen + n) sCap elem - (sLen + n))) elem)) := by
  have hn : ¬ (sLen + n ≤ sCap) := by omega
  have h63' : ¬ (9223372036854775807 < ((sLen : Int) + (n : Int))) := by omega
  have hfit := growslice_fits (bytes := i.bytes) hcap h48
  have h48' : ¬ (281474976710656 < Builtin.nextslicecap (sLen + n) sCap * i.bytes) := by omega
  simp [Builtin.append_, run_underlying ht, run_underlying hu, sizeOf, typeInfo, zeroValue, hi, hzero, hl, hn, h63', h48', Question.forced, ho, hf, newRow, grownCap]
  congr 2
  apply Array.ext'
  simp

theorem LRel.take_left {a : List AV} {v : List Value} (h : LRel φ a v) (z : List Value) : LRel φ a ((v ++ z).take a.length) := by
  rw [h.length, List.take_left']
  · exact h
  · rfl

/-- new cells at the next number, with more behind them than is told -/
theorem out_newS (h : SRel ro n0 φ σ w) (hf : φ c = none) {acs : List AV} {ccs : Array Value} {vs zs : List Value} (e : TypeId) (hcc : ccs.toList = vs ++ zs) (hc : LRel φ acs vs) {s : Sem Value} {v : AV}
    (hv : ∀ φ', φ' c = some (w.heap.size, 0, ccs.size) → ∃ u, s.run P w = .ok u (w.drew.alloc (.cells ccs e)) ∧ VRel φ' v u) :
    OutV P ro n0 c φ w s v (σ.set c (some (.cells acs))) (c + 1) := by
  obtain ⟨u, h1, h2⟩ := hv (φ.ext c (w.heap.size, 0, ccs.size)) (Ren.ext_self _ _ _)
  have hl := hc.length
  have hsz : ccs.size = vs.length + zs.length := by rw [← Array.length_toList, hcc, List.length_append]
  refine ⟨u, _, _, h1, h2, ?_, Ext.alloc _, ((Below.refl _ _).drew).alloc h.s _⟩
  refine SRel.alloc (w := w.drew) h.drew hf (.cells acs) _ ccs.size ⟨ccs, e, heap_alloc_new _ _, rfl, ?_, ?_⟩
  · show 0 + acs.length ≤ ccs.size
    omega
  · show LRel _ acs ((ccs.toList.drop 0).take acs.length)
    rw [List.drop_zero, hcc]
    exact (hc.take_left zs).mono (Ren.le_ext _ hf)
theorem Cx.not_int {C : Cx} {t u : TypeId} {elem : TypeId} {d : TypeDesc} (h1 : C.und t = some (.slice elem)) (h2 : C.und u = some d) (h : ∀ k, C.und t = some (.slice elem) → C.und u = some (.int k) → False) : ∀ k, d ≠ .int k :=
  fun k hk => h k h1 (by rw [h2, hk])

theorem eAppend_ok {C : Cx} (hC : CxOk P C) (h : SRel ro n0 φ σ w) {ts : List TypeId} {s x v : AV} {σ' : Hp} {c' : Nat} (e : eAppend C ro σ c ts s x = some (v, σ', c')) (hf : Free c c' φ) {us ux : Value} (hs : VRel φ s us) (hx : VRel φ x ux) (ty : TypeId) (rest' : List Value) :
    OutV P ro n0 c φ w (Builtin.append_ ts.toArray ty (us :: ux :: rest').toArray) v σ' c' := by
  unfold eAppend at e
  split at e
  case h_2 => cases e
  case h_1 t u rest =>
    split at e
    · cases e
    case h_3 => cases e
    case h_2 elem d hni ht hu =>
      have hd : ∀ k, d ≠ .int k := fun k hk => hni k (by rw [hk])
      split at e
      · cases e
      · rename_i i hi
        split at e
        · cases e
        · rename_i z hz
          have hi' := hC.tys _ _ hi
          have ht' := hC.und ht
          have hu' := hC.und hu
          split at e
          · cases e
          · -- nothing is appended
            rename_i hl
            have hlen := eLenOf_ok (P := P) (w := w) hl hx
            have hfirst : ∃ us : List Value, us = [] ∧ (Builtin.firstCells i.size 0 ux).run P w = .ok us.toArray w := by
              refine ⟨[], rfl, ?_⟩
              cases hx <;> simp [eLenOf] at hl <;> simp [Builtin.firstCells, loadCells, loadCellsFrom]
            split at e
            · cases hs; cases e
              exact OutV.pure h ⟨_, app_zero ht' hu' hd hi' hlen hfirst (Nat.le_refl 0) rest rest', .nils⟩
            · cases hs with
              | sl hφ h1 h2 h3 h4 => cases e; exact OutV.pure h ⟨_, app_zero ht' hu' hd hi' hlen hfirst (by omega) rest rest', .sl hφ h1 h2 h3 h4⟩
            · cases hs with
              | sle B o cc => cases e; exact OutV.pure h ⟨_, app_zero ht' hu' hd hi' hlen hfirst (by omega) rest rest', .sle _ _ _⟩
            · cases e
          · rename_i n hl
            have hlen := eLenOf_ok (P := P) (w := w) hl hx
            split at e
            · cases e
            · rename_i new hnew
              split at e
              · -- to a nil slice
                cases hs
                cases hb : (Nat.ble ((n + 1) * i.bytes) 140737488355328 && Nat.ble (n + 1) 1099511627776 && Nat.beq new.length ((n + 1) * i.size) && Nat.beq z.cells.size i.size) with
                | false => rw [hb] at e; cases e
                | true =>
                  rw [hb] at e; cases e
                  simp only [Bool.and_eq_true] at hb
                  obtain ⟨⟨⟨hb1, hb2⟩, hb3⟩, hb4⟩ := hb
                  have hb1 := Nat.le_of_ble_eq_true hb1
                  have hb2 := Nat.le_of_ble_eq_true hb2
                  have hb3 : new.length = (n + 1) * i.size := by simpa using hb3
                  have hzs : z.cells.size = i.size := by simpa using hb4
                  obtain ⟨vs, hv1, hv2⟩ := eFirst_ok (P := P) h.drew hnew hx
                  have hrun := app_grow (P := P) (w := w) ht' hu' hd hi' hz (base := none) (sLen := 0) (sCap := 0) (olds := []) hlen (by simp [Builtin.firstCells]) hv1 (by omega) (by omega) (by simpa using hb1) rest rest' (ty := ty)
                  rw [List.nil_append, Nat.zero_add] at hrun
                  have hvl := hv2.length
                  refine out_newS (ccs := vs.toArray ++ Builtin.zeroCells z.cells (grownCap w (n + 1) 0 elem - (n + 1))) (zs := (Builtin.zeroCells z.cells (grownCap w (n + 1) 0 elem - (n + 1))).toList) h (hf c (Nat.le_refl _) (by omega)) elem (by simp) hv2 fun φ' hφ' => ?_
                  refine ⟨_, hrun, ?_⟩
                  have hge := grownCap_ge w (n + 1) 0 elem
                  have hsum : (n + 1) * i.size + (grownCap w (n + 1) 0 elem - (n + 1)) * i.size = grownCap w (n + 1) 0 elem * i.size := by rw [← Nat.add_mul]; congr 1; omega
                  have := VRel.sl (φ := φ') (off := 0) (len := n + 1) (cap := n + 1) (c := grownCap w (n + 1) 0 elem) (esz := i.size) (ex := false) hφ' (Nat.le_refl _) hge (fun hh => by cases hh) (by
                    simp only [Array.size_append, List.size_toArray, size_zeroCells, hzs]; omega)
                  simpa using this
              · rename_i A off len cap esz ex
                cases hs with
                | sl hφ h1 h2 h3 h4 =>
                  rename_i B s m cc
                  cases hbe : Nat.beq esz i.size with
                  | false => rw [hbe] at e; cases e
                  | true =>
                    rw [hbe] at e
                    simp only [cond_true] at e
                    have hesz : esz = i.size := by simpa using hbe
                    subst hesz
                    cases hroom : Nat.ble (len + (n + 1)) cap with
                    | true =>
                      -- there is room
                      rw [hroom] at e
                      simp only [cond_true] at e
                      have hroom' := Nat.le_of_ble_eq_true hroom
                      split at e
                      case h_2 => cases e
                      case h_1 σ2 hw =>
                        cases e
                        obtain ⟨vs, hv1, hv2⟩ := eFirst_ok (P := P) h hnew hx
                        obtain ⟨w', hst, hS, hB⟩ := run_wr (P := P) h hv2 hw hφ
                        have hst' : (storeCells ((⟨B, s + off, none⟩ : Addr).add (len * i.size)) vs).run P w = .ok () w' := by
                          rw [add_none, Nat.add_assoc]; exact hst
                        have hrun := app_room (P := P) (w := w) ht' hu' hd hi' hlen hv1 (by omega) hst' rest rest' (ty := ty) (sCap := cc)
                        exact ⟨_, w', φ, hrun, .sl hφ (by omega) h2 h3 h4, hS, Ext.refl _ _, hB⟩
                    | false =>
                      rw [hroom] at e
                      simp only [cond_false] at e
                      have hroom' : cap < len + (n + 1) := by
                        apply Nat.lt_of_not_le; intro hh; have := Nat.ble_eq_true_of_le hh; rw [this] at hroom; cases hroom
                      cases hb : (Nat.ble ((len + (n + 1)) * i.bytes) 140737488355328 && Nat.ble (len + (n + 1)) 1099511627776 && Nat.beq new.length ((n + 1) * i.size) && Nat.beq z.cells.size i.size) with
                      | false => rw [hb] at e; cases e
                      | true =>
                        rw [hb] at e
                        simp only [cond_true] at e
                        simp only [Bool.and_eq_true] at hb
                        obtain ⟨⟨⟨hb1, hb2⟩, hb3⟩, hb4⟩ := hb
                        have hb1 := Nat.le_of_ble_eq_true hb1
                        have hb2 := Nat.le_of_ble_eq_true hb2
                        have hb3 : new.length = (n + 1) * i.size := by simpa using hb3
                        have hzs : z.cells.size = i.size := by simpa using hb4
                        split at e
                        · cases e
                        · rename_i old hold
                          have ho : eFirst σ i.size len (.sl A off len cap i.size ex) = some old := hold
                          -- the new row
                          have hgrow : cc < len + (n + 1) → ∀ σ0, SRel ro n0 φ σ0 w → OutV P ro n0 c φ w (Builtin.append_ (t :: u :: rest).toArray ty (.slice (some ⟨B, s + off, none⟩) len cc :: ux :: rest').toArray)
                              (.sl c 0 (len + (n + 1)) (len + (n + 1)) i.size false) (σ0.set c (some (.cells (old ++ new)))) (c + 1) := by
                            intro hcc σ0 hσ0
                            have hfc : φ c = none := by
                              cases hex : ex with
                              | true => rw [hex] at e; cases e; exact hf c (Nat.le_refl _) (by omega)
                              | false =>
                                rw [hex] at e
                                simp only [cond_false] at e
                                cases hro : (Nat.ble ro A && allOne new) with
                                | false => rw [hro] at e; cases e
                                | true => rw [hro] at e; cases e; exact hf c (Nat.le_refl _) (by omega)
                            obtain ⟨vs, hv1, hv2⟩ := eFirst_ok (P := P) h.drew hnew hx
                            obtain ⟨os, ho1, ho2⟩ := eFirst_ok (P := P) h.drew ho (.sl hφ h1 h2 h3 h4)
                            have hrun := app_grow (P := P) (w := w) ht' hu' hd hi' hz hlen ho1 hv1 hcc hb2 hb1 rest rest' (ty := ty)
                            have hvl := hv2.length
                            have hol := ho2.length
                            have hol2 := rd_len hold
                            refine out_newS (ccs := (os ++ vs).toArray ++ Builtin.zeroCells z.cells (grownCap w (len + (n + 1)) cc elem - (len + (n + 1)))) (zs := (Builtin.zeroCells z.cells (grownCap w (len + (n + 1)) cc elem - (len + (n + 1)))).toList) hσ0 hfc elem (by simp) (ho2.append hv2) fun φ' hφ' => ?_
                            refine ⟨_, hrun, ?_⟩
                            have hge := grownCap_ge w (len + (n + 1)) cc elem
                            have hsum : (len + (n + 1)) * i.size + (grownCap w (len + (n + 1)) cc elem - (len + (n + 1))) * i.size = grownCap w (len + (n + 1)) cc elem * i.size := by rw [← Nat.add_mul]; congr 1; omega
                            have hsum2 : (len + (n + 1)) * i.size = len * i.size + (n + 1) * i.size := Nat.add_mul _ _ _
                            have := VRel.sl (φ := φ') (off := 0) (len := len + (n + 1)) (cap := len + (n + 1)) (c := grownCap w (len + (n + 1)) cc elem) (esz := i.size) (ex := false) hφ' (Nat.le_refl _) hge (fun hh => by cases hh) (by
                              simp only [Array.size_append, List.size_toArray, List.length_append, size_zeroCells, hzs]; omega)
                            simpa using this
                          cases hex : ex with
                          | true =>
                            rw [hex] at e; cases e
                            have := h3 hex
                            exact hgrow (by omega) σ h
                          | false =>
                            rw [hex] at e
                            simp only [cond_false] at e
                            cases hro : (Nat.ble ro A && allOne new) with
                            | false => rw [hro] at e; cases e
                            | true =>
                              rw [hro] at e; cases e
                              simp only [Bool.and_eq_true] at hro
                              have hroA := Nat.le_of_ble_eq_true hro.1
                              rcases Nat.lt_or_ge cc (len + (n + 1)) with hcc | hcc
                              · exact hgrow hcc _ (h.kill A)
                              · obtain ⟨ccs, ety, hh, hm, hseg, hsome⟩ := rd_seg h hold hφ
                                obtain ⟨vs, hv1, hv2⟩ := eFirst_ok (P := P) h hnew hx
                                have hfc : φ c = none := hf c (Nat.le_refl _) (by omega)
                                have hol := rd_len hold
                                have hvl := hv2.length
                                have hsum : (len + (n + 1)) * i.size ≤ cc * i.size := Nat.mul_le_mul_right _ hcc
                                have hsum2 : (len + (n + 1)) * i.size = len * i.size + (n + 1) * i.size := Nat.add_mul _ _ _
                                have hfit : s + off + old.length + vs.length ≤ ccs.size := by omega
                                obtain ⟨hS, hB⟩ := h.regrow hφ hroA hsome hfc hh hm hseg hv2 hfit
                                have hst := run_storeCells_at P B (s + off + old.length) ety vs 0 ccs w hh (by simpa using hfit) (hv2.one hro.2)
                                simp only [Nat.add_zero] at hst
                                have hst' : (storeCells ((⟨B, s + off, none⟩ : Addr).add (len * i.size)) vs).run P w = .ok () (w.setRow B (ccs.toList.take (s + off + old.length) ++ vs ++ ccs.toList.drop (s + off + old.length + vs.length)).toArray) := by
                                  rw [add_none, ← hol]; exact hst
                                have hrun := app_room (P := P) (w := w) ht' hu' hd hi' hlen hv1 hcc hst' rest rest' (ty := ty) (sCap := cc)
                                refine ⟨_, _, _, hrun, ?_, hS, Ext.alloc _, hB⟩
                                have := VRel.sl (φ := φ.ext c (B, s + off, m)) (off := 0) (len := len + (n + 1)) (cap := len + (n + 1)) (c := cc) (esz := i.size) (ex := false) (Ren.ext_self _ _ _) (Nat.le_refl _) hcc (fun hh => by cases hh) (by omega)
                                simpa using this
              · cases e
end
end Go.Ev

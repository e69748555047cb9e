/- Operations on memory. -/
import Derived.Test.YtoijfckollafhaaGreatEvPure
import Derived.Laws.Build
namespace Go.Ev
open Go.RowKit

/-- what one piece of the model's work gives -/
def OutV (P : Program) (ro n0 c : Nat) (φ : Ren) (w : World) (s : Sem Value) (v : AV) (σ' : Hp) (c' : Nat) : Prop :=
  ∃ u w' φ', s.run P w = .ok u w' ∧ VRel φ' v u ∧ SRel ro n0 φ' σ' w' ∧ Ext c c' φ φ' ∧ Below n0 w w'

section
variable {P : Program} {ro n0 c : Nat} {φ : Ren} {σ : Hp} {w : World}

theorem OutV.pure {s : Sem Value} {v : AV} (h : SRel ro n0 φ σ w) (k : ∃ u, s.run P w = .ok u w ∧ VRel φ v u) : OutV P ro n0 c φ w s v σ c :=
  let ⟨u, h1, h2⟩ := k; ⟨u, w, φ, h1, h2, h, Ext.refl _ _, Below.refl _ _⟩

/-- new cells at the next number -/
theorem out_new (h : SRel ro n0 φ σ w) (hf : φ c = none) {acs : List AV} {ccs : Array Value} (e : TypeId) (hc : LRel φ acs ccs.toList) {s : Sem Value} {v : AV}
    (hv : ∀ φ', φ' c = some (w.heap.size, 0, ccs.size) → ∃ u, s.run P w = .ok u (w.alloc (.cells ccs e)) ∧ VRel φ' v u) :
    OutV P ro n0 c φ w s v (σ.set c (some (.cells acs))) (c + 1) := by
  obtain ⟨u, h1, h2⟩ := hv (φ.ext c (w.heap.size, 0, ccs.size)) (Ren.ext_self _ _ _)
  exact ⟨u, _, _, h1, h2, h.allocCells hf e hc, Ext.alloc _, (Below.refl _ _).alloc h.s _⟩

/-! ### alloc, box -/
def eAlloc (C : Cx) (σ : Hp) (c : Nat) (t : TypeId) : Option (AV × Hp × Nat) :=
  match C.zero t with
  | some z => some (.ptr c 0, σ.set c (some (.cells z.cells)), c + 1)
  | none => none
theorem eAlloc_ok {C : Cx} (hC : CxOk P C) (h : SRel ro n0 φ σ w) {t : TypeId} {v : AV} {σ' : Hp} {c' : Nat} (e : eAlloc C σ c t = some (v, σ', c')) (hf : Free c c' φ) :
    OutV P ro n0 c φ w (Instr.alloc t true (.tuple #[])) v σ' c' := by
  unfold eAlloc at e
  cases hz : C.zero t with
  | none => rw [hz] at e; cases e
  | some z =>
    rw [hz] at e; cases e
    obtain ⟨u, h1, h2, _⟩ := run_zero hC hz φ w
    refine out_new h (hf c (Nat.le_refl _) (by omega)) t h2.cells fun φ' hφ' => ?_
    refine ⟨.pointer (some ⟨w.heap.size, 0, none⟩), ?_, ?_⟩
    · simp [Instr.alloc, h1, newVar, newRow]
    · have := VRel.ptr (φ := φ') (off := 0) hφ'; simpa using this

def eBox (σ : Hp) (c : Nat) (a : AV) : AV × Hp × Nat := (.ptr c 0, σ.set c (some (.cells a.cells)), c + 1)
theorem eBox_ok (h : SRel ro n0 φ σ w) {t : TypeId} {a v : AV} {u : Value} {σ' : Hp} {c' : Nat} (e : eBox σ c a = (v, σ', c')) (hf : Free c c' φ) (ha : VRel φ a u) :
    OutV P ro n0 c φ w (Instr.box t u) v σ' c' := by
  unfold eBox at e
  cases e
  refine out_new h (hf c (Nat.le_refl _) (by omega)) t ha.cells fun φ' hφ' => ?_
  refine ⟨.pointer (some ⟨w.heap.size, 0, none⟩), ?_, ?_⟩
  · simp [Instr.box, newVar, newRow]
  · have := VRel.ptr (φ := φ') (off := 0) hφ'; simpa using this

/-! ### parts laid into cells -/
def eFill (place : Nat → Option (Nat × Nat)) : List AV → List (Nat × AV) → Option (List AV)
  | cs, [] => some cs
  | cs, (i, v) :: rest => match place i with
    | none => none
    | some (off, size) => bif Nat.beq v.cells.length size then
        match putX cs off v.cells with
        | some r => eFill place r rest
        | none => none
      else none

inductive PRel (φ : Ren) : List (Nat × AV) → List (Nat × Value) → Prop
  | nil : PRel φ [] []
  | cons {i : Nat} {a : AV} {v : Value} {as : List (Nat × AV)} {vs : List (Nat × Value)} (h : VRel φ a v) (t : PRel φ as vs) : PRel φ ((i, a) :: as) ((i, v) :: vs)

theorem List.take_append_of_le_length_add {α : Type} (A : List α) (x : α) (D : List α) : (A ++ x :: D).take (A.length + 1) = A ++ [x] := by
  induction A with
  | nil => simp
  | cons a A ih => simpa using ih
theorem List.drop_append_of_length_add {α : Type} (A : List α) (x : α) (D : List α) (n : Nat) : (A ++ x :: D).drop (A.length + (n + 1)) = D.drop n := by
  rw [← List.drop_drop, List.drop_left]
  rfl
theorem foldl_put (off : Nat) : ∀ (us : List Value) (j : Nat) (cs : Array Value), off + j + us.length ≤ cs.size →
    ((us.zipIdx j).foldl (fun (cs : Array Value) (x : Value × Nat) => cs.setIfInBounds (off + x.2) x.1) cs).toList = cs.toList.take (off + j) ++ us ++ cs.toList.drop (off + j + us.length)
  | [], j, cs, _ => by simp
  | u :: us, j, cs, h => by
    simp only [List.length_cons] at h
    simp only [List.zipIdx_cons, List.foldl_cons]
    rw [foldl_put off us (j + 1) _ (by simp; omega)]
    have hlt : off + j < cs.toList.length := by simp; omega
    have e1 : (cs.setIfInBounds (off + j) u).toList = cs.toList.take (off + j) ++ u :: cs.toList.drop (off + j + 1) := by
      simp only [Array.toList_setIfInBounds]
      rw [List.set_eq_take_append_cons_drop, if_pos hlt]
    rw [e1]
    have hl : (cs.toList.take (off + j)).length = off + j := by simp at hlt ⊢; omega
    generalize hA : cs.toList.take (off + j) = A at hl ⊢
    have hd : cs.toList.drop (off + j + (us.length + 1)) = (cs.toList.drop (off + j + 1)).drop us.length := by
      rw [List.drop_drop]; congr 1; omega
    simp only [List.length_cons]
    rw [hd]
    generalize cs.toList.drop (off + j + 1) = D
    rw [show off + (j + 1) = A.length + 1 by omega, show A.length + 1 + us.length = A.length + (us.length + 1) by omega]
    rw [List.take_append_of_le_length_add, List.drop_append_of_length_add]
    simp

theorem eFill_ok {place : Nat → Option (Nat × Nat)} : ∀ {ps : List (Nat × AV)} {qs : List (Nat × Value)} {cs r : List AV} {ccs : Array Value}, PRel φ ps qs → LRel φ cs ccs.toList → eFill place cs ps = some r →
    ∃ rs : Array Value, Instr.fill place ccs qs = some rs ∧ LRel φ r rs.toList := by
  intro ps
  induction ps with
  | nil =>
    intro qs cs r ccs hp hc e
    cases hp; cases e
    exact ⟨ccs, rfl, hc⟩
  | cons p ps ih =>
    intro qs cs r ccs hp hc e
    cases hp with
    | cons hv ht =>
      rename_i i a v vs
      simp only [eFill] at e
      simp only [Instr.fill]
      cases hpl : place i with
      | none => rw [hpl] at e; cases e
      | some os =>
        obtain ⟨off, size⟩ := os
        rw [hpl] at e
        dsimp only at e ⊢
        cases hb : Nat.beq a.cells.length size with
        | false => rw [hb] at e; cases e
        | true =>
          rw [hb] at e
          simp only [cond_true] at e
          have hsz : a.cells.length = size := by simpa using hb
          cases hput : putX cs off a.cells with
          | none => rw [hput] at e; cases e
          | some q =>
            rw [hput] at e
            dsimp only at e
            obtain ⟨h1, h2⟩ := hc.put hv.cells hput
            have hl := hv.cells.length
            simp only [Array.length_toList] at hl h2
            have hcond : (decide (v.cells.size ≠ size) || decide (off + v.cells.size > ccs.size)) = false := by simp; omega
            rw [hcond]
            simp only [Bool.false_eq_true, if_false]
            have hfold := foldl_put off v.cells.toList 0 ccs (by simpa using h2)
            simp only [Nat.add_zero] at hfold
            refine ih ht ?_ e
            have : (v.cells.zipIdx.foldl (fun (cs : Array Value) (x : Value × Nat) => cs.setIfInBounds (off + x.2) x.1) ccs).toList = ccs.toList.take off ++ v.cells.toList ++ ccs.toList.drop (off + v.cells.toList.length) := by
              rw [← Array.foldl_toList, Array.toList_zipIdx, hfold]
            have h' : (v.cells.zipIdx.foldl (fun cs (x : Value × Nat) => match x with | (c, j) => cs.setIfInBounds (off + j) c) ccs).toList = ccs.toList.take off ++ v.cells.toList ++ ccs.toList.drop (off + v.cells.toList.length) := this
            rw [h']
            exact h1

def eBuild (C : Cx) (t : TypeId) (ps : List (Nat × AV)) : Option AV :=
  match C.zero t with
  | none => none
  | some z => match C.und t with
    | some (.struct fields) =>
      match mapO (fun (f : Field) => match C.size f.type with | some n => some (f.offset, n) | none => none) fields.toList with
      | none => none
      | some places => match eFill (fun i => places[i]?) z.cells ps with
        | some r => some (.agg r)
        | none => none
    | some (.array _ elem) => match C.size elem with
      | none => none
      | some n => match eFill (fun i => some (i * n, n)) z.cells ps with
        | some r => some (.agg r)
        | none => none
    | _ => none

theorem mapM_places {C : Cx} (hC : CxOk P C) : ∀ (l : List Field) (r : List (Nat × Nat)), mapO (fun (f : Field) => match C.size f.type with | some n => some (f.offset, n) | none => none) l = some r →
    (l.mapM fun f => do pure (f.offset, ← sizeOf f.type) : Sem (List (Nat × Nat))).run P w = .ok r w := by
  intro l
  induction l with
  | nil => intro r e; cases e; simp
  | cons f l ih =>
    intro r e
    simp only [mapO] at e
    cases hs : C.size f.type with
    | none => rw [hs] at e; cases e
    | some n =>
      rw [hs] at e
      dsimp only at e
      cases hm : mapO (fun (f : Field) => match C.size f.type with | some n => some (f.offset, n) | none => none) l with
      | none => rw [hm] at e; cases e
      | some q =>
        rw [hm] at e; cases e
        have := ih q hm
        simp only [List.mapM_cons, Sem.run_bind, run_size hC hs, Result.andThen_ok, Sem.run_pure]
        rw [this]
        rfl

theorem eBuild_ok {C : Cx} (hC : CxOk P C) {t : TypeId} {ps : List (Nat × AV)} {v : AV} (e : eBuild C t ps = some v) {qs : Array (Nat × Value)} (hp : PRel φ ps qs.toList) :
    ∃ u, (Instr.build t qs).run P w = .ok u w ∧ VRel φ v u := by
  unfold eBuild at e
  cases hz : C.zero t with
  | none => rw [hz] at e; cases e
  | some z =>
    rw [hz] at e
    obtain ⟨zc, h1, h2, _⟩ := run_zero (w := w) hC hz φ
    dsimp only at e
    split at e
    · rename_i fields hu
      cases hm : mapO (fun (f : Field) => match C.size f.type with | some n => some (f.offset, n) | none => none) fields.toList with
      | none => rw [hm] at e; cases e
      | some places =>
        rw [hm] at e
        dsimp only at e
        split at e
        · rename_i r hr
          cases e
          obtain ⟨rs, hr1, hr2⟩ := eFill_ok hp h2.cells hr
          refine ⟨.agg rs, ?_, ?_⟩
          · have hpl := mapM_places (w := w) hC _ _ hm
            have hpl' : (fields.mapM fun f => do pure (f.offset, ← sizeOf f.type) : Sem (Array (Nat × Nat))).run P w = .ok places.toArray w := by
              rw [← Array.toArray_toList (xs := fields), List.mapM_toArray]
              simp only [Sem.run_map, hpl, Result.andThen_ok]
            simp only [Instr.build, Sem.run_bind, h1, Result.andThen_ok, run_und hC hu, hpl']
            have : Instr.fill (places.toArray[·]?) zc.cells qs.toList = some rs := by
              rw [← hr1]; congr 1; funext i; simp
            rw [this]
            rfl
          · have := VRel.agg hr2; simpa using this
        · cases e
    · rename_i n elem hu
      split at e
      · cases e
      · rename_i m hs
        split at e
        · rename_i r hr
          cases e
          obtain ⟨rs, hr1, hr2⟩ := eFill_ok hp h2.cells hr
          refine ⟨.agg rs, ?_, ?_⟩
          · simp only [Instr.build, Sem.run_bind, h1, Result.andThen_ok, run_und hC hu, run_size hC hs, hr1, Sem.run_pure]
          · have := VRel.agg hr2; simpa using this
        · cases e
    · cases e

def repL (n : Nat) (z : List AV) : List AV :=
  match n with
  | 0 => []
  | n + 1 => z ++ repL n z

theorem zeros_list (z : Array Value) : ∀ n, ((Array.range (n * z.size)).map (z[· % z.size]!)).toList = (List.replicate n z.toList).flatten := by
  intro n
  apply List.ext_getElem?
  intro i
  simp only [Array.toList_map, Array.toList_range, List.getElem?_map]
  induction n generalizing i with
  | zero => simp
  | succ n ih =>
    simp only [List.replicate_succ, List.flatten_cons]
    by_cases hi : i < z.size
    · rw [List.getElem?_append_left (by simpa using hi)]
      have h1 : i < (n + 1) * z.size := by rw [Nat.succ_mul]; omega
      rw [List.getElem?_range h1]
      simp only [Option.map_some, Nat.mod_eq_of_lt hi]
      rw [getElem!_pos z i hi]
      simp [hi]
    · have hge : z.toList.length ≤ i := by simpa using hi
      rw [List.getElem?_append_right hge, ← ih (i - z.toList.length)]
      simp only [Array.length_toList] at hge ⊢
      by_cases h1 : i < (n + 1) * z.size
      · have h2 : i - z.size < n * z.size := by rw [Nat.succ_mul] at h1; omega
        rw [List.getElem?_range h1, List.getElem?_range h2]
        simp only [Option.map_some]
        rw [← Nat.mod_eq_sub_mod hge]
      · have h2 : ¬ i - z.size < n * z.size := by rw [Nat.succ_mul] at h1; omega
        rw [List.getElem?_eq_none (by simpa using h1), List.getElem?_eq_none (by simpa using h2)]

theorem repL_rel {a : List AV} {v : List Value} (h : LRel φ a v) : ∀ n, LRel φ (repL n a) (List.replicate n v).flatten
  | 0 => .nil
  | n + 1 => by simp only [repL, List.replicate_succ, List.flatten_cons]; exact h.append (repL_rel h n)
theorem repL_length (z : List AV) : ∀ n, (repL n z).length = n * z.length
  | 0 => by simp [repL]
  | n + 1 => by simp only [repL, List.length_append, repL_length z n, Nat.succ_mul]; omega

def eBuildSlice (C : Cx) (σ : Hp) (c : Nat) (t : TypeId) (len : Nat) (ps : List (Nat × AV)) : Option (AV × Hp × Nat) :=
  match C.und t with
  | some (.slice elem) => match C.size elem with
    | none => none
    | some size => match C.zero elem with
      | none => none
      | some z => bif Nat.ble (len * size) 16777216 && Nat.beq z.cells.length size && Nat.blt 0 size then
          match eFill (fun i => some (i * size, size)) (repL len z.cells) ps with
          | some r => some (.sl c 0 len len size true, σ.set c (some (.cells r)), c + 1)
          | none => none
        else none
  | _ => none

theorem fill_size (place : Nat → Option (Nat × Nat)) : ∀ (ps : List (Nat × AV)) (cs r : List AV), eFill place cs ps = some r → r.length = cs.length
  | [], cs, r, e => by cases e; rfl
  | (i, v) :: ps, cs, r, e => by
    simp only [eFill] at e
    split at e
    · cases e
    · rename_i off size _
      cases hb : Nat.beq v.cells.length size with
      | false => rw [hb] at e; cases e
      | true =>
        rw [hb] at e
        simp only [cond_true] at e
        split at e
        · rename_i q hq
          obtain ⟨h1, h2⟩ := putX_eq _ _ _ _ hq
          rw [fill_size place ps q r e, h1]
          simp; omega
        · cases e

theorem eBuildSlice_ok {C : Cx} (hC : CxOk P C) (h : SRel ro n0 φ σ w) {t : TypeId} {len : Nat} {ps : List (Nat × AV)} {v : AV} {σ' : Hp} {c' : Nat} (e : eBuildSlice C σ c t len ps = some (v, σ', c')) (hf : Free c c' φ)
    {qs : Array (Nat × Value)} (hp : PRel φ ps qs.toList) : OutV P ro n0 c φ w (Instr.buildSlice t len qs) v σ' c' := by
  unfold eBuildSlice at e
  split at e
  case h_2 => cases e
  case h_1 elem hu =>
    split at e
    · cases e
    · rename_i size hs
      split at e
      · cases e
      · rename_i z hz
        cases hb : (Nat.ble (len * size) 16777216 && Nat.beq z.cells.length size && Nat.blt 0 size) with
        | false => rw [hb] at e; cases e
        | true =>
          rw [hb] at e
          simp only [cond_true] at e
          simp only [Bool.and_eq_true] at hb
          obtain ⟨⟨hb1, hb2⟩, hb3⟩ := hb
          have hb1' := Nat.le_of_ble_eq_true hb1
          have hb2' : z.cells.length = size := by simpa using hb2
          have hb3' : 0 < size := by simpa using hb3
          split at e
          case h_2 => cases e
          case h_1 r hr =>
            cases e
            obtain ⟨zc, h1, h2, _⟩ := run_zero (w := w) hC hz φ
            have hzl := h2.cells.length
            simp only [Array.length_toList] at hzl
            have hcells : LRel φ (repL len z.cells) ((Array.range (len * zc.cells.size)).map (zc.cells[· % zc.cells.size]!)).toList := by
              rw [zeros_list]; exact repL_rel h2.cells len
            rw [show zc.cells.size = size by omega] at hcells
            obtain ⟨rs, hr1, hr2⟩ := eFill_ok hp hcells hr
            have hrl := hr2.length
            rw [fill_size _ _ _ _ hr, repL_length, hb2'] at hrl
            simp only [Array.length_toList] at hrl
            refine out_new h (hf c (Nat.le_refl _) (by omega)) elem hr2 fun φ' hφ' => ?_
            refine ⟨.slice (some ⟨w.heap.size, 0, none⟩) len len, ?_, ?_⟩
            · have hn : ¬ (16777216 < len * size) := by omega
              have hzs : zc.cells.size = size := by omega
              by_cases h0 : len * size = 0
              · have hrange : ((Array.range (len * size)).map fun x => zc.cells[x % size]!) = #[] := by rw [h0]; simp
                rw [hrange] at hr1
                have hrz : Array.range 0 = #[] := rfl
                simp [Instr.buildSlice, run_und hC hu, run_size hC hs, h0, newRow, hr1, hrz]
              · simp [Instr.buildSlice, run_und hC hu, run_size hC hs, hn, h0, h1, newRow, hzs, hr1]
            · have := VRel.sl (φ := φ') (off := 0) (len := len) (cap := len) (c := len) (esz := size) (ex := true) hφ' (Nat.le_refl _) (Nat.le_refl _) (fun _ => rfl) (by omega)
              simpa using this
end
end Go.Ev

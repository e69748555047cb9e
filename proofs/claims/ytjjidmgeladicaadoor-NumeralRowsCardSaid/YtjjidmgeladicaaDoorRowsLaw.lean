/- The law similelaw02.NumeralRows: its walk. -/
import Derived.Test.YtjjidmgeladicaaDoorMat
import Derived.Test.YtjjidmgeladicaaDoorSpoil2
import Derived.Test.YtjjidmgeladicaaDoorAwake
namespace Go.Proofs.YtjjidmgeladicaaDoor
open Go.RowKit

theorem matGo_mem : ∀ (cs : List (List Nat)) (out : List (List Fr)) (x : List Fr), x ∈ (matGo out cs).1 → x ∈ out ∨ ∃ c, c ∈ cs ∧ x = (rowR c).1
  | [], out, x, h => .inl h
  | c :: cs, out, x, h => by
    rw [matGo] at h
    split at h
    · cases h
    · rcases matGo_mem cs _ x h with h | ⟨d, h1, h2⟩
      · rcases List.mem_append.1 h with h | h
        · exact .inl h
        · simp only [List.mem_singleton] at h
          exact .inr ⟨c, List.mem_cons_self .., h⟩
      · exact .inr ⟨d, List.mem_cons_of_mem _ h1, h2⟩

theorem matGo_len : ∀ (cs : List (List Nat)) (out : List (List Fr)), (matGo out cs).1.length ≤ out.length + cs.length
  | [], out => by rw [matGo]; simp
  | c :: cs, out => by
    rw [matGo]
    split
    · simp
    · have := matGo_len cs (out ++ [(rowR c).1])
      simp only [List.length_append, List.length_cons, List.length_nil] at this ⊢
      omega

/-- a matrix' bounds -/
theorem matR_bd (L : List Nat) (hL : L.length ≤ 400000000) : (matR L).1.length ≤ 400000001 ∧ ∀ x, x ∈ (matR L).1 → (x.length ≤ 1000000000 ∧ ∀ y, y ∈ x → y.2.1.length ≤ 1000000001 ∧ y.2.2.2.length ≤ 1000000001) := by
  constructor
  · have h1 := matGo_len (partedL isEnd L) []
    have h2 := sumLen_len (partedL isEnd L)
    rw [parted_len] at h2
    simp only [List.length_nil] at h1
    unfold matR
    omega
  · intro x hx
    rcases matGo_mem _ _ x hx with h | ⟨c, h1, rfl⟩
    · cases h
    · have h2 := sumLen_mem _ c h1
      rw [parted_len] at h2
      obtain ⟨h3, h4⟩ := rowR_len c (by omega)
      exact ⟨h4, h3⟩

theorem RowIn.keep {lo hi : Nat} {w w' : World} {v : Value} {out : List Fr} (h : RowIn lo hi w v out) (hk : ∀ b, lo ≤ b → b < hi → w'.heap[b]? = w.heap[b]?) : RowIn lo hi w' v out := by
  obtain ⟨cs, g1, g2, g3, g4, g5⟩ := h
  refine ⟨cs, ⟨g1.1, ?_⟩, g2, g3, g4, fun i x c hx hc => (g5 i x c hx hc).keep hk⟩
  rcases g1.2 with ⟨rfl, h0⟩ | ⟨g, cap, cur, rfl, hb, hg, hrest⟩
  · exact .inl ⟨rfl, h0⟩
  · exact .inr ⟨g, cap, cur, rfl, hb, (hk g hb (g2 g rfl)).trans hg, hrest⟩

theorem MatOwn.at {B : Nat} {w : World} {v : Value} {m : List (List Fr)} (h : MatOwn B w v m) (i : Nat) (x : List Fr) (hx : m[i]? = some x) (h0 : 0 < B) :
    ∃ g cap r, v = .slice (some ⟨g, 0, none⟩) m.length cap ∧ B ≤ g ∧ g < w.heap.size ∧ w.cell? ⟨g, i, none⟩ = some r ∧ Fracs B w.heap.size w r x := by
  obtain ⟨rs, f, hp⟩ := h
  have hm := hp.mono
  obtain ⟨h1, h2, h3, h4, h5, h6⟩ := hp
  have hi : i < m.length := (List.getElem?_eq_some_iff.1 hx).1
  obtain ⟨g, cap, rfl, hg1, hg2⟩ := own_nil_iff h1 (by omega)
  have hr := List.getElem?_eq_getElem (l := rs) (i := i) (by omega)
  have hf := h6 i x _ hx hr
  have hfi : f (i + 1) ≤ w.heap.size := Nat.le_trans (hm (i + 1) m.length (by omega)) h5
  have hf0 : B ≤ f i := Nat.le_trans h3 (hm 0 i (Nat.zero_le _))
  exact ⟨g, cap, _, rfl, hg1, hg2, (own_atV h1 i _ hr).1, (hf.fracs hfi).wide hf0 (Nat.le_refl _)⟩

/-- what is told of a row, with its shapes -/
theorem row02Told (s : ByteArray) (w : World) (hs : s.size ≤ 400000000) (X : List Fr) (n c : Nat) (hx : rowR (runesOf s) = (X, n, c)) :
    Calls Tryd.prog 16 #[.string s] w fun e w' => Below w.heap.size w w' ∧ ∃ ad cap, e = .returned (.tuple #[.slice ad X.length cap, .int .i64 (n : Nat), .int .i64 (c : Nat)]) ∧ Fracs w.heap.size w'.heap.size w' (.slice ad X.length cap) X := by
  refine (rowText02_any s w hs).mono ?_
  rintro e w' ⟨hb, h⟩
  rw [hx] at h
  obtain ⟨r, rfl, hr⟩ := h
  obtain ⟨ad, cap, rfl⟩ := hr.shape
  exact ⟨hb, _, _, rfl, hr.fracs⟩

theorem MatTold.open {w w' : World} {e : Ending} {X : List (List Fr)} {i j c : Nat} (h : MatTold w w' e (X, i, j, c)) :
    ∃ ad cap, e = .returned (.tuple #[.slice ad X.length cap, .int .i64 (i : Nat), .int .i64 (j : Nat), .int .i64 (c : Nat)]) ∧ MatOwn w.heap.size w' (.slice ad X.length cap) X := by
  obtain ⟨r, rfl, hr⟩ := h
  obtain ⟨ad, cap, rfl⟩ := hr.shape
  exact ⟨_, _, rfl, hr⟩

/-- what may be spoilt while the first i rows are gone through: their fractions and numbers -/
def SpoilAt (f : Nat → Nat) (w : World) (i b : Nat) : Prop := f 0 ≤ b ∧ b < f i ∧ ∃ row T, w.heap[b]? = some (.cells row T (0, 0)) ∧ (T = 96 ∨ T = 42)
/-- a row's numbers -/
def SpoilU (f : Nat → Nat) (w : World) (i b : Nat) : Prop := f i ≤ b ∧ b < f (i + 1) ∧ ∃ row, w.heap[b]? = some (.cells row 96 (0, 0))

theorem Spoiled.wide {S S' : Nat → Prop} {w w' : World} (h : Spoiled S w w') (hS : ∀ b, S b → S' b) : Spoiled S' w w' := ⟨h.os, h.tape, h.output, h.size, fun b hb hn => h.block b hb fun hs => hn (hS b hs)⟩
theorem Spoiled.then {S S' : Nat → Prop} {w w' w2 : World} (h : Spoiled S w w') (h2 : Spoiled S' w' w2) (hS : ∀ b, S' b → S b ∨ w.heap.size ≤ b) : Spoiled S w w2 :=
  ⟨h2.os.trans h.os, h2.tape.trans h.tape, h2.output.trans h.output, Nat.le_trans h.size h2.size, fun b hb hn => (h2.block b (Nat.lt_of_lt_of_le hb h.size) fun hs => by
    rcases hS b hs with h3 | h3
    · exact hn h3
    · omega).trans (h.block b hb hn)⟩
theorem Spoiled.andBelow {S : Nat → Prop} {w w' w2 : World} (h : Spoiled S w w') (h2 : Below w'.heap.size w' w2) : Spoiled S w w2 :=
  h.then (S' := fun _ => False) ⟨h2.os, h2.tape, h2.output, h2.size, fun b hb _ => h2.block b hb⟩ (fun _ h => h.elim)

theorem Fracs.spoiled {S : Nat → Prop} {lo hi : Nat} {w w' : World} {v : Value} {l : List Fr} (h : Fracs lo hi w v l) (hs : Spoiled S w w') (hh : hi ≤ w.heap.size) (hS : ∀ b, lo ≤ b → b < hi → ¬ S b) : Fracs lo hi w' v l :=
  h.keep fun b h1 h2 => hs.block b (by omega) (hS b h1 h2)

/-- the cells of a row's fraction -/
theorem RowIn.atk {lo hi : Nat} {w : World} {v : Value} {out : List Fr} (h : RowIn lo hi w v out) (k : Nat) (x : Fr) (hx : out[k]? = some x) :
    ∃ g cap cur q p, v = .slice (some ⟨g, 0, none⟩) out.length cap ∧ lo ≤ g ∧ g < hi ∧ w.heap[g]? = some (.cells cur 42 (0, 0)) ∧ cur[k * 4]? = some (.bool x.1) ∧ cur[k * 4 + 1]? = some q ∧ cur[k * 4 + 2]? = some (.bool x.2.2.1) ∧ cur[k * 4 + 3]? = some p ∧
      Limbs lo hi w q x.2.1 ∧ Limbs lo hi w p x.2.2.2 := by
  obtain ⟨cs, g1, g2, g3, g4, g5⟩ := h
  have hk := (List.getElem?_eq_some_iff.1 hx).1
  have hc := List.getElem?_eq_getElem (l := cs) (i := k) (by omega)
  obtain ⟨q, p, hcs, hq, hp⟩ := g5 k x _ hx hc
  have hfl : ∀ j, j < 4 → cs.flatten[k * 4 + j]? = ([Value.bool x.1, q, .bool x.2.2.1, p])[j]? := fun j hj => by
    rw [flat_get cs k j _ g4 hc hj, hcs]
  rcases g1.2 with ⟨rfl, h0⟩ | ⟨g, cap, cur, rfl, hb, hg, hcap, hm, hs, ht⟩
  · omega
  · have hcur : ∀ j, j < 4 → cur[k * 4 + j]? = ([Value.bool x.1, q, .bool x.2.2.1, p])[j]? := fun j hj => by
      rw [← hfl j hj, ← ht, List.getElem?_take, if_pos (by omega)]
      simp
    exact ⟨g, cap, cur, q, p, rfl, hb, g2 g rfl, hg, hcur 0 (by decide), hcur 1 (by decide), hcur 2 (by decide), hcur 3 (by decide), hq, hp⟩

theorem intRow2 {w : World} {g : Nat} {T : TypeId} {a b : Bool} {u v : Value} (h : BoxIs w g T [.bool a, u, .bool b, v]) : IntRow w g [(a, u), (b, v)] := by
  obtain ⟨⟨c0, c1, c2, c3⟩, _⟩ := h.four
  intro i hi
  match i, hi with
  | 0, _ => exact ⟨by simpa using c0, by simpa using c1⟩
  | 1, _ => exact ⟨by simpa using c2, by simpa using c3⟩

/-- the rest of a row, from its k-th fraction on, is as it was -/
def RowTail (wc wr : World) (g k : Nat) : Prop := ∀ cur, wc.heap[g]? = some (.cells cur 42 (0, 0)) → ∃ cur', wr.heap[g]? = some (.cells cur' 42 (0, 0)) ∧ ∀ j, k * 4 ≤ j → cur'[j]? = cur[j]?

theorem set1 {w : World} {g : Nat} {cur : Array Value} {T : TypeId} (h : w.heap[g]? = some (.cells cur T (0, 0))) (a : Nat) (v : Value) : ∃ cur', (w.setCell ⟨g, a, none⟩ v).heap[g]? = some (.cells cur' T (0, 0)) ∧ ∀ j, a < j → cur'[j]? = cur[j]? :=
  ⟨cur.setIfInBounds a v, heap_setCell_same w g a cur T v h, fun j hj => Array.getElem?_setIfInBounds_ne (by omega)⟩

set_option maxRecDepth 100000 in
set_option maxHeartbeats 12800000 in
theorem rows_walk (s : ByteArray) (w : World) (m : Int) (hm : w.cell? ⟨2, 0, none⟩ = some (.int .i64 m)) :
    Calls Tryd.prog 5 #[.string s] w fun e w' => e = .returned (.bool true) ∧ Below w.heap.size w w' := by
  have QA := hid fun w => awake_any w
  have h20 : 2 < w.heap.size := World.block_lt_of_cell? w ⟨2, 0, none⟩ hm
  by_cases hs : 65536 < s.size
  · have Q0 := hid fun w => long_yes s w hs
    clear hm
    go_enter Tryd.func5, Tryd.ntmps5
    go_wp2_with fail
    refine (Q0.out _).mono ?_
    rintro e w' ⟨rfl, rfl⟩
    go_wp2_with fail
    refine (QA.out _).mono ?_
    rintro e w1 ⟨rfl, hb1⟩
    go_wp2
    go_ret
    exact ⟨rfl, hb1⟩
  · have Q0 := hid fun w => long_no s w (by omega)
    have hrl := runesAt_len s 0
    have hrs : (runesOf s).length ≤ 65536 := by unfold runesOf; omega
    obtain ⟨⟨RL, RN, RC⟩, hy⟩ : ∃ y, rowR (runesOf s) = y := ⟨_, rfl⟩
    obtain ⟨⟨ms, xi, xj, xc⟩, hz⟩ : ∃ y, matR (runesOf s) = y := ⟨_, rfl⟩
    have hl4 := rowR_len (runesOf s) (by omega)
    have hl5 := matR_bd (runesOf s) (by omega)
    rw [hy] at hl4
    rw [hz] at hl5
    dsimp only at hl4 hl5
    have Q1 := hid fun w => rowTold s w (by omega) RL RN RC hy
    have Q2 := hid fun w => row02Told s w (by omega) RL RN RC hy
    have Q3 := hid fun (w : World) (hm : w.cell? ⟨2, 0, none⟩ = some (.int .i64 m)) => matrix_any s w (by omega) m hm
    have Q4 := hid fun (w : World) (h0 : 0 < w.heap.size) => matrix02_any s w (by omega) h0
    rw [hz] at Q3 Q4
    have HL4 := hid hl4
    have HL5 := hid hl5
    have HM := hid hm
    clear hy hz hl4 hl5 hrl hrs hs hm
    go_enter Tryd.func5, Tryd.ntmps5
    go_wp2_with fail
    refine (Q0.out _).mono ?_
    rintro e w' ⟨rfl, rfl⟩
    clear Q0
    go_wp2_with fail
    refine (Q1.out _).mono ?_
    rintro e w1 ⟨b1, ad1, cap1, rfl, x1⟩
    have X1 := hid x1
    have B1 := hid b1
    clear Q1 x1 b1
    go_wp2_with fail
    refine (Q2.out _).mono ?_
    rintro e w2 ⟨b2, ad2, cap2, rfl, x2⟩
    have hb2 := chain B1.out b2
    have QR := hid (rows_true _ _ _ _ _ _ RL w2 (X1.out.below b2 (Nat.le_refl _)) b2.size x2 (Nat.le_refl _) HL4.out.2 (fun x hx => by have := HL4.out.1 x hx; omega))
    have HB2 := hid hb2
    clear Q2 x2 b2 hb2 X1 B1
    go_wp2_with fail
    refine (num_any _ _).mono ?_
    rintro e w2' ⟨rfl, rfl⟩
    go_wp2_with fail
    refine QR.out.mono ?_
    rintro e w3 ⟨rfl, b3⟩
    have hb3 := chain HB2.out b3
    have Q3a := hid (Q3.out w3 ((hb3.cell (p := ⟨2, 0, none⟩) h20).trans HM.out))
    have HB3 := hid hb3
    clear QR hb3 b3 HB2
    go_wp2_with fail
    refine Q3a.out.mono ?_
    rintro e w4 ⟨b4, t4⟩
    obtain ⟨ad4, cap4, rfl, x4⟩ := t4.open
    have hb4 := chain HB3.out b4
    have Q3b := hid (Q3.out w4 ((hb4.cell (p := ⟨2, 0, none⟩) h20).trans HM.out))
    have HB4 := hid hb4
    have X4 := hid x4
    have B4 := hid b4
    clear Q3a hb4 x4 t4 b4
    go_wp2_with fail
    refine Q3b.out.mono ?_
    rintro e w5 ⟨b5, t5⟩
    obtain ⟨ad5, cap5, rfl, x5⟩ := t5.open
    have hb5 := chain HB4.out b5
    have Q4a := hid (Q4.out w5 (by have := hb5.size; omega))
    have HB5 := hid hb5
    have X5 := hid x5
    have B5 := hid b5
    clear Q3b hb5 x5 t5 b5 Q4 Q3
    go_wp2_with fail
    refine Q4a.out.mono ?_
    rintro e w6 ⟨b6, t6⟩
    obtain ⟨ad6, cap6, rfl, x6⟩ := t6.open
    have hb6 := chain HB5.out b6
    have X6 := hid x6
    have B6 := hid b6
    have HB6 := hid hb6
    clear Q4a hb6 x6 t6 b6
    go_wp2_with fail
    refine (num_any _ _).mono ?_
    rintro e w6' ⟨rfl, rfl⟩
    obtain ⟨rs, f, p4⟩ := X4.out
    have hw3 : 0 < w3.heap.size := by have := HB3.out.size; omega
    have hf4 : f ms.length ≤ w4.heap.size := p4.2.2.2.2.1
    have p6 := (p4.later hw3 B5.out).later hw3 B6.out
    have hmono := p6.mono
    have hf0 : w3.heap.size ≤ f 0 := p6.2.2.1
    have ho6 := X5.out.later (by have := B4.out.size; omega) B6.out
    have hs4 := B4.out.size
    have hs5 := B5.out.size
    have hs6 := B6.out.size
    have hlen := HL5.out.1
    have P6 := hid p6
    have O6 := hid ho6
    have HMONO := hid hmono
    clear p4 p6 ho6 hmono X4 X5 B5 B6
    go_wp2
    go_loopw [104] (fun iv wr => ∃ i : Nat, iv = .int .i64 i ∧ i ≤ ms.length ∧ Spoiled (SpoilAt f w6 i) w6 wr ∧ KeepsRows w6 wr) (fun iv _ => ms.length - (intOf iv).toNat)
    case atStart => exact ⟨0, rfl, Nat.zero_le _, Spoiled.refl _ _, KeepsRows.refl _⟩
    case round =>
      obtain ⟨wo, hwo⟩ : ∃ wo, wo = wr := ⟨_, rfl⟩
      subst hwo
      obtain ⟨i, rfl, hi, hsp, hkr⟩ := hrel
      have HSP := hid hsp
      have HKR := hid hkr
      clear hsp hkr
      by_cases hil : i < ms.length
      · obtain ⟨xs, hx⟩ : ∃ xs, ms[i]? = some xs := ⟨_, List.getElem?_eq_getElem hil⟩
        obtain ⟨hxl, hxb⟩ := HL5.out.2 xs (List.mem_of_getElem? hx)
        have hr := List.getElem?_eq_getElem (l := rs) (i := i) (by have := P6.out.2.1; omega)
        obtain ⟨r, hrr⟩ : ∃ r, rs[i]'(by have := P6.out.2.1; omega) = r := ⟨_, rfl⟩
        rw [hrr] at hr
        have hrow := P6.out.2.2.2.2.2 i xs r hx hr
        obtain ⟨g9, c9, hsh9, hg9a, hg9b⟩ := own_nil_iff P6.out.1 (by omega)
        simp only [Value.slice.injEq, true_and] at hsh9
        obtain ⟨rfl, rfl⟩ := hsh9
        have c9w := (own_atV P6.out.1 i r hr).1
        obtain ⟨cc9, hty9⟩ := own_ty P6.out.1 g9 rfl
        have hn9 : ∀ i, ¬ SpoilAt f w6 i g9 := by
          rintro i ⟨_, _, row, T, h1, h2⟩
          rw [hty9] at h1
          simp only [Option.some.injEq, Obj.cells.injEq] at h1
          obtain ⟨_, rfl, _⟩ := h1
          rcases h2 with h2 | h2 <;> revert h2 <;> decide
        obtain ⟨g13, c13, r13, hsh13, hg13a, hg13b, c13w, hfr13⟩ := O6.out.at i xs hx (by omega)
        simp only [Value.slice.injEq, true_and] at hsh13
        obtain ⟨rfl, rfl⟩ := hsh13
        obtain ⟨g17, c17, r17, hsh17, hg17a, hg17b, c17w, hfr17⟩ := X6.out.at i xs hx (by omega)
        simp only [Value.slice.injEq, true_and] at hsh17
        obtain ⟨rfl, rfl⟩ := hsh17
        have hfi : f (i + 1) ≤ w4.heap.size := Nat.le_trans (HMONO.out (i + 1) ms.length (by omega)) hf4
        have hfm := HMONO.out i (i + 1) (Nat.le_succ _)
        have hfz := HMONO.out 0 i (Nat.zero_le _)
        have hnS : ∀ j b, j ≤ i + 1 → w4.heap.size ≤ b → ¬ SpoilAt f w6 j b := by
          rintro j b hj hb ⟨_, h2, _⟩
          have := HMONO.out j (i + 1) hj
          omega
        have hroww : RowIn (f i) (f (i + 1)) wo r xs := hrow.keep fun b h1 h2 => HSP.out.block b (by omega) fun h => by have := h.2.1; omega
        have hso := HSP.out.size
        have hrf := hroww.fracs (by omega)
        have d9 : wo.cell? ⟨g9, i, none⟩ = some r := (World.cell?_of_block (HSP.out.block g9 hg9b (hn9 i))).trans c9w
        have d17 : wo.cell? ⟨g17, i, none⟩ = some r17 := (World.cell?_of_block (HSP.out.block g17 hg17b (hnS i g17 (by omega) (by omega)))).trans c17w
        have hf17 := hfr17.spoiled HSP.out (Nat.le_refl _) (fun b h1 _ => hnS i b (by omega) (by omega))
        have QW := hid (rows_true _ _ _ _ r r17 xs wo.drew (hrf.keep fun _ _ _ => rfl) (Nat.le_refl _) (hf17.keep fun _ _ _ => rfl) hso hxl (fun x hx => by have := hxb x hx; omega))
        obtain ⟨ar, cr, hrs⟩ := hroww.shape
        subst hrs
        have f1 : (i : Int) < (ms.length : Int) := by omega
        have f2 : (0 : Int) ≤ (i : Int) := by omega
        have HROW := hid hrow
        have HXB := hid hxb
        have HN9 := hid hn9
        have HNS := hid hnS
        have H13 := hid hfr13
        have H17 := hid hfr17
        have C9 := hid c9w
        have C13 := hid c13w
        have C17 := hid c17w
        clear hrow hxb hn9 hnS hfr13 hfr17 c9w c13w c17w hroww hrf hf17 hr hrr hx hty9
        go_upto_region 15 with (fail)
        go_cut [116] from 117 to 161 (fun v w7 => v = .bool false ∧ Below wo.heap.size wo w7)
        case first =>
          go_region_with ((go_at_call 15; refine QW.out.mono ?_; rintro e w7 ⟨rfl, hb7⟩))
          all_goals
            have HB7 := hid (show Below wo.heap.size wo w7 from (Below.refl _ _).drew.trans hb7)
            clear hb7
            go_wp2
            go_meet
            case rel => exact ⟨rfl, HB7.out⟩
        case rest =>
          obtain ⟨rfl, hb7⟩ := hcut
          have hsp7 : Spoiled (SpoilAt f w6 (i + 1)) w6 wc := (HSP.out.andBelow hb7).wide fun b h => ⟨h.1, by have := h.2.1; omega, h.2.2⟩
          have hkr7 : KeepsRows w6 wc := HKR.out.trans (KeepsRows.below hb7)
          have d9c : wc.cell? ⟨g9, i, none⟩ = some (.slice ar xs.length cr) := (hb7.cell (p := ⟨g9, i, none⟩) (by show g9 < wo.heap.size; omega)).trans d9
          have htl : ∀ g, (Value.slice ar xs.length cr).ownBlock = some g → RowTail w6 wc g 0 := fun g hg cur hcur => by
            have hgi : f i ≤ g ∧ g < f (i + 1) := by
              obtain ⟨cs, q1, q2, _⟩ := HROW.out
              exact ⟨(q1.lt g hg).1, q2 g hg⟩
            refine ⟨cur, ?_, fun _ _ => rfl⟩
            rw [hb7.block g (by omega), HSP.out.block g (by omega) fun h => by have := h.2.1; omega]
            exact hcur
          have HSP7 := hid hsp7
          have HKR7 := hid hkr7
          have HTL := hid htl
          have HB7 := hid hb7
          clear hsp7 hkr7 htl hb7 d9 d17 QW
          go_wp2
          obtain ⟨wn, hwn⟩ : ∃ wn, wn = wc := ⟨_, rfl⟩
          subst hwn
          go_loopw [122] (fun kv wr => ∃ k : Nat, kv = .int .i64 k ∧ k ≤ xs.length ∧ Spoiled (SpoilAt f w6 (i + 1)) w6 wr ∧ KeepsRows w6 wr ∧ (∀ g, (Value.slice ar xs.length cr).ownBlock = some g → RowTail w6 wr g k)) (fun kv _ => xs.length - (intOf kv).toNat)
          case atStart => exact ⟨0, rfl, Nat.zero_le _, HSP7.out, HKR7.out, HTL.out⟩
          case round =>
            clear HSP7 HKR7 HTL d9c
            obtain ⟨k, rfl, hk, hsp8, hkr8, htl8⟩ := hrel
            have HSP8 := hid hsp8
            have HKR8 := hid hkr8
            have HTL8 := hid htl8
            clear hsp8 hkr8 htl8
            have hs8 := HSP8.out.size
            by_cases hkl : k < xs.length
            · obtain ⟨x, hxk⟩ : ∃ x, xs[k]? = some x := ⟨_, List.getElem?_eq_getElem hkl⟩
              have hbd := HXB.out x (List.mem_of_getElem? hxk)
              obtain ⟨g, cg, cur, q, p, hshg, hg1, hg2, hgw, e0, e1, e2, e3, hq, hp⟩ := HROW.out.atk k x hxk
              simp only [Value.slice.injEq, true_and] at hshg
              obtain ⟨rfl, rfl⟩ := hshg
              obtain ⟨cur2, hg8, htail⟩ := HTL8.out g rfl cur hgw
              have k0 : wr.cell? ⟨g, k * 4, none⟩ = some (.bool x.1) := by rw [cell_of_row wr g _ cur2 _ (0, 0) hg8, htail _ (by omega), e0]
              have k1 : wr.cell? ⟨g, k * 4 + 1, none⟩ = some q := by rw [cell_of_row wr g _ cur2 _ (0, 0) hg8, htail _ (by omega), e1]
              have k2 : wr.cell? ⟨g, k * 4 + 2, none⟩ = some (.bool x.2.2.1) := by rw [cell_of_row wr g _ cur2 _ (0, 0) hg8, htail _ (by omega), e2]
              have k3 : wr.cell? ⟨g, k * 4 + 3, none⟩ = some p := by rw [cell_of_row wr g _ cur2 _ (0, 0) hg8, htail _ (by omega), e3]
              have d9k : wr.cell? ⟨g9, i, none⟩ = some (.slice (some ⟨g, 0, none⟩) xs.length cr) := (World.cell?_of_block (HSP8.out.block g9 hg9b (HN9.out (i + 1)))).trans C9.out
              have lq : Loose (SpoilU f w6 i) w6 q := hq.looseT (by omega) (fun b row h1 h2 h3 => ⟨h1, h2, row, h3⟩) (by omega)
              have lp : Loose (SpoilU f w6 i) w6 p := hp.looseT (by omega) (fun b row h1 h2 h3 => ⟨h1, h2, row, h3⟩) (by omega)
              obtain ⟨adq, capq, rfl⟩ := hq.shape
              obtain ⟨adp, capp, rfl⟩ := hp.shape
              have hnew : KeepsRows wr (wr.drew.alloc (.cells #[.bool x.1, .slice adq x.2.1.length capq, .bool x.2.2.1, .slice adp x.2.2.2.length capp] 40)) := KeepsRows.below (((Below.refl wr.heap.size wr).drew).alloc (Nat.le_refl _) _)
              have hbx := BoxIs.new wr.drew #[.bool x.1, .slice adq x.2.1.length capq, .bool x.2.2.1, .slice adp x.2.2.2.length capp] 40
              have hszn : ∀ o, (wr.drew.alloc o).heap.size = wr.heap.size + 1 := fun o => by rw [World.size_alloc]; rfl
              have hloose : ∀ pp, pp ∈ [(x.1, Value.slice adq x.2.1.length capq), (x.2.2.1, Value.slice adp x.2.2.2.length capp)] → Loose (SpoilU f w6 i) (wr.drew.alloc (.cells #[.bool x.1, .slice adq x.2.1.length capq, .bool x.2.2.1, .slice adp x.2.2.2.length capp] 40)) pp.2 := by
                intro pp hpp
                simp only [List.mem_cons, List.not_mem_nil, or_false] at hpp
                rcases hpp with rfl | rfl
                · exact lq.rows (HKR8.out.trans hnew)
                · exact lp.rows (HKR8.out.trans hnew)
              have QSP := hid (spoil_keep (SpoilU f w6 i) wr.heap.size 2 [(x.1, .slice adq x.2.1.length capq), (x.2.2.1, .slice adp x.2.2.2.length capp)] (wr.drew.alloc (.cells #[.bool x.1, .slice adq x.2.1.length capq, .bool x.2.2.1, .slice adp x.2.2.2.length capp] 40))
                (intRow2 hbx) (fun h => by have := h.2.1; omega) (by rw [hszn]; exact Nat.lt_succ_self _) hloose (by simp) (fun b h => by have h2 := h.2.1; rw [hszn]; omega))
              have HNEW := hid hnew
              have HG8 := hid hg8
              have HGW := hid hgw
              have HTAIL := hid htail
              have f3 : (k : Int) < (xs.length : Int) := by omega
              have f4 : (0 : Int) ≤ (k : Int) := by omega
              clear hnew hbx lq lp hg8 hgw htail e0 e1 e2 e3 hq hp hxk hbd hszn hloose
              go_upto_region 20 with (fail)
              go_cut [] from 143 to 150 (fun w8 => Spoiled (SpoilU f w6 i) wr w8 ∧ KeepsRows wr w8)
              case first =>
                go_region_with ((go_at_call 19; refine QSP.out.mono ?_; rintro e w8 ⟨rfl, hsp9, hkr9⟩))
                all_goals
                  have HS9 := hid (show Spoiled (SpoilU f w6 i) wr w8 ∧ KeepsRows wr w8 from ⟨((Spoiled.refl (SpoilU f w6 i) wr).andBelow (((Below.refl wr.heap.size wr).drew).alloc (Nat.le_refl _) _)).then hsp9 (fun b h => .inl h), HNEW.out.trans hkr9⟩)
                  clear hsp9 hkr9
                  go_wp2
                  go_meet
                  case rel => exact HS9.out
              case rest =>
                obtain ⟨hsp9, hkr9⟩ := hcut
                have hUA : ∀ b, SpoilU f w6 i b → SpoilAt f w6 (i + 1) b := fun b ⟨h1, h2, row, h3⟩ => ⟨by omega, h2, row, _, h3, .inl rfl⟩
                have hnUg : ¬ SpoilU f w6 i g := by
                  rintro ⟨_, _, row, h3⟩
                  rw [HGW.out] at h3
                  simp only [Option.some.injEq, Obj.cells.injEq] at h3
                  exact absurd h3.2.1 (by decide)
                have hgA : SpoilAt f w6 (i + 1) g := ⟨by omega, hg2, cur, _, HGW.out, .inr rfl⟩
                have hgc : wc.heap[g]? = some (.cells cur2 42 (0, 0)) := (hsp9.block g (Array.getElem?_eq_some_iff.1 HG8.out).1 hnUg).trans HG8.out
                have d9d : wc.cell? ⟨g9, i, none⟩ = some (.slice (some ⟨g, 0, none⟩) xs.length cr) := (World.cell?_of_block (hsp9.block g9 (by omega) fun h => HN9.out (i + 1) (hUA _ h))).trans d9k
                have kk : ∀ j, wc.cell? ⟨g, j, none⟩ = wr.cell? ⟨g, j, none⟩ := fun j => World.cell?_of_block (hgc.trans HG8.out.symm)
                have m0 := (kk (k * 4)).trans k0
                have m1 := (kk (k * 4 + 1)).trans k1
                have m2 := (kk (k * 4 + 2)).trans k2
                have m3 := (kk (k * 4 + 3)).trans k3
                have z0 := frozen_of_row wc g (k * 4) cur2 _ hgc
                have z1 := frozen_of_row wc g (k * 4 + 1) cur2 _ hgc
                have z2 := frozen_of_row wc g (k * 4 + 2) cur2 _ hgc
                have z3 := frozen_of_row wc g (k * 4 + 3) cur2 _ hgc
                have hspc := HSP8.out.then hsp9 (fun b h => .inl (hUA b h))
                have hsp10 := (((hspc.setIn ⟨g, k * 4, none⟩ (.bool false) hgA).setIn ⟨g, k * 4 + 1, none⟩ (.slice none 0 0) hgA).setIn ⟨g, k * 4 + 2, none⟩ (.bool false) hgA).setIn ⟨g, k * 4 + 3, none⟩ (.slice none 0 0) hgA
                have hkr10 := ((((HKR8.out.trans hkr9).trans (KeepsRows.setCell wc g (k * 4) (.bool false))).trans (KeepsRows.setCell _ g (k * 4 + 1) (.slice none 0 0))).trans (KeepsRows.setCell _ g (k * 4 + 2) (.bool false))).trans (KeepsRows.setCell _ g (k * 4 + 3) (.slice none 0 0))
                have htl10 : ∀ g', (Value.slice (some ⟨g, 0, none⟩) xs.length cr).ownBlock = some g' → RowTail w6 ((((wc.setCell ⟨g, k * 4, none⟩ (.bool false)).setCell ⟨g, k * 4 + 1, none⟩ (.slice none 0 0)).setCell ⟨g, k * 4 + 2, none⟩ (.bool false)).setCell ⟨g, k * 4 + 3, none⟩ (.slice none 0 0)) g' (k + 1) := by
                  intro g' hg' cur3 h3
                  obtain rfl : g = g' := by simpa [Value.ownBlock] using hg'
                  rw [HGW.out] at h3
                  simp only [Option.some.injEq, Obj.cells.injEq, and_true] at h3
                  subst h3
                  obtain ⟨s0, s1, s2⟩ := set1 hgc (k * 4) (.bool false)
                  obtain ⟨t0, t1, t2⟩ := set1 s1 (k * 4 + 1) (.slice none 0 0)
                  obtain ⟨v0, v1, v2⟩ := set1 t1 (k * 4 + 2) (.bool false)
                  obtain ⟨y0, y1, y2⟩ := set1 v1 (k * 4 + 3) (.slice none 0 0)
                  exact ⟨y0, y1, fun j hj => by rw [y2 j (by omega), v2 j (by omega), t2 j (by omega), s2 j (by omega), HTAIL.out j (by omega)]⟩
                have HSP10 := hid hsp10
                have HKR10 := hid hkr10
                have HTL10 := hid htl10
                clear hsp9 hkr9 hUA hnUg hgA hgc kk k0 k1 k2 k3 d9k hspc hsp10 hkr10 htl10
                go_wp2
                go_roundw
                case rel => exact ⟨k + 1, by go_num, by omega, HSP10.out, HKR10.out, HTL10.out⟩
                case measure => simp [intOf]; omega
            · obtain rfl : k = xs.length := by omega
              have hlr := HSP8.out.size
              have c13 : wr.cell? ⟨g13, i, none⟩ = some r13 := (World.cell?_of_block (HSP8.out.block g13 hg13b (HNS.out (i + 1) g13 (Nat.le_refl _) (by omega)))).trans C13.out
              have c17 : wr.cell? ⟨g17, i, none⟩ = some r17 := (World.cell?_of_block (HSP8.out.block g17 hg17b (HNS.out (i + 1) g17 (Nat.le_refl _) (by omega)))).trans C17.out
              have h13 := H13.out.spoiled HSP8.out (Nat.le_refl _) (fun b h1 _ => HNS.out (i + 1) b (Nat.le_refl _) (by omega))
              have h17 := H17.out.spoiled HSP8.out (Nat.le_refl _) (fun b h1 _ => HNS.out (i + 1) b (Nat.le_refl _) (by omega))
              have QW2 := hid (rows_true _ _ _ _ r13 r17 xs wr.drew (h13.keep fun _ _ _ => rfl) hlr (h17.keep fun _ _ _ => rfl) hlr hxl (fun x hx => by have := HXB.out x hx; omega))
              clear h13 h17
              go_upto_region 23 with (fail)
              go_cut [160] from 161 to 161 (fun v w8 => v = .bool false ∧ Below wr.heap.size wr w8)
              case first =>
                go_region_with ((go_at_call 15; refine QW2.out.mono ?_; rintro e w8 ⟨rfl, hb8⟩))
                all_goals
                  have HB8 := hid (show Below wr.heap.size wr w8 from (Below.refl _ _).drew.trans hb8)
                  clear hb8
                  go_wp2
                  go_meet
                  case rel => exact ⟨rfl, HB8.out⟩
              case rest =>
                obtain ⟨rfl, hb8⟩ := hcut
                have HSPE := hid (HSP8.out.andBelow hb8)
                have HKRE := hid (HKR8.out.trans (KeepsRows.below hb8))
                clear hb8
                go_wp2
                go_roundw
                case rel => exact ⟨i + 1, by go_num, by omega, HSPE.out, HKRE.out⟩
                case measure => simp [intOf]; omega
      · obtain rfl : i = ms.length := by omega
        go_wp2_with fail
        refine (QA.out _).mono ?_
        rintro e w9 ⟨rfl, hb9⟩
        have hfin : Below w.heap.size w w9 := HB6.out.trans (((HSP.out.andBelow hb9).below (B := w3.heap.size) (by omega) (fun b h => by have := h.1; omega)).mono HB3.out.size)
        have HFIN := hid hfin
        clear hfin hb9
        go_wp2
        go_ret
        exact ⟨rfl, HFIN.out⟩
end Go.Proofs.YtjjidmgeladicaaDoor

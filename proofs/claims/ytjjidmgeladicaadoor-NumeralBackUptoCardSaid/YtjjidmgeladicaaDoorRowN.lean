/- numeral.Row: a row's numbers, or where it is wrong. -/
import Derived.Test.YtjjidmgeladicaaDoorPieces2
import Derived.Test.YtjjidmgeladicaaDoorSay
namespace Go.Proofs.YtjjidmgeladicaaDoor
open Go.RowKit

theorem elemRat : Elem Tryd.prog 35 42 (.agg #[.bool false, .slice none 0 0, .bool false, .slice none 0 0]) 4 64 :=
  ⟨Tryd.underlying35, by kernel_rfl, rfl, by decide⟩

/-- fractions that the call itself owns -/
def OutRow (B : Nat) (w : World) (v : Value) (out : List (Bool × List Nat × Bool × List Nat)) : Prop :=
  ∃ cs : List (List Value), w.ownsRow B 42 4 v out.length cs.flatten ∧ cs.length = out.length ∧ (∀ c, c ∈ cs → c.length = 4) ∧
    ∀ (i : Nat) (x : Bool × List Nat × Bool × List Nat) (c : List Value), out[i]? = some x → cs[i]? = some c → FracCells B w.heap.size w x c

theorem OutRow.nil {B : Nat} {w : World} : OutRow B w (.slice none 0 0) [] := ⟨[], World.ownsRow_nil _ _ _ _, rfl, by simp, by simp⟩

theorem OutRow.later {B : Nat} {w w' : World} {v : Value} {out : List (Bool × List Nat × Bool × List Nat)} (h : OutRow B w v out) (hb : Below w.heap.size w w') : OutRow B w' v out := by
  obtain ⟨cs, h1, h2, h3, h4⟩ := h
  exact ⟨cs, own_keep h1 hb, h2, h3, fun i x c hx hc => ((h4 i x c hx hc).keep fun b _ hh => hb.block b hh).wide (Nat.le_refl _) hb.size⟩

theorem OutRow.fracs {B : Nat} {w : World} {v : Value} {out : List (Bool × List Nat × Bool × List Nat)} (h : OutRow B w v out) : Fracs B w.heap.size w v out := by
  obtain ⟨cs, h1, h2, h3, h4⟩ := h
  exact RowOf.ofOwn (by decide) h1 h2 h3 h4

theorem OutRow.shape {B : Nat} {w : World} {v : Value} {out : List (Bool × List Nat × Bool × List Nat)} (h : OutRow B w v out) : ∃ ad cap, v = .slice ad out.length cap := by
  obtain ⟨cs, h1, h2, h3, h4⟩ := h
  exact own_shape h1

theorem OutRow.snoc {B : Nat} {w w6 : World} {v v' : Value} {cs : List (List Value)} {out : List (Bool × List Nat × Bool × List Nat)} {x : Bool × List Nat × Bool × List Nat} {q p : Value} (hB : 0 < B)
    (h1 : w.ownsRow B 42 4 v out.length cs.flatten) (h2 : cs.length = out.length) (h3 : ∀ c, c ∈ cs → c.length = 4)
    (h4 : ∀ (i : Nat) (x : Bool × List Nat × Bool × List Nat) (c : List Value), out[i]? = some x → cs[i]? = some c → FracCells B w.heap.size w x c)
    (hq : Limbs B w.heap.size w q x.2.1) (hp : Limbs B w.heap.size w p x.2.2.2)
    (ho : w6.ownsRow B 42 4 v' (out.length + 1) (cs.flatten ++ [.bool x.1, q, .bool x.2.2.1, p])) (hg : (w.alloc (.cells #[.bool x.1, q, .bool x.2.2.1, p] 42)).grownBy w6 v.ownBlock) :
    OutRow B w6 v' (out ++ [x]) := by
  have hal : Below w.heap.size w (w.alloc (.cells #[.bool x.1, q, .bool x.2.2.1, p] 42)) := (Below.refl _ _).alloc (Nat.le_refl _) _
  have hsz : w.heap.size ≤ w6.heap.size := Nat.le_trans hal.size hg.size
  have hl : ∀ {u : Value} {xs : List Nat}, Limbs B w.heap.size w u xs → Limbs B w6.heap.size w6 u xs := fun h =>
    (Limbs.grown (h.below hal (Nat.le_refl _)) hB hg (own_type (h1.alloc _) _ (by decide))).wide (Nat.le_refl _) hsz
  refine ⟨cs ++ [[.bool x.1, q, .bool x.2.2.1, p]], ?_, by simp [h2], ?_, ?_⟩
  · rw [List.flatten_append, List.length_append]
    simpa using ho
  · intro c hc
    rcases List.mem_append.1 hc with h | h
    · exact h3 c h
    · simp only [List.mem_singleton] at h
      rw [h]; rfl
  · intro i y c hy hc
    rcases Nat.lt_or_ge i out.length with hi | hi
    · rw [List.getElem?_append_left hi] at hy
      rw [List.getElem?_append_left (by omega)] at hc
      obtain ⟨q', p', rfl, hq', hp'⟩ := h4 i y c hy hc
      exact ⟨q', p', rfl, hl hq', hl hp'⟩
    · rw [List.getElem?_append_right hi] at hy
      rw [List.getElem?_append_right (by omega), h2] at hc
      obtain ⟨j, hj⟩ : ∃ j, i - out.length = j := ⟨_, rfl⟩
      rw [hj] at hy hc
      cases j with
      | zero =>
        simp only [List.getElem?_cons_zero, Option.some.injEq] at hy hc
        subst hy hc
        exact ⟨q, p, rfl, hl hq, hl hp⟩
      | succ j => simp at hy

/-- a fraction as it is read -/
def fracL (x : Bool × Nat × Nat × Nat) : Bool × List Nat × Bool × List Nat := (x.1, toL x.2.1, false, toL x.2.2.1)

/-- what a row's pieces say: the numbers; or which one is wrong, and the error -/
def rowGo : Bool → List (Bool × List Nat × Bool × List Nat) → List (ByteArray × Bool) → List (Bool × List Nat × Bool × List Nat) × Nat × Nat
  | _, out, [] => (out, 0, 0)
  | bad, out, (_, true) :: rest => if bad = true ∨ rest = [] then ([], out.length + 1, 21) else rowGo true out rest
  | _, out, (wd, false) :: rest => if (fracR (runesOf wd)).2.2.2 ≠ 0 then ([], out.length + 1, (fracR (runesOf wd)).2.2.2) else rowGo false (out ++ [fracL (fracR (runesOf wd))]) rest

/-- what a fraction's text tells, with its shapes -/
def FracTold (w w' : World) (e : Ending) (ng : Bool) (N M cd : Nat) : Prop :=
  ∃ ad cap ad2 cap2, e = .returned (.tuple #[.agg #[.bool ng, .slice ad (toL N).length cap, .bool false, .slice ad2 (toL M).length cap2], .int .i64 (cd : Nat)]) ∧
    Limbs w.heap.size w'.heap.size w' (.slice ad (toL N).length cap) (toL N) ∧ Limbs w.heap.size w'.heap.size w' (.slice ad2 (toL M).length cap2) (toL M)

theorem readsFracB (s : ByteArray) (w : World) (hs : s.size ≤ 1000000000) (ng : Bool) (N M cd : Nat) (hx : fracR (runesOf s) = (ng, N, M, cd)) :
    Calls Tryd.prog 12 #[.string s] w fun e w' => Below w.heap.size w w' ∧ FracTold w w' e ng N M cd := by
  refine (frac_any s w hs).mono ?_
  rintro e w' ⟨hb, h⟩
  rw [frac_says, hx] at h
  obtain ⟨q, p, rfl, hq, hp⟩ := h
  obtain ⟨ad, cap, rfl⟩ := hq.shape
  obtain ⟨ad2, cap2, rfl⟩ := hp.shape
  exact ⟨hb, _, _, _, _, rfl, hq, hp⟩

def rowOf (s : ByteArray) : List (Bool × List Nat × Bool × List Nat) × Nat × Nat := rowGo true [] (piecesOf s)

def badAt (P : List (ByteArray × Bool)) (k : Nat) : Bool := k == 0 || (P.getD (k - 1) (⟨#[]⟩, false)).2

/-- a row's value -/
def RowSays (w w' : World) (e : Ending) (x : List (Bool × List Nat × Bool × List Nat) × Nat × Nat) : Prop :=
  ∃ r, e = .returned (.tuple #[r, .int .i64 (x.2.1 : Nat), .int .i64 (x.2.2 : Nat)]) ∧ Fracs w.heap.size w'.heap.size w' r x.1

theorem drop_at {α : Type} (P : List α) (k : Nat) (x : α) (h : P[k]? = some x) : P.drop k = x :: P.drop (k + 1) := by
  obtain ⟨hk, rfl⟩ := List.getElem?_eq_some_iff.1 h
  exact List.drop_eq_getElem_cons hk

theorem placesAt_len (s : ByteArray) (pos : Nat) : (placesAt s pos).length ≤ s.size - pos := by
  obtain ⟨n, hn⟩ : ∃ n, s.size - pos = n := ⟨_, rfl⟩
  induction n using Nat.strongRecOn generalizing pos with
  | ind n ih =>
    by_cases h : pos < s.size
    · rw [placesAt_step s pos h]
      have hw := (decode_width s pos).1
      have := ih (s.size - (pos + (Utf8.decode s pos).2)) (by omega) (pos + (Utf8.decode s pos).2) rfl
      simp only [List.length_cons]
      omega
    · rw [placesAt_end s pos h]; simp

theorem pcs_len (s : ByteArray) : ∀ (L : List (Nat × Nat)) (fr : Option Nat), (pcs s fr L).length ≤ 2 * L.length + 1
  | [], fr => by rw [pcs]; exact flush_len s fr _
  | (i, r) :: L, fr => by
    rw [pcs]
    have h1 := pcs_len s L none
    have h2 := pcs_len s L (some (fr.getD i))
    have h3 := flush_len s fr i
    split
    · simp only [List.length_append, List.length_cons]; omega
    · split
      · simp only [List.length_append, List.length_cons]; omega
      · simp only [List.length_cons]; omega

theorem piecesOf_len (s : ByteArray) : (piecesOf s).length ≤ 2 * s.size + 1 := by
  have h1 := pcs_len s (placesAt s 0) none
  have h2 := placesAt_len s 0
  unfold piecesOf
  omega

/-- all pieces' texts are no longer than the text -/
theorem piece_size (s : ByteArray) : ∀ (L : List (Nat × Nat)) (fr : Option Nat) (x : ByteArray × Bool), x ∈ pcs s fr L → x.1.size ≤ s.size
  | [], fr, x, h => by
    rw [pcs] at h
    cases fr with
    | none => simp [flush] at h
    | some a => simp only [flush, List.mem_singleton] at h; rw [h]; simp [ByteArray.size_extract] <;> omega
  | (i, r) :: L, fr, x, h => by
    rw [pcs] at h
    have hf : ∀ y, y ∈ flush s fr i → y.1.size ≤ s.size := by
      intro y hy
      cases fr with
      | none => simp [flush] at hy
      | some a => simp only [flush, List.mem_singleton] at hy; rw [hy]; simp [ByteArray.size_extract] <;> omega
    split at h
    · rcases List.mem_append.1 h with h | h
      · exact hf x h
      · exact piece_size s L none x h
    · split at h
      · rcases List.mem_append.1 h with h | h
        · exact hf x h
        · rcases List.mem_cons.1 h with h | h
          · rw [h]; exact Nat.zero_le _
          · exact piece_size s L none x h
      · exact piece_size s L _ x h

set_option maxHeartbeats 3200000 in
theorem row_any (s : ByteArray) (w : World) (hs : s.size ≤ 400000000) :
    Calls Tryd.prog 14 #[.string s] w fun e w' => Below w.heap.size w w' ∧ RowSays w w' e (rowOf s) := by
  have q0 := pieces_any s w hs
  have hpl := piecesOf_len s
  have hps := piece_size s (placesAt s 0) none
  have hP0 : pcs s none (placesAt s 0) = piecesOf s := rfl
  rw [hP0] at hps
  unfold rowOf
  revert q0 hpl hps
  generalize piecesOf s = P
  intro q0 hpl hps
  obtain ⟨X, hX⟩ : ∃ X, rowGo true [] P = X := ⟨_, rfl⟩
  have HX := hid hX
  have HPS := hid hps
  have Q0 := hid q0
  rw [hX]
  clear hX hP0 q0 hps
  go_enter Tryd.func14, Tryd.ntmps14
  go_wp2_with fail
  refine Q0.out.mono ?_
  rintro e w1 ⟨hb1, r, rfl, hrow⟩
  obtain ⟨ad, cap, rfl⟩ := hrow.shape
  have HROW := hid hrow
  clear Q0 hrow
  go_wp2
  go_loopg [5, 15] P.length (fun gk ov t wr => ∃ (k : Nat) (out : List (Bool × List Nat × Bool × List Nat)), gk = P.length - k ∧ t = .int .i64 k ∧ k ≤ P.length ∧ OutRow w1.heap.size wr ov out ∧ Below w1.heap.size w1 wr ∧
      rowGo (badAt P k) out (P.drop k) = X ∧ out.length ≤ k)
  case atStart => exact ⟨0, [], by omega, rfl, Nat.zero_le _, OutRow.nil, Below.refl _ _, HX.out, Nat.le_refl _⟩
  case round =>
    obtain ⟨k, out, hgk, rfl, hk, hout, hbel, hgo, hol⟩ := hrel
    have HGK := hid hgk
    have HGO := hid hgo
    have HOUT := hid hout
    clear hgk hgo hout
    by_cases hkl : k < P.length
    · obtain ⟨⟨wd, cm⟩, hx⟩ : ∃ x, P[k]? = some x := ⟨_, List.getElem?_eq_getElem hkl⟩
      obtain ⟨b, off, cap', cs, hsh, hcap, _, hbw, _, hcs, hcell⟩ := HROW.out.at k _ hx
      simp only [Value.slice.injEq, true_and] at hsh
      obtain ⟨rfl, rfl⟩ := hsh
      have hcs : cs = pieceC (wd, cm) := hcs
      subst hcs
      have d0 : wr.cell? ⟨b, off + k * 2, none⟩ = some (.string wd) := (hbel.cell (p := ⟨b, off + k * 2, none⟩) hbw).trans (hcell 0 (by decide))
      have d1 : wr.cell? ⟨b, off + k * 2 + 1, none⟩ = some (.bool cm) := (hbel.cell (p := ⟨b, off + k * 2 + 1, none⟩) hbw).trans (hcell 1 (by decide))
      have hB0 : 0 < w1.heap.size := by omega
      have hdrop := drop_at P k _ hx
      have hgo := HGO.out
      rw [hdrop] at hgo
      have f1 : (k : Int) < (P.length : Int) := by omega
      have hwd : wd.size ≤ s.size := HPS.out _ (List.mem_of_getElem? hx)
      have HX1 := hid hx
      have hB := hbel.alloc hbel.size (.cells #[.string wd, .bool cm] 86)
      obtain ⟨hal, bp, hsz⟩ := boxA wr #[.string wd, .bool cm] 86
      clear hcell hdrop hx HX
      cases cm
      · rw [rowGo] at hgo
        obtain ⟨⟨ng, N, M, ce⟩, hy⟩ : ∃ x, fracR (runesOf wd) = x := ⟨_, rfl⟩
        rw [hy] at hgo
        have q1 : ∀ w, Calls Tryd.prog 12 #[.string wd] w fun e w' => Below w.heap.size w w' ∧ FracTold w w' e ng N M ce := fun w => readsFracB wd w (by omega) ng N M ce hy
        have Q1 := hid q1
        obtain ⟨e0, e1, j0, j1⟩ := bp.two
        have HG := hid hgo
        clear q1 hy hgo HGO
        go_wp2_with fail
        refine (Q1.out _).mono ?_
        rintro e w2 ⟨hb2, ad4, cap4, ae4, cbp4, rfl, hq, hp⟩
        have hC := hB.trans (hb2.mono (Nat.le_trans hbel.size hal.size))
        have hs2 := hb2.size
        have hout2 := (HOUT.out.later hal).later hb2
        obtain ⟨hal2, bf2, hsz2⟩ := boxA w2 #[.bool ng, .slice ad4 (toL N).length cap4, .bool false, .slice ae4 (toL M).length cbp4] 42
        have hD := hC.alloc hC.size (.cells #[.bool ng, .slice ad4 (toL N).length cap4, .bool false, .slice ae4 (toL M).length cbp4] 42)
        have hq2 := (hq.below hal2 (Nat.le_refl _)).wide (lo' := w1.heap.size) (hi' := (w2.alloc (.cells #[.bool ng, .slice ad4 (toL N).length cap4, .bool false, .slice ae4 (toL M).length cbp4] 42)).heap.size) (Nat.le_trans hbel.size hal.size) (by rw [hsz2]; omega)
        have hp2 := (hp.below hal2 (Nat.le_refl _)).wide (lo' := w1.heap.size) (hi' := (w2.alloc (.cells #[.bool ng, .slice ad4 (toL N).length cap4, .bool false, .slice ae4 (toL M).length cbp4] 42)).heap.size) (Nat.le_trans hbel.size hal.size) (by rw [hsz2]; omega)
        obtain ⟨ad5, cap5, rfl⟩ := HOUT.out.shape
        obtain ⟨cs, hown, hcl, hc4, hR⟩ := hout2.later hal2
        obtain ⟨W3, hW3⟩ : ∃ W, w2.alloc (.cells #[.bool ng, .slice ad4 (toL N).length cap4, .bool false, .slice ae4 (toL M).length cbp4] 42) = W := ⟨_, rfl⟩
        rw [hW3] at hD hq2 hp2 bf2 hown hR
        obtain ⟨⟨m0, m1, m2, m3⟩, n0, n1, n2, n3⟩ := bf2.four
        clear Q1 hq hp bp bf2 e0 e1 j0 j1 HOUT hout2 hb2 hB hC hal2 hsz2
        by_cases hce : ce = 0
        · subst hce
          have hg2 := HG.out
          rw [if_neg (by simp)] at hg2
          have HG2 := hid hg2
          have HOWN := hid hown
          have HQ := hid hq2
          have HP := hid hp2
          have HR := hid hR
          clear HG hg2 hown hq2 hp2 hR
          go_wp2_with (at_builtin; go_loud (refine wpl_append1 elemRat rfl _ _ rfl w1.heap.size out.length 1 1 _ cs.flatten #[.bool ng, .slice ad4 (toL N).length cap4, .bool false, .slice ae4 (toL M).length cbp4] HOWN.out rfl rfl rfl (by simp [Value.oneCell']) (by omega) (by decide) (by unfold maxLen; omega) hD hD.size ?_))
          intro g6 c6 w6 ho6 hb6 hg6
          have hsn := OutRow.snoc (x := fracL (ng, N, M, 0)) hB0 HOWN.out hcl hc4 HR.out HQ.out HP.out ho6 hg6
          have HSN := hid hsn
          clear hsn ho6 hg6
          go_wp2
          go_roundg (P.length - (k + 1))
          case measure => have := HGK.out; omega
          case rel =>
            refine ⟨k + 1, _, rfl, by go_num, by omega, HSN.out, hb6, ?_, by simp; omega⟩
            rw [← HG2.out]
            have : badAt P (k + 1) = false := by
              unfold badAt
              simp [List.getD_eq_getElem?_getD, HX1.out]
            rw [this]
        · have hg2 := HG.out
          rw [if_pos hce] at hg2
          have hne : (((ce : Nat) : Int) == 0) = false := by simp; omega
          have HG2 := hid hg2
          have HD := hid hD
          clear HG hg2 hD hown hR hq2 hp2
          go_wp2
          go_ret3
          rw [← HG2.out]
          exact ⟨hb1.trans (HD.out.mono hb1.size), _, rfl, RowOf.nil⟩
      · rw [rowGo] at hgo
        have HG := hid hgo
        obtain ⟨e0, e1, j0, j1⟩ := bp.two
        have HB := hid hB
        clear hgo HGO bp hal hB hsz
        rcases Nat.eq_zero_or_pos k with hk0 | hk0
        · subst hk0
          have hg2 := HG.out
          rw [if_pos (.inl (by rfl))] at hg2
          have HG2 := hid hg2
          clear HG hg2
          obtain ⟨ad5, cap5, rfl⟩ := HOUT.out.shape
          simp only [Nat.zero_mul, Nat.add_zero] at d0 d1
          go_wp2
          go_ret3
          rw [← HG2.out]
          exact ⟨hb1.trans (HB.out.mono hb1.size), _, rfl, RowOf.nil⟩
        · obtain ⟨j, rfl⟩ : ∃ j, k = j + 1 := ⟨k - 1, by omega⟩
          obtain ⟨⟨wd2, cm2⟩, hx2⟩ : ∃ x, P[j]? = some x := ⟨_, List.getElem?_eq_getElem (by omega)⟩
          obtain ⟨b', off', cap'', cs2, hsh2, _, _, hbw2, _, hcs2, hcell2⟩ := HROW.out.at j _ hx2
          simp only [Value.slice.injEq, true_and, Option.some.injEq, Addr.mk.injEq, and_true] at hsh2
          obtain ⟨⟨rfl, rfl⟩, rfl⟩ := hsh2
          have hcs2 : cs2 = pieceC (wd2, cm2) := hcs2
          subst hcs2
          have d2 : wr.cell? ⟨b, off + j * 2 + 1, none⟩ = some (.bool cm2) := (hbel.cell (p := ⟨b, off + j * 2 + 1, none⟩) hbw2).trans (hcell2 1 (by decide))
          have d3 : (wr.alloc (.cells #[.string wd, .bool true] 86)).cell? ⟨b, off + j * 2 + 1, none⟩ = some (.bool cm2) := by
            rw [World.cell?_of_block (Below.heap_alloc wr _ b (Nat.lt_of_lt_of_le hbw2 hbel.size))]
            exact d2
          have hbad : badAt P (j + 1) = cm2 := by
            unfold badAt
            simp [List.getD_eq_getElem?_getD, hx2]
          rw [hbad] at HG
          clear hcell2 hx2 hbad
          cases cm2
          · by_cases hlast : j + 2 = P.length
            · have hg2 := HG.out
              rw [if_pos (.inr (by rw [List.drop_eq_nil_iff]; omega))] at hg2
              have HG2 := hid hg2
              have hl1 : ((j : Int) + 1 == (P.length : Int) - 1) = true := by simp; omega
              clear HG hg2 hlast
              obtain ⟨ad5, cap5, rfl⟩ := HOUT.out.shape
              go_wp2
              go_ret3
              rw [← HG2.out]
              exact ⟨hb1.trans (HB.out.mono hb1.size), _, rfl, RowOf.nil⟩
            · have hg2 := HG.out
              rw [if_neg (by simp [List.drop_eq_nil_iff]; omega)] at hg2
              have HG2 := hid hg2
              have hl1 : ((j : Int) + 1 == (P.length : Int) - 1) = false := by simp; omega
              have hout2 := hid (HOUT.out.later ((boxA wr #[.string wd, .bool true] 86).1))
              clear HG hg2
              go_wp2
              go_roundg (P.length - (j + 2))
              case measure => have := HGK.out; omega
              case rel =>
                refine ⟨j + 2, out, rfl, by go_num, by omega, hout2.out, HB.out, ?_, by omega⟩
                rw [← HG2.out]
                have : badAt P (j + 2) = true := by
                  unfold badAt
                  simp [List.getD_eq_getElem?_getD, HX1.out]
                rw [this]
          · have hg2 := HG.out
            rw [if_pos (.inl (by rfl))] at hg2
            have HG2 := hid hg2
            clear HG hg2
            obtain ⟨ad5, cap5, rfl⟩ := HOUT.out.shape
            go_wp2
            go_ret3
            rw [← HG2.out]
            exact ⟨hb1.trans (HB.out.mono hb1.size), _, rfl, RowOf.nil⟩
    · obtain rfl : k = P.length := by omega
      have hgo := HGO.out
      rw [List.drop_length, rowGo] at hgo
      obtain ⟨ad5, cap5, rfl⟩ := HOUT.out.shape
      have HG := hid hgo
      clear hgo
      go_wp2
      go_ret3
      rw [← HG.out]
      exact ⟨hb1.trans (hbel.mono hb1.size), _, rfl, HOUT.out.fracs.wide hb1.size (Nat.le_refl _)⟩
end Go.Proofs.YtjjidmgeladicaaDoor

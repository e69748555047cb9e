/- numeral.Row: its numbers are the call's own. -/
import Derived.Test.YtjjidmgeladicaaDoorRowN
namespace Go.Proofs.YtjjidmgeladicaaDoor
open Go.RowKit

theorem OutRow.base1 {B B' : Nat} {w : World} {v : Value} {out : List (Bool × List Nat × Bool × List Nat)} (h : OutRow B w v out) (hB : B' ≤ B) : OutRow B' w v out := by
  obtain ⟨cs, h1, h2, h3, h4⟩ := h
  exact ⟨cs, own_base h1 hB, h2, h3, fun i x c hx hc => (h4 i x c hx hc).wide hB (Nat.le_refl _)⟩

/-- a row's value, of which all is the call's own -/
def RowOwn (w w' : World) (e : Ending) (x : List (Bool × List Nat × Bool × List Nat) × Nat × Nat) : Prop :=
  ∃ r, e = .returned (.tuple #[r, .int .i64 (x.2.1 : Nat), .int .i64 (x.2.2 : Nat)]) ∧ OutRow w.heap.size w' r x.1

set_option maxHeartbeats 3200000 in
theorem row_own (s : ByteArray) (w : World) (hs : s.size ≤ 400000000) :
    Calls Tryd.prog 14 #[.string s] w fun e w' => Below w.heap.size w w' ∧ RowOwn w w' e (rowOf s) := by
  have q0 := pieces_any s w hs
  have hpl := piecesOf_len s
  have hps := piece_size s (placesAt s 0) none
  have hP0 : pcs s none (placesAt s 0) = piecesOf s := rfl
  rw [hP0] at hps
  unfold rowOf
  revert q0 hpl hps
  generalize piecesOf s = P
  intro q0 hpl hps
  obtain ⟨X, hX⟩ : ∃ X, rowGo true [] P = X := ⟨_, rfl⟩
  have HX := hid hX
  have HPS := hid hps
  have Q0 := hid q0
  rw [hX]
  clear hX hP0 q0 hps
  go_enter Tryd.func14, Tryd.ntmps14
  go_wp2_with fail
  refine Q0.out.mono ?_
  rintro e w1 ⟨hb1, r, rfl, hrow⟩
  obtain ⟨ad, cap, rfl⟩ := hrow.shape
  have HROW := hid hrow
  clear Q0 hrow
  go_wp2
  go_loopg [5, 15] P.length (fun gk ov t wr => ∃ (k : Nat) (out : List (Bool × List Nat × Bool × List Nat)), gk = P.length - k ∧ t = .int .i64 k ∧ k ≤ P.length ∧ OutRow w1.heap.size wr ov out ∧ Below w1.heap.size w1 wr ∧
      rowGo (badAt P k) out (P.drop k) = X ∧ out.length ≤ k)
  case atStart => exact ⟨0, [], by omega, rfl, Nat.zero_le _, OutRow.nil, Below.refl _ _, HX.out, Nat.le_refl _⟩
  case round =>
    obtain ⟨k, out, hgk, rfl, hk, hout, hbel, hgo, hol⟩ := hrel
    have HGK := hid hgk
    have HGO := hid hgo
    have HOUT := hid hout
    clear hgk hgo hout
    by_cases hkl : k < P.length
    · obtain ⟨⟨wd, cm⟩, hx⟩ : ∃ x, P[k]? = some x := ⟨_, List.getElem?_eq_getElem hkl⟩
      obtain ⟨b, off, cap', cs, hsh, hcap, _, hbw, _, hcs, hcell⟩ := HROW.out.at k _ hx
      simp only [Value.slice.injEq, true_and] at hsh
      obtain ⟨rfl, rfl⟩ := hsh
      have hcs : cs = pieceC (wd, cm) := hcs
      subst hcs
      have d0 : wr.cell? ⟨b, off + k * 2, none⟩ = some (.string wd) := (hbel.cell (p := ⟨b, off + k * 2, none⟩) hbw).trans (hcell 0 (by decide))
      have d1 : wr.cell? ⟨b, off + k * 2 + 1, none⟩ = some (.bool cm) := (hbel.cell (p := ⟨b, off + k * 2 + 1, none⟩) hbw).trans (hcell 1 (by decide))
      have hB0 : 0 < w1.heap.size := by omega
      have hdrop := drop_at P k _ hx
      have hgo := HGO.out
      rw [hdrop] at hgo
      have f1 : (k : Int) < (P.length : Int) := by omega
      have hwd : wd.size ≤ s.size := HPS.out _ (List.mem_of_getElem? hx)
      have HX1 := hid hx
      have hB := hbel.alloc hbel.size (.cells #[.string wd, .bool cm] 86)
      obtain ⟨hal, bp, hsz⟩ := boxA wr #[.string wd, .bool cm] 86
      clear hcell hdrop hx HX
      cases cm
      · rw [rowGo] at hgo
        obtain ⟨⟨ng, N, M, ce⟩, hy⟩ : ∃ x, fracR (runesOf wd) = x := ⟨_, rfl⟩
        rw [hy] at hgo
        have q1 : ∀ w, Calls Tryd.prog 12 #[.string wd] w fun e w' => Below w.heap.size w w' ∧ FracTold w w' e ng N M ce := fun w => readsFracB wd w (by omega) ng N M ce hy
        have Q1 := hid q1
        obtain ⟨e0, e1, j0, j1⟩ := bp.two
        have HG := hid hgo
        clear q1 hy hgo HGO
        go_wp2_with fail
        refine (Q1.out _).mono ?_
        rintro e w2 ⟨hb2, ad4, cap4, ae4, cbp4, rfl, hq, hp⟩
        have hC := hB.trans (hb2.mono (Nat.le_trans hbel.size hal.size))
        have hs2 := hb2.size
        have hout2 := (HOUT.out.later hal).later hb2
        obtain ⟨hal2, bf2, hsz2⟩ := boxA w2 #[.bool ng, .slice ad4 (toL N).length cap4, .bool false, .slice ae4 (toL M).length cbp4] 42
        have hD := hC.alloc hC.size (.cells #[.bool ng, .slice ad4 (toL N).length cap4, .bool false, .slice ae4 (toL M).length cbp4] 42)
        have hq2 := (hq.below hal2 (Nat.le_refl _)).wide (lo' := w1.heap.size) (hi' := (w2.alloc (.cells #[.bool ng, .slice ad4 (toL N).length cap4, .bool false, .slice ae4 (toL M).length cbp4] 42)).heap.size) (Nat.le_trans hbel.size hal.size) (by rw [hsz2]; omega)
        have hp2 := (hp.below hal2 (Nat.le_refl _)).wide (lo' := w1.heap.size) (hi' := (w2.alloc (.cells #[.bool ng, .slice ad4 (toL N).length cap4, .bool false, .slice ae4 (toL M).length cbp4] 42)).heap.size) (Nat.le_trans hbel.size hal.size) (by rw [hsz2]; omega)
        obtain ⟨ad5, cap5, rfl⟩ := HOUT.out.shape
        obtain ⟨cs, hown, hcl, hc4, hR⟩ := hout2.later hal2
        obtain ⟨W3, hW3⟩ : ∃ W, w2.alloc (.cells #[.bool ng, .slice ad4 (toL N).length cap4, .bool false, .slice ae4 (toL M).length cbp4] 42) = W := ⟨_, rfl⟩
        rw [hW3] at hD hq2 hp2 bf2 hown hR
        obtain ⟨⟨m0, m1, m2, m3⟩, n0, n1, n2, n3⟩ := bf2.four
        clear Q1 hq hp bp bf2 e0 e1 j0 j1 HOUT hout2 hb2 hB hC hal2 hsz2
        by_cases hce : ce = 0
        · subst hce
          have hg2 := HG.out
          rw [if_neg (by simp)] at hg2
          have HG2 := hid hg2
          have HOWN := hid hown
          have HQ := hid hq2
          have HP := hid hp2
          have HR := hid hR
          clear HG hg2 hown hq2 hp2 hR
          go_wp2_with (at_builtin; go_loud (refine wpl_append1 elemRat rfl _ _ rfl w1.heap.size out.length 1 1 _ cs.flatten #[.bool ng, .slice ad4 (toL N).length cap4, .bool false, .slice ae4 (toL M).length cbp4] HOWN.out rfl rfl rfl (by simp [Value.oneCell']) (by omega) (by decide) (by unfold maxLen; omega) hD hD.size ?_))
          intro g6 c6 w6 ho6 hb6 hg6
          have hsn := OutRow.snoc (x := fracL (ng, N, M, 0)) hB0 HOWN.out hcl hc4 HR.out HQ.out HP.out ho6 hg6
          have HSN := hid hsn
          clear hsn ho6 hg6
          go_wp2
          go_roundg (P.length - (k + 1))
          case measure => have := HGK.out; omega
          case rel =>
            refine ⟨k + 1, _, rfl, by go_num, by omega, HSN.out, hb6, ?_, by simp; omega⟩
            rw [← HG2.out]
            have : badAt P (k + 1) = false := by
              unfold badAt
              simp [List.getD_eq_getElem?_getD, HX1.out]
            rw [this]
        · have hg2 := HG.out
          rw [if_pos hce] at hg2
          have hne : (((ce : Nat) : Int) == 0) = false := by simp; omega
          have HG2 := hid hg2
          have HD := hid hD
          clear HG hg2 hD hown hR hq2 hp2
          go_wp2
          go_ret3
          rw [← HG2.out]
          exact ⟨hb1.trans (HD.out.mono hb1.size), _, rfl, OutRow.nil⟩
      · rw [rowGo] at hgo
        have HG := hid hgo
        obtain ⟨e0, e1, j0, j1⟩ := bp.two
        have HB := hid hB
        clear hgo HGO bp hal hB hsz
        rcases Nat.eq_zero_or_pos k with hk0 | hk0
        · subst hk0
          have hg2 := HG.out
          rw [if_pos (.inl (by rfl))] at hg2
          have HG2 := hid hg2
          clear HG hg2
          obtain ⟨ad5, cap5, rfl⟩ := HOUT.out.shape
          simp only [Nat.zero_mul, Nat.add_zero] at d0 d1
          go_wp2
          go_ret3
          rw [← HG2.out]
          exact ⟨hb1.trans (HB.out.mono hb1.size), _, rfl, OutRow.nil⟩
        · obtain ⟨j, rfl⟩ : ∃ j, k = j + 1 := ⟨k - 1, by omega⟩
          obtain ⟨⟨wd2, cm2⟩, hx2⟩ : ∃ x, P[j]? = some x := ⟨_, List.getElem?_eq_getElem (by omega)⟩
          obtain ⟨b', off', cap'', cs2, hsh2, _, _, hbw2, _, hcs2, hcell2⟩ := HROW.out.at j _ hx2
          simp only [Value.slice.injEq, true_and, Option.some.injEq, Addr.mk.injEq, and_true] at hsh2
          obtain ⟨⟨rfl, rfl⟩, rfl⟩ := hsh2
          have hcs2 : cs2 = pieceC (wd2, cm2) := hcs2
          subst hcs2
          have d2 : wr.cell? ⟨b, off + j * 2 + 1, none⟩ = some (.bool cm2) := (hbel.cell (p := ⟨b, off + j * 2 + 1, none⟩) hbw2).trans (hcell2 1 (by decide))
          have d3 : (wr.alloc (.cells #[.string wd, .bool true] 86)).cell? ⟨b, off + j * 2 + 1, none⟩ = some (.bool cm2) := by
            rw [World.cell?_of_block (Below.heap_alloc wr _ b (Nat.lt_of_lt_of_le hbw2 hbel.size))]
            exact d2
          have hbad : badAt P (j + 1) = cm2 := by
            unfold badAt
            simp [List.getD_eq_getElem?_getD, hx2]
          rw [hbad] at HG
          clear hcell2 hx2 hbad
          cases cm2
          · by_cases hlast : j + 2 = P.length
            · have hg2 := HG.out
              rw [if_pos (.inr (by rw [List.drop_eq_nil_iff]; omega))] at hg2
              have HG2 := hid hg2
              have hl1 : ((j : Int) + 1 == (P.length : Int) - 1) = true := by simp; omega
              clear HG hg2 hlast
              obtain ⟨ad5, cap5, rfl⟩ := HOUT.out.shape
              go_wp2
              go_ret3
              rw [← HG2.out]
              exact ⟨hb1.trans (HB.out.mono hb1.size), _, rfl, OutRow.nil⟩
            · have hg2 := HG.out
              rw [if_neg (by simp [List.drop_eq_nil_iff]; omega)] at hg2
              have HG2 := hid hg2
              have hl1 : ((j : Int) + 1 == (P.length : Int) - 1) = false := by simp; omega
              have hout2 := hid (HOUT.out.later ((boxA wr #[.string wd, .bool true] 86).1))
              clear HG hg2
              go_wp2
              go_roundg (P.length - (j + 2))
              case measure => have := HGK.out; omega
              case rel =>
                refine ⟨j + 2, out, rfl, by go_num, by omega, hout2.out, HB.out, ?_, by omega⟩
                rw [← HG2.out]
                have : badAt P (j + 2) = true := by
                  unfold badAt
                  simp [List.getD_eq_getElem?_getD, HX1.out]
                rw [this]
          · have hg2 := HG.out
            rw [if_pos (.inl (by rfl))] at hg2
            have HG2 := hid hg2
            clear HG hg2
            obtain ⟨ad5, cap5, rfl⟩ := HOUT.out.shape
            go_wp2
            go_ret3
            rw [← HG2.out]
            exact ⟨hb1.trans (HB.out.mono hb1.size), _, rfl, OutRow.nil⟩
    · obtain rfl : k = P.length := by omega
      have hgo := HGO.out
      rw [List.drop_length, rowGo] at hgo
      obtain ⟨ad5, cap5, rfl⟩ := HOUT.out.shape
      have HG := hid hgo
      clear hgo
      go_wp2
      go_ret3
      rw [← HG.out]
      exact ⟨hb1.trans (hbel.mono hb1.size), _, rfl, OutRow.base1 HOUT.out hb1.size⟩
end Go.Proofs.YtjjidmgeladicaaDoor

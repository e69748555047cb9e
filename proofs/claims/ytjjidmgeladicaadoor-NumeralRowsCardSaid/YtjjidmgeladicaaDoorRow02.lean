/- simileref02.row, Row: a row's numbers, or which one is wrong. -/
import Derived.Test.YtjjidmgeladicaaDoorParted
import Derived.Test.YtjjidmgeladicaaDoorRowTold
import Derived.Test.YtjjidmgeladicaaDoorRowOwn
namespace Go.Proofs.YtjjidmgeladicaaDoor
open Go.RowKit

theorem runes_44 : runesOf ⟨#[44]⟩ = [44] := by rw [runesOf_B]; decide
theorem runes_59 : runesOf ⟨#[59, 10]⟩ = [59, 10] := by rw [runesOf_B]; decide
theorem parts_comma : (fun r => (runesOf ⟨#[44]⟩).contains r) = isComma := by funext r; rw [runes_44]; unfold isComma; rw [Bool.eq_iff_iff]; simp
theorem parts_end : (fun r => (runesOf ⟨#[59, 10]⟩).contains r) = isEnd := by
  funext r; rw [runes_59]; unfold isEnd; rw [Bool.eq_iff_iff]; simp

/-- what a fraction's runes tell, with its shapes -/
theorem frac02B (lo h1 : Nat) (v : Value) (L : List Nat) (w : World) (h : Nums .i32 lo h1 w v L) (hh1 : h1 ≤ w.heap.size) (hl : L.length ≤ 1000000000) (hrl : ∀ r, r ∈ L → r < 2097152) (ng : Bool) (N M cd : Nat) (hx : fracR L = (ng, N, M, cd)) :
    Calls Tryd.prog 72 #[v] w fun e w' => Below w.heap.size w w' ∧ FracTold w w' e ng N M cd := by
  refine (frac02_any lo h1 v L w h hh1 hl hrl).mono ?_
  rintro e w' ⟨hb, h⟩
  rw [hx] at h
  obtain ⟨q, p, rfl, hq, hp⟩ := h
  obtain ⟨ad, cap, rfl⟩ := hq.shape
  obtain ⟨ad2, cap2, rfl⟩ := hp.shape
  exact ⟨hb, _, _, _, _, rfl, hq, hp⟩

theorem wordsL_mem (L x : List Nat) (h : x ∈ wordsL L) : (∀ r, r ∈ x → r ∈ L) ∧ x.length ≤ L.length := by
  have key : ∀ (L : List Nat) (st : List (List Nat) × List Nat) (P : Nat → Prop) (n : Nat), (∀ y, y ∈ st.1 → (∀ r, r ∈ y → P r) ∧ y.length ≤ n) → (∀ r, r ∈ st.2 → P r) → st.2.length + L.length ≤ n → (∀ r, r ∈ L → isGap r = false → P r) →
      (∀ y, y ∈ (L.foldl wStep st).1 → (∀ r, r ∈ y → P r) ∧ y.length ≤ n) := by
    intro L
    induction L with
    | nil => intro st P n h1 _ _ _; exact h1
    | cons r L ih =>
      intro st P n h1 h2 h3 h4
      rw [List.foldl_cons]
      simp only [List.length_cons] at h3
      by_cases hg : isGap r = true
      · have e : wStep st r = (if st.2 = [] then st.1 else st.1 ++ [st.2], []) := if_pos hg
        rw [e]
        refine ih _ P n ?_ (by simp) (by simp; omega) (fun x hx => h4 x (List.mem_cons_of_mem _ hx))
        dsimp only
        intro y hy
        split at hy
        · exact h1 y hy
        · rcases List.mem_append.1 hy with h | h
          · exact h1 y h
          · simp only [List.mem_singleton] at h
            rw [h]
            exact ⟨h2, by omega⟩
      · have e : wStep st r = (st.1, st.2 ++ [r]) := if_neg hg
        rw [e]
        refine ih _ P n h1 ?_ (by simp; omega) (fun x hx => h4 x (List.mem_cons_of_mem _ hx))
        dsimp only
        intro x hx
        rcases List.mem_append.1 hx with h | h
        · exact h2 x h
        · simp only [List.mem_singleton] at h
          rw [h]
          exact h4 r (List.mem_cons_self ..) (by simpa using hg)
  have hh : ∀ y, y ∈ ((L ++ [32]).foldl wStep ([], [])).1 → (∀ r, r ∈ y → r ∈ L) ∧ y.length ≤ L.length + 1 := by
    refine key (L ++ [32]) ([], []) (fun r => r ∈ L) (L.length + 1) (by simp) (by simp) (by simp) ?_
    intro r hr hg
    rcases List.mem_append.1 hr with h | h
    · exact h
    · simp only [List.mem_singleton] at h
      subst h
      exact absurd hg (by decide)
  have h0 : x ∈ ((L ++ [32]).foldl wStep ([], [])).1 := h
  obtain ⟨h1, h2⟩ := hh x h0
  refine ⟨h1, ?_⟩
  have key2 : ∀ y, y ∈ ((L ++ [32]).foldl wStep ([], [])).1 → y.length ≤ L.length := by
    rw [List.foldl_append]
    intro y hy
    have h3 := wordSt_len L
    have e : List.foldl wStep (L.foldl wStep ([], [])) [32] = wStep (wordSt L) 32 := rfl
    rw [e] at hy
    have hk := key L ([], []) (fun _ => True) L.length (by simp) (by simp) (by simp) (by simp)
    have e2 : wStep (wordSt L) 32 = (if (wordSt L).2 = [] then (wordSt L).1 else (wordSt L).1 ++ [(wordSt L).2], []) := if_pos (by decide)
    rw [e2] at hy
    dsimp only at hy
    split at hy
    · exact (hk y hy).2
    · rcases List.mem_append.1 hy with h | h
      · exact (hk y h).2
      · simp only [List.mem_singleton] at h
        rw [h]
        omega
  exact key2 x h0

theorem wordsL_len (L : List Nat) : (wordsL L).length ≤ L.length + 1 := by
  have := wordSt_len (L ++ [32])
  simp only [List.length_append, List.length_cons, List.length_nil] at this
  unfold wordsL
  omega

theorem fracsGo_len (out : List Fr) (xs : List (List Nat)) : (fracsGo out xs).1.length ≤ out.length + xs.length := by
  induction xs generalizing out with
  | nil => simp [fracsGo]
  | cons x xs ih =>
    rw [fracsGo]
    split
    · simp
    · have := ih (out ++ [fracL (fracR x)])
      simp only [List.length_append, List.length_cons, List.length_nil] at this ⊢
      omega

set_option maxRecDepth 100000 in
set_option maxHeartbeats 12800000 in
theorem row02_any (lo h1 : Nat) (v : Value) (L : List Nat) (w : World) (h : Nums .i32 lo h1 w v L) (hh1 : h1 ≤ w.heap.size) (hl : L.length ≤ 400000000) (hrl : ∀ r, r ∈ L → r < 2097152) :
    Calls Tryd.prog 40 #[v] w fun e w' => Below w.heap.size w w' ∧ RowOwn w w' e (rowR L) := by
  have q0 := parted_any lo h1 v L ⟨#[44]⟩ w h hh1 (by omega) (by decide)
  rw [parts_comma] at q0
  have hCm : ∀ c, c ∈ partedL isComma L → c.length ≤ L.length ∧ ∀ r, r ∈ c → r < 2097152 := fun c hc => by
    have h1 := sumLen_mem _ c hc
    rw [parted_len] at h1
    exact ⟨by omega, fun r hr => hrl r (parted_mem isComma L c hc r hr)⟩
  have hCl : (partedL isComma L).length ≤ L.length + 1 := by
    have := sumLen_len (partedL isComma L)
    rw [parted_len] at this
    exact this
  rw [← rowRef_eq]
  unfold rowRef
  obtain ⟨C, hC⟩ : ∃ C, partedL isComma L = C := ⟨_, rfl⟩
  rw [hC] at q0 hCm hCl ⊢
  have hCs : sumLen C = L.length + 1 := by rw [← hC, parted_len]
  obtain ⟨X, hX⟩ : ∃ X, cellsGo (decide (1 < C.length)) [] C = X := ⟨_, rfl⟩
  rw [hX]
  have HX := hid hX
  have HCM := hid hCm
  have Q0 := hid q0
  obtain ⟨ad0, cap0, rfl⟩ : ∃ ad c, v = .slice ad L.length c := by obtain ⟨ad, c, hv, _⟩ := h.open; exact ⟨ad, c, hv⟩
  clear hC hX hCm q0 h hrl
  go_enter Tryd.func40, Tryd.ntmps40
  go_wp2_with fail
  refine Q0.out.mono ?_
  rintro e w1 ⟨hb1, r1, rfl, hrows⟩
  obtain ⟨ad, cap, rfl⟩ := RowOf.shape hrows
  have HROWS := hid hrows
  clear Q0 hrows
  go_wp2
  go_loopw [6, 18] (fun ov iv wr => ∃ (k : Nat) (out : List Fr), iv = .int .i64 k ∧ k ≤ C.length ∧ OutRow w1.heap.size wr ov out ∧ Below w1.heap.size w1 wr ∧ cellsGo (decide (1 < C.length)) out (C.drop k) = X ∧ out.length + sumLen (C.drop k) ≤ L.length + 1)
    (fun _ iv _ => C.length - (intOf iv).toNat)
  case atStart => exact ⟨0, [], rfl, Nat.zero_le _, OutRow.nil, Below.refl _ _, HX.out, by simp [hCs]⟩
  case round =>
    obtain ⟨wo, hwo⟩ : ∃ wo, wo = wr := ⟨_, rfl⟩
    subst hwo
    obtain ⟨k, out, rfl, hk, hout, hbel, hgo, hol⟩ := hrel
    have HGO := hid hgo
    have HOUT := hid hout
    clear hgo hout
    by_cases hkl : k < C.length
    · obtain ⟨c, hx⟩ : ∃ c, C[k]? = some c := ⟨_, List.getElem?_eq_getElem hkl⟩
      obtain ⟨b, off, cap', r, hsh, hcap, _, hbw, hnr, hcell⟩ := HROWS.out.at k c hx
      simp only [Value.slice.injEq, true_and] at hsh
      obtain ⟨rfl, rfl⟩ := hsh
      have d0 : wo.cell? ⟨b, off + k, none⟩ = some r := (hbel.cell (p := ⟨b, off + k, none⟩) hbw).trans hcell
      obtain ⟨hcl, hcr⟩ := HCM.out c (List.mem_of_getElem? hx)
      have hdrop := drop_at C k c hx
      have hgo := HGO.out
      rw [hdrop, cellsGo] at hgo
      rw [hdrop] at hol
      have hol2 : out.length + (c.length + 1) + sumLen (C.drop (k + 1)) ≤ L.length + 1 := by
        simp only [sumLen, List.map_cons, List.sum_cons] at hol ⊢
        omega
      have f1 : (k : Int) < (C.length : Int) := by omega
      have q1 := words_any w.heap.size w1.heap.size r c wo (hnr.below hbel (Nat.le_refl _)) hbel.size (by omega)
      obtain ⟨adr, cr, hrs⟩ : ∃ ad cp, r = .slice ad c.length cp := by obtain ⟨ad, cp, hv, _⟩ := hnr.open; exact ⟨ad, cp, hv⟩
      subst hrs
      have hwl := wordsL_len c
      have hwm : ∀ x, x ∈ wordsL c → x.length ≤ 400000000 ∧ ∀ r, r ∈ x → r < 2097152 := fun x hx => by
        obtain ⟨h1, h2⟩ := wordsL_mem c x hx
        exact ⟨by omega, fun r hr => hcr r (h1 r hr)⟩
      obtain ⟨D, hD⟩ : ∃ D, wordsL c = D := ⟨_, rfl⟩
      rw [hD] at q1 hgo hwl hwm
      have Q1 := hid q1
      have HGO1 := hid hgo
      have HWM := hid hwm
      have HBEL := hid hbel
      have HCR := hid hcr
      obtain ⟨ado, co, hos⟩ := HOUT.out.shape
      subst hos
      clear hcell hnr hdrop hgo q1 hwm hD hx hcr hol HGO hbel
      by_cases hA : D.length = 0 ∧ 1 < C.length
      · obtain ⟨hd0, hm⟩ := hA
        obtain rfl : D = [] := List.eq_nil_of_length_eq_zero hd0
        have f2 : (1 : Int) < (C.length : Int) := by omega
        have hgo := HGO1.out
        rw [if_pos ⟨rfl, by simpa using hm⟩] at hgo
        have HG := hid hgo
        clear hgo HGO1 hd0 hm
        go_wp2_with (go_at_call 71; refine Q1.out.mono ?_; rintro e w2 ⟨hb2, r2, rfl, hws⟩; obtain ⟨ad2, cap2, rfl⟩ := hws.shape)
        go_ret3
        rw [← HG.out]
        exact ⟨hb1.trans ((HBEL.out.trans (hb2.mono HBEL.out.size)).mono hb1.size), _, rfl, OutRow.nil⟩
      · have hgo := HGO1.out
        rw [if_neg (by rintro ⟨e, hm⟩; exact hA ⟨by rw [e]; rfl, by simpa using hm⟩)] at hgo
        have HG := hid hgo
        have hz : ((((D.length : Nat) : Int) == 0) = true ∧ ¬ (1 : Int) < (C.length : Int)) ∨ (((D.length : Nat) : Int) == 0) = false := by
          by_cases h0 : D.length = 0
          · exact .inl ⟨beq_iff_eq.2 (by omega), by omega⟩
          · exact .inr (beq_eq_false_iff_ne.2 (by omega))
        clear hgo HGO1 hA
        rcases hz with ⟨hz, f2⟩ | hz
        all_goals
          go_wp2_with (go_at_call 71; refine Q1.out.mono ?_; clear Q1; rintro e w2 ⟨hb2, r2, rfl, hws⟩; obtain ⟨ad2, cap2, rfl⟩ := hws.shape)
          have HWS := hid hws
          have hbo := HBEL.out.trans (hb2.mono HBEL.out.size)
          have hou := HOUT.out.later hb2
          have HBO := hid hbo
          have HOU := hid hou
          clear hws hb2 hbo hou hz HOUT HBEL d0
          obtain ⟨Y, hY⟩ : ∃ Y, fracsGo out D = Y := ⟨_, rfl⟩
          rw [hY] at HG
          have HY := hid hY
          clear hY
          go_loopw [6, 37] (fun ov iv wr => ∃ (j : Nat) (out2 : List Fr), iv = .int .i64 j ∧ j ≤ D.length ∧ OutRow w1.heap.size wr ov out2 ∧ (Below w1.heap.size w1 wr ∧ OwnRows wo.heap.size wr (.slice ad2 D.length cap2) D) ∧ fracsGo out2 (D.drop j) = Y ∧ out2.length ≤ out.length + j) (fun _ iv _ => D.length - (intOf iv).toNat)
          case atStart => exact ⟨0, out, rfl, Nat.zero_le _, HOU.out, ⟨HBO.out, HWS.out⟩, HY.out, Nat.le_refl _⟩
          case round =>
            obtain ⟨j, out2, rfl, hj, hou2, ⟨hbl1, hws2⟩, hg2, hol3⟩ := hrel
            have hB0 : 0 < w1.heap.size := by omega
            have HWS2 := hid hws2
            clear hws2
            have HG2 := hid hg2
            have HOUT2 := hid hou2
            clear hg2 hou2
            by_cases hjl : j < D.length
            · obtain ⟨x, hx⟩ : ∃ x, D[j]? = some x := ⟨_, List.getElem?_eq_getElem hjl⟩
              obtain ⟨b2, off2, cp2, r, hsh2, _, _, hbw2, hnr, d1⟩ := HWS2.out.rows.at j x hx
              simp only [Value.slice.injEq, true_and] at hsh2
              obtain ⟨rfl, rfl⟩ := hsh2
              obtain ⟨hxl, hxr⟩ := HWM.out x (List.mem_of_getElem? hx)
              have hdrop := drop_at D j x hx
              have hg3 := HG2.out
              rw [hdrop, fracsGo] at hg3
              obtain ⟨⟨ng, N, M, ce⟩, hy⟩ : ∃ y, fracR x = y := ⟨_, rfl⟩
              have q2 := frac02B _ _ r x wr hnr (Nat.le_refl _) (by omega) hxr ng N M ce hy
              rw [hy] at hg3
              have Q2 := hid q2
              have HG3 := hid hg3
              have HBL1 := hid hbl1
              obtain ⟨adr2, cr2, hrs2⟩ : ∃ ad cp, r = .slice ad x.length cp := by obtain ⟨ad, cp, hv, _⟩ := hnr.open; exact ⟨ad, cp, hv⟩
              subst hrs2
              have f3 : (j : Int) < (D.length : Int) := by omega
              obtain ⟨ad5, cap5, hos5⟩ := HOUT2.out.shape
              subst hos5
              have hs1 := hbl1.size
              clear hnr hx hdrop hg3 hy q2 hxr hbl1
              go_wp2_with fail
              refine Q2.out.mono ?_
              clear Q2
              rintro e w3 ⟨hb3, ad4, cap4, ae4, cbp4, rfl, hq, hp⟩
              have hC := HBL1.out.trans (hb3.mono hs1)
              have hw3 := HWS2.out.later hb3
              have hout2 := HOUT2.out.later hb3
              obtain ⟨hal2, bf2, hsz2⟩ := boxA w3 #[.bool ng, .slice ad4 (toL N).length cap4, .bool false, .slice ae4 (toL M).length cbp4] 42
              have hD := hC.alloc hC.size (.cells #[.bool ng, .slice ad4 (toL N).length cap4, .bool false, .slice ae4 (toL M).length cbp4] 42)
              have hw4 := hw3.later hal2
              have hq2 := (hq.below hal2 (Nat.le_refl _)).wide (lo' := w1.heap.size) (hi' := (w3.alloc (.cells #[.bool ng, .slice ad4 (toL N).length cap4, .bool false, .slice ae4 (toL M).length cbp4] 42)).heap.size) hs1 (by rw [hsz2]; omega)
              have hp2 := (hp.below hal2 (Nat.le_refl _)).wide (lo' := w1.heap.size) (hi' := (w3.alloc (.cells #[.bool ng, .slice ad4 (toL N).length cap4, .bool false, .slice ae4 (toL M).length cbp4] 42)).heap.size) hs1 (by rw [hsz2]; omega)
              obtain ⟨cs, hown, hcl4, hc4, hR⟩ := hout2.later hal2
              obtain ⟨W3, hW3⟩ : ∃ W, w3.alloc (.cells #[.bool ng, .slice ad4 (toL N).length cap4, .bool false, .slice ae4 (toL M).length cbp4] 42) = W := ⟨_, rfl⟩
              rw [hW3] at hD hw4 hq2 hp2 bf2 hown hR
              obtain ⟨⟨m0, m1, m2, m3⟩, n0, n1, n2, n3⟩ := bf2.four
              clear hq hp bf2 HOUT2 hout2 hb3 hC hw3 hal2 hsz2 HWS2
              by_cases hce : ce = 0
              · subst hce
                have hg5 := HG3.out
                rw [if_neg (by simp)] at hg5
                have HG5 := hid hg5
                have HOWN := hid hown
                have HQ := hid hq2
                have HP := hid hp2
                have HR := hid hR
                have HCL4 := hid hcl4
                have HC4 := hid hc4
                have HW4 := hid hw4
                clear HG3 hg5 hown hq2 hp2 hR hcl4 hc4 hw4
                go_wp2_with (at_builtin; refine wpl_append1 elemRat rfl _ _ rfl w1.heap.size out2.length 1 1 _ cs.flatten #[.bool ng, .slice ad4 (toL N).length cap4, .bool false, .slice ae4 (toL M).length cbp4] HOWN.out rfl rfl rfl (by simp [Value.oneCell']) (by omega) (by decide) (by unfold maxLen; omega) hD hD.size ?_)
                intro g6 c6 w6 ho6 hb6 hg6
                have hsn := OutRow.snoc (x := fracL (ng, N, M, 0)) hB0 HOWN.out HCL4.out HC4.out HR.out HQ.out HP.out ho6 hg6
                have hw6 := (HW4.out.later ((Below.refl _ _).alloc (Nat.le_refl _) (.cells #[.bool ng, .slice ad4 (toL N).length cap4, .bool false, .slice ae4 (toL M).length cbp4] 42))).grown hg6 (fun g e => by
                  obtain ⟨c9, e9⟩ := own_ty (HOWN.out.alloc _) g e
                  exact ⟨c9, _, _, e9, by decide, by decide⟩)
                have HSN := hid hsn
                have HW6 := hid hw6
                have HB6 := hid hb6
                clear hsn hw6 hb6 ho6 hg6 m0 m1 m2 m3 n0 n1 n2 n3
                go_wp2
                go_roundw
                case rel => exact ⟨j + 1, _, by go_num, by omega, HSN.out, ⟨HB6.out, HW6.out⟩, HG5.out, by simp; omega⟩
                case measure => simp [intOf]; omega
              · have hg5 := HG3.out
                rw [if_pos hce] at hg5
                have hne : (((ce : Nat) : Int) != 0) = true := by simp; omega
                have hgo := HG.out
                rw [← hg5, if_pos hce] at hgo
                have HGO := hid hgo
                have HD := hid hD
                clear HG HG3 hg5 hD hw4 hown hR hq2 hp2 hgo hcl4 hc4
                go_wp2
                go_ret3
                rw [← HGO.out]
                exact ⟨hb1.trans (HD.out.mono hb1.size), _, rfl, OutRow.nil⟩
            · obtain rfl : j = D.length := by omega
              have hg3 := HG2.out
              rw [List.drop_length, fracsGo] at hg3
              have hg4 := HG.out
              rw [← hg3] at hg4
              simp only [ne_eq, not_true_eq_false, if_false] at hg4
              have HG4 := hid hg4
              have HBL1 := hid hbl1
              obtain ⟨ad5, cap5, hos5⟩ := HOUT2.out.shape
              subst hos5
              clear hg3 hg4 HG hbl1
              go_wp2
              go_roundw
              case rel => exact ⟨k + 1, out2, by go_num, by omega, HOUT2.out, HBL1.out, HG4.out, by omega⟩
              case measure => simp [intOf]; omega
    · obtain rfl : k = C.length := by omega
      have hgo := HGO.out
      rw [List.drop_length, cellsGo] at hgo
      obtain ⟨ado, co, rfl⟩ := HOUT.out.shape
      have HG := hid hgo
      clear hgo
      go_wp2
      go_ret3
      rw [← HG.out]
      exact ⟨hb1.trans (hbel.mono hb1.size), _, rfl, OutRow.base1 HOUT.out hb1.size⟩

set_option maxHeartbeats 1600000 in
/-- simileref02.Row -/
theorem rowText02_any (s : ByteArray) (w : World) (hs : s.size ≤ 400000000) :
    Calls Tryd.prog 16 #[.string s] w fun e w' => Below w.heap.size w w' ∧ RowOwn w w' e (rowR (runesOf s)) := by
  have hrl := runesAt_len s 0
  have hrs : (runesOf s).length ≤ 400000000 := by unfold runesOf; omega
  have hrb : ∀ r, r ∈ runesOf s → r < 2097152 := runesAt_lt s 0
  have Q1 := hid (runes02_any s w (by omega))
  go_enter Tryd.func16, Tryd.ntmps16
  go_wp2_with fail
  refine Q1.out.mono ?_
  rintro e w1 ⟨r, rfl, hn, hb1⟩
  have Q2 := hid (row02_any _ _ r _ w1 hn (Nat.le_refl _) hrs hrb)
  clear Q1 hn hrb
  go_wp2_with fail
  refine Q2.out.mono ?_
  rintro e w2 ⟨hb2, r2, rfl, hx⟩
  have HX := hid hx
  obtain ⟨ad, cap, hsh⟩ := hx.shape
  clear Q2 hx
  subst hsh
  go_wp2
  go_ret3
  exact ⟨hb1.trans (hb2.mono hb1.size), _, rfl, OutRow.base1 HX.out hb1.size⟩
end Go.Proofs.YtjjidmgeladicaaDoor

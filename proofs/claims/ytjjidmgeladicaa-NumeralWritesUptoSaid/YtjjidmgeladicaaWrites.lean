/- The law similelaw02.NumeralWrites, where its argument is of bulk at most 1048576, returns true and leaves all as it was. -/
import Derived.Test.YtjjidmgeladicaaWrites1
import Derived.Test.YtjjidmgeladicaaLaw2
namespace Go.Proofs.Ytjjidmgeladicaa
open Go.ChangeShapes Go.WideShapes Go.ChangeAt Go.RowKit
attribute [local go_sem ↓] Go.wp_at_zero Go.wp_at_succ

set_option maxRecDepth 100000 in
set_option maxHeartbeats 6400000 in
theorem writes_walk (neg : Bool) (v mv : Value) (xs0 : List Nat) (m : List (List (Bool × List Nat × Bool × List Nat))) (w : World) (h : Limbs 0 w.heap.size w v xs0) (hl : xs0.length ≤ 1099511627776) (hm : FracRows 0 w.heap.size w mv m) (hbk : bulkM m ≤ 1073741824) :
    Calls Try.prog 7 #[.agg #[.bool neg, v], mv] w fun e w' => e = .returned (.bool true) ∧ Below w.heap.size w w' := by
  obtain ⟨ad, cap, rfl⟩ := RowOf.shape hm
  obtain ⟨hb0, b0, hsz⟩ := boxA w #[.bool neg, v] 29
  have QA := hid fun w => awake_any w
  have QN := hid fun n w => num_any n w
  have hlen := bulkM_len m
  have h1 := h.below hb0 (Nat.le_refl _)
  have hm1 := hm.below hb0 (Nat.le_refl _)
  have hH1 : w.heap.size ≤ w.heap.size + 1 := Nat.le_succ _
  clear h hm
  go_enter Try.func7, Try.ntmps7
  go_wp2
  obtain ⟨W0, hW0⟩ : ∃ W, w.alloc (.cells #[.bool neg, v] 29) = W := ⟨_, rfl⟩
  rw [hW0] at hb0 b0 hsz h1 hm1 ⊢
  clear hW0
  have HX := hid h1
  have HM := hid hm1
  have B0 := hid b0
  have hw0 : 0 < W0.heap.size := by omega
  have hhi : w.heap.size ≤ W0.heap.size := by omega
  have HSZ := hid hsz
  have HB0 := hid hb0
  clear h1 hm1 b0 hsz hb0 hH1
  go_loopg [5, 25] m.length (fun gk gv t wr => ∃ (k : Nat) (rows : List (List (Bool × List Nat × Bool × List Nat))), gk = m.length - k ∧ t = .int .i64 k ∧ k ≤ m.length ∧ rows = m.take k ∧ OutRows W0.heap.size wr gv rows ∧ Below W0.heap.size W0 wr)
  case atStart => exact ⟨0, [], rfl, rfl, Nat.zero_le _, rfl, OutRows.nil, Below.refl _ _⟩
  case round =>
    obtain ⟨k, rows, hgk, rfl, hk, hrows, hout, hbel⟩ := hrel
    have hol : rows.length = k := by rw [hrows, List.length_take]; omega
    have HR := hid hrows
    have HOL := hid hol
    have hol2 : rows.length ≤ m.length := by omega
    have HGK := hid hgk
    have HOUT := hid hout
    clear hrows hol hgk hout
    by_cases hkl : k < m.length
    · obtain ⟨l, hx⟩ : ∃ x, m[k]? = some x := ⟨_, List.getElem?_eq_getElem hkl⟩
      obtain ⟨b, off, cp, r, hsh, hc, _, hbh, hr, c00⟩ := HM.out.at k _ hx
      simp only [Value.slice.injEq, true_and] at hsh
      obtain ⟨rfl, rfl⟩ := hsh
      have c0 := (hbel.cell (p := ⟨b, off + k, none⟩) (by show b < _; omega)).trans c00
      have hbm := bulkM_mem m _ (List.mem_of_getElem? hx)
      have hsz := hbel.size
      obtain ⟨ad3, cap3, rfl⟩ := RowOf.shape hr
      have hll := bulkF_len l
      have f1 : (k : Int) < (m.length : Int) := by omega
      have htake : m.take (k + 1) = rows ++ [l] := by
        rw [HR.out, List.take_add_one, hx]; rfl
      have HT := hid htake
      have Q1 := hid (copyAll_any _ _ _ l wr (hr.below hbel hhi) (by omega) (by omega) (fun x hx => by have := bulkF_mem l x hx; omega) (by omega))
      have HROW := hid fun (w9 : World) (hb9 : Below W0.heap.size W0 w9) => hr.below hb9 hhi
      have HLF := hid fun x hx => bulkF_mem l x hx
      clear hx hr htake c00
      go_wp2_with fail
      refine Q1.out.mono ?_
      rintro e w2 ⟨hb2, r2, rfl, hr2⟩
      have hB2 := hbel.trans (hb2.mono hsz)
      have hr2b := hr2.base hsz
      obtain ⟨ad5, cap5, rfl⟩ := hr2.shape
      obtain ⟨ad6, cap6, rfl⟩ := HOUT.out.shape
      obtain ⟨rs, o1, o2, o3, o4⟩ := HOUT.out.later hb2
      have O1 := hid o1
      have O4 := hid o4
      have hR2 := hid hr2b
      clear Q1 c0 hr2 hr2b o1 o4 hb2
      go_wp2_with (at_builtin; go_loud (refine wpl_append1 elemRow rfl _ _ rfl W0.heap.size rows.length 1 1 _ rs #[.slice ad5 l.length cap5] O1.out rfl rfl rfl (by simp [Value.oneCell']) (by omega) (by decide) (by unfold maxLen; omega) hB2 hB2.size ?_))
      intro g6 c6 w6 ho6 hb6 hg6
      obtain ⟨hs1, hs2⟩ := OutRows.snoc hw0 O1.out o2 o3 O4.out hR2.out ho6 hg6
      have HS1 := hid hs1
      have HS2 := hid hs2
      have Q2 := hid (printRow_one _ _ _ l w6 hs2.fracs (Nat.le_refl _) (by omega))
      clear ho6 hg6 hs1 hs2 HOUT O1 O4 hR2 o2 o3 hB2
      go_wp2_with fail
      refine Q2.out.mono ?_
      rintro e w7 ⟨rfl, hb7⟩
      have hB7 := hb6.trans (hb7.mono hb6.size)
      have Q3 := hid (printRow02_one _ _ _ l w7 (HROW.out w7 hB7) (by have := hB7.size; omega) (by omega))
      clear Q2
      go_wp2_with fail
      refine Q3.out.mono ?_
      rintro e w8 ⟨rfl, hb8⟩
      have hB8 := hB7.trans (hb8.mono hB7.size)
      have HS1' := hid ((HS1.out.later hb7).later hb8)
      have HS2' := hid ((HS2.out.later hb7).later hb8)
      obtain ⟨S, hS⟩ : ∃ S, rowT l = S := ⟨_, rfl⟩
      obtain ⟨ok, hok⟩ : ∃ ok, okL l = ok := ⟨_, rfl⟩
      rw [hS, hok]
      clear Q3 hb6 hb7 hB7 hb8 HS1 HS2 hS hok
      cases ok <;> simp only [codeE, if_true, Bool.false_eq_true, if_false]
      all_goals
        go_wp2_with fail
        refine (QN.out _ _).mono ?_
        rintro e w' ⟨rfl, rfl⟩
      any_goals (go_wp2_with fail; (with_reducible refine (QN.out _ _).mono ?_); rintro e w' ⟨rfl, rfl⟩)
      all_goals
        go_wp2
        obtain ⟨wo, hwo⟩ : ∃ wo : World, wo = wr := ⟨_, rfl⟩
        subst hwo
        have hsz8 := hB8.size
        go_loopg [66] l.length (fun gk t wr => ∃ j : Nat, gk = l.length - j ∧ t = .int .i64 j ∧ j ≤ l.length ∧ Below w8.heap.size w8 wr)
        case atStart => exact ⟨0, rfl, rfl, Nat.zero_le _, Below.refl _ _⟩
        case round =>
          obtain ⟨j, hgj, rfl, hj, hbi⟩ := hrel
          have HGJ := hid hgj
          clear hgj
          by_cases hjl : j < l.length
          · obtain ⟨⟨n1, xs, n2, ys⟩, hx⟩ : ∃ x, l[j]? = some x := ⟨_, List.getElem?_eq_getElem hjl⟩
            have hBi := hB8.trans (hbi.mono hsz8)
            obtain ⟨b1, off1, cp1, q1, p1, hsh1, hc1, _, hbh1, hq1, hp1, a0, a1, a2, a3⟩ := (HROW.out wr hBi).at j _ hx
            simp only [Value.slice.injEq, true_and] at hsh1
            obtain ⟨rfl, rfl⟩ := hsh1
            obtain ⟨b2, off2, cp2, q2, p2, hsh2, hc2, _, hbh2, hq2, hp2, g0, g1, g2, g3⟩ := (HS2'.out.fracs.below hbi (Nat.le_refl _)).at j _ hx
            simp only [Value.slice.injEq, true_and] at hsh2
            obtain ⟨rfl, rfl⟩ := hsh2
            have hlf := HLF.out _ (List.mem_of_getElem? hx)
            dsimp only at hq1 hp1 hq2 hp2 a0 a1 a2 a3 g0 g1 g2 g3 hlf
            obtain ⟨ad7, cap7, rfl⟩ := hq1.shape
            obtain ⟨ad8, cap8, rfl⟩ := hp1.shape
            obtain ⟨ad9, cap9, rfl⟩ := hq2.shape
            obtain ⟨ad10, cap10, rfl⟩ := hp2.shape
            have hszi := hbi.size
            obtain ⟨hal, bp, hszb⟩ := boxA wr #[.bool n1, .slice ad7 xs.length cap7, .bool n2, .slice ad8 ys.length cap8] 35
            have f2 : (j : Int) < (l.length : Int) := by omega
            have hq1' := hq1.below hal (by omega)
            have hp1' := hp1.below hal (by omega)
            have hq2' := hq2.below hal (by omega)
            have hp2' := hp2.below hal (by omega)
            have hbd : b2 < wr.heap.size := by omega
            have g0' := (hal.cell (p := ⟨b2, off2 + j * 4, none⟩) hbd).trans g0
            have g1' := (hal.cell (p := ⟨b2, off2 + j * 4 + 1, none⟩) hbd).trans g1
            have g2' := (hal.cell (p := ⟨b2, off2 + j * 4 + 2, none⟩) hbd).trans g2
            have g3' := (hal.cell (p := ⟨b2, off2 + j * 4 + 3, none⟩) hbd).trans g3
            have Q4 := hid (printFrac_one _ _ _ _ n1 n2 _ _ xs ys _ hq2' (by omega) (by omega) hp2' (by omega) (by omega))
            have Q5 := hid fun (w9 : World) (hb9 : Below (wr.heap.size + 1) (wr.alloc (.cells #[.bool n1, .slice ad7 xs.length cap7, .bool n2, .slice ad8 ys.length cap8] 35)) w9) => printFrac02_one _ _ _ _ n1 n2 _ _ xs ys w9 (hq1'.below hb9 (by omega)) (by have := hb9.size; omega) (by omega) (hp1'.below hb9 (by omega)) (by have := hb9.size; omega) (by omega)
            have BP := hid fun (w9 : World) (hb9 : Below (wr.heap.size + 1) (wr.alloc (.cells #[.bool n1, .slice ad7 xs.length cap7, .bool n2, .slice ad8 ys.length cap8] 35)) w9) => (bp.below hb9 (Nat.lt_succ_self _)).four
            have HAL := hid hal
            have HSB := hid hszb
            clear hq1 hp1 hq2 hp2 hq1' hp1' hq2' hp2' hal bp g0 g1 g2 g3 hx hszb
            go_wp2_with fail
            refine Q4.out.mono ?_
            rintro e w9 ⟨rfl, hb9⟩
            rw [HSB.out] at hb9
            obtain ⟨⟨m0, m1, m2, m3⟩, _⟩ := BP.out w9 hb9
            have Q5' := hid (Q5.out w9 hb9)
            have hb9' := hbi.trans ((HAL.out.mono (Nat.le_refl _)).trans (hb9.mono (Nat.le_succ _)) |>.mono hszi)
            clear Q4 Q5 BP hb9 a0 a1 a2 a3 g0' g1' g2' g3'
            go_wp2_with fail
            refine Q5'.out.mono ?_
            rintro e w10 ⟨rfl, hb10⟩
            have hb10' := hb9'.trans (hb10.mono hb9'.size)
            obtain ⟨S2, hS2⟩ : ∃ S, fracT (n1, xs, n2, ys) = S := ⟨_, rfl⟩
            obtain ⟨ok2, hok2⟩ : ∃ ok, okX (n1, xs, n2, ys) = ok := ⟨_, rfl⟩
            rw [hS2, hok2]
            clear Q5' hb9' hb10 m0 m1 m2 m3 hS2 hok2
            cases ok2 <;> simp only [codeE, if_true, Bool.false_eq_true, if_false]
            all_goals
              go_wp2_with fail
              refine (QN.out _ _).mono ?_
              rintro e w' ⟨rfl, rfl⟩
            any_goals (go_wp2_with fail; (with_reducible refine (QN.out _ _).mono ?_); rintro e w' ⟨rfl, rfl⟩)
            all_goals
              go_wp2
              go_roundg (l.length - (j + 1))
              case measure => have := HGJ.out; omega
              case rel => exact ⟨j + 1, rfl, by go_num, by omega, hb10'⟩
          · obtain rfl : j = l.length := by omega
            have hs1 := HS1'.out.later hbi
            have HS := hid hs1
            have hBi := hB8.trans (hbi.mono hsz8)
            clear hs1
            go_wp2
            go_roundg (m.length - (k + 1))
            case measure => have := HGK.out; omega
            case rel => exact ⟨k + 1, _, rfl, by go_num, by omega, HT.out.symm, HS.out, hBi⟩
    · obtain rfl : k = m.length := by omega
      have hr := HR.out
      rw [List.take_length] at hr
      have hro := HOUT.out.rows
      rw [hr] at hro
      obtain ⟨ad6, cap6, rfl⟩ := HOUT.out.shape
      have Q6 := hid (printMatrix_one _ _ _ m wr hro (Nat.le_refl _) hbk)
      have hrl : rows.length = m.length := by rw [hr]
      have HRL := hid hrl
      have Q7 := hid fun (w9 : World) (hb9 : Below W0.heap.size W0 w9) => printMatrix02_one _ _ _ m w9 (HM.out.below hb9 hhi) (by have := hb9.size; omega) hbk
      have Q8 := hid fun (w9 : World) (hb9 : Below W0.heap.size W0 w9) => printInt_any _ _ neg _ _ w9 (HX.out.below hb9 hhi) (by have := hb9.size; omega) hl
      have Q9 := hid fun (w9 : World) (hb9 : Below W0.heap.size W0 w9) => based02_any _ _ neg _ _ 10 w9 (HX.out.below hb9 hhi) (by have := hb9.size; omega) hl (by decide) (by decide)
      have BX := hid fun (w9 : World) (hb9 : Below W0.heap.size W0 w9) => (B0.out.below hb9 (by have := HSZ.out; omega)).two
      have HRT := hid fun (w9 : World) (hb9 : Below W0.heap.size W0 w9) => HB0.out.trans (hb9.mono hhi)
      clear hr hro hrl HR HM HX B0 HSZ HB0
      go_wp2_with fail
      refine Q6.out.mono ?_
      rintro e w2 ⟨rfl, hb2⟩
      have hB2 := hbel.trans (hb2.mono hbel.size)
      have Q7' := hid (Q7.out w2 hB2)
      clear Q6 Q7 hb2
      go_wp2_with fail
      refine Q7'.out.mono ?_
      rintro e w3 ⟨rfl, hb3⟩
      have hB3 := hB2.trans (hb3.mono hB2.size)
      obtain ⟨S, hS⟩ : ∃ S, matT m = S := ⟨_, rfl⟩
      obtain ⟨ok, hok⟩ : ∃ ok, okM m = ok := ⟨_, rfl⟩
      obtain ⟨S2, hS2⟩ : ∃ S, strOf (intS 10 neg (natOf xs0)) = S := ⟨_, rfl⟩
      rw [hS2] at Q8 Q9
      rw [hS, hok]
      obtain ⟨m0, m1, _⟩ := BX.out w3 hB3
      clear Q7' hb3 hB2 hS hok hS2 hbel
      cases ok <;> simp only [codeE, if_true, Bool.false_eq_true, if_false]
      · go_wp2
        first
          | (go_region_held3 (fun w' => w'.cell? ⟨w.heap.size, 0, none⟩ = some (.bool neg) ∧ w'.cell? ⟨w.heap.size, 1, none⟩ = some v)
              (go_keep)
              ((first
                | (go_at_call 8; refine (QN.out _ _).mono ?_; rintro e w' ⟨rfl, rfl⟩)
                | (go_at_call 34; refine (Q8.out _ hB3.drew).mono ?_; rintro e w4 ⟨rfl, hb4⟩; have hB4 := hB3.drew.trans (hb4.mono hB3.size); obtain ⟨m2, m3, _⟩ := BX.out w4 hB4)
                | (go_at_call 24; refine (Q9.out _ hB4).mono ?_; rintro e w5 ⟨rfl, hb5⟩; have hB5 := hB4.trans (hb5.mono hB4.size); obtain ⟨m4, m5, _⟩ := BX.out w5 hB5)
                | (go_at_call 9; refine (QA.out _).mono ?_; rintro e w6 ⟨rfl, hb6⟩; have hB6 := hB5.trans (hb6.mono hB5.size); obtain ⟨m6, m7, _⟩ := BX.out w6 hB6))))
          | fail
        all_goals
          go_wp2
          go_ret
          exact ⟨rfl, HRT.out _ hB6⟩
      · go_wp2
        first
          | (go_region_with (first
                | (go_at_call 8; refine (QN.out _ _).mono ?_; rintro e w' ⟨rfl, rfl⟩)
                | (go_at_call 34; refine (Q8.out _ hB3.drew).mono ?_; rintro e w4 ⟨rfl, hb4⟩; have hB4 := hB3.drew.trans (hb4.mono hB3.size); obtain ⟨m2, m3, _⟩ := BX.out w4 hB4)
                | (go_at_call 24; refine (Q9.out _ hB4).mono ?_; rintro e w5 ⟨rfl, hb5⟩; have hB5 := hB4.trans (hb5.mono hB4.size); obtain ⟨m4, m5, _⟩ := BX.out w5 hB5)
                | (go_at_call 9; refine (QA.out _).mono ?_; rintro e w6 ⟨rfl, hb6⟩; have hB6 := hB5.trans (hb6.mono hB5.size); obtain ⟨m6, m7, _⟩ := BX.out w6 hB6)))
          | fail
        all_goals
          go_wp2
          go_ret
          exact ⟨rfl, HRT.out _ hB6⟩
end Go.Proofs.Ytjjidmgeladicaa

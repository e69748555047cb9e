/- The law similelaw02.NumeralReads returns true and leaves all us it was. -/
import Derived.Test.YtjjidmgeladicaaBases
import Derived.HandedShaped
import Derived.Test.YtjjidmgeladicaaRowN
namespace Go.Proofs.Ytjjidmgeladicaa
open Go.ChangeShapes Go.WideShapes Go.ChangeAt Go.RowKit

theorem readsInt (s : ByteArray) (w : World) (hs : s.size ≤ 65536) (ng : Bool) (N cd : Nat) (hx : parseB 10 (runesOf s) = (ng, N, cd)) :
    Calls Try.prog 11 #[.string s] w fun e w' => Below w.heap.size w w' ∧ ∃ ad cap, e = .returned (.tuple #[.agg #[.bool ng, .slice ad (toL N).length cap], .int .i64 (cd : Nat)]) ∧ Limbs w.heap.size w'.heap.size w' (.slice ad (toL N).length cap) (toL N) := by
  refine (int_any s w (by omega)).mono ?_
  rintro e w' ⟨hb, h⟩
  rw [int_says, hx] at h
  obtain ⟨q, rfl, hq⟩ := h
  obtain ⟨ad, cap, rfl⟩ := hq.shape
  exact ⟨hb, _, _, rfl, hq⟩

theorem readsIntB (s : ByteArray) (w : World) (hs : s.size ≤ 1000000000) (ng : Bool) (N cd : Nat) (hx : parseB 10 (runesOf s) = (ng, N, cd)) :
    Calls Try.prog 11 #[.string s] w fun e w' => Below w.heap.size w w' ∧ ∃ ad cap, e = .returned (.tuple #[.agg #[.bool ng, .slice ad (toL N).length cap], .int .i64 (cd : Nat)]) ∧ Limbs w.heap.size w'.heap.size w' (.slice ad (toL N).length cap) (toL N) := by
  refine (int_any s w hs).mono ?_
  rintro e w' ⟨hb, h⟩
  rw [int_says, hx] at h
  obtain ⟨q, rfl, hq⟩ := h
  obtain ⟨ad, cap, rfl⟩ := hq.shape
  exact ⟨hb, _, _, rfl, hq⟩

theorem readsInt02 (s : ByteArray) (w : World) (hs : s.size ≤ 65536) (ng : Bool) (N cd : Nat) (hx : parseB 10 (runesOf s) = (ng, N, cd)) :
    Calls Try.prog 12 #[.string s] w fun e w' => Below w.heap.size w w' ∧ ∃ ad cap, e = .returned (.tuple #[.agg #[.bool ng, .slice ad (toL N).length cap], .int .i64 (cd : Nat)]) ∧ Limbs w.heap.size w'.heap.size w' (.slice ad (toL N).length cap) (toL N) := by
  refine (int02_any s w (by omega)).mono ?_
  rintro e w' ⟨hb, h⟩
  rw [hx] at h
  obtain ⟨q, rfl, hq⟩ := h
  obtain ⟨ad, cap, rfl⟩ := hq.shape
  exact ⟨hb, _, _, rfl, hq⟩

theorem readsFrac (s : ByteArray) (w : World) (hs : s.size ≤ 65536) (ng : Bool) (N M cd : Nat) (hx : fracR (runesOf s) = (ng, N, M, cd)) :
    Calls Try.prog 13 #[.string s] w fun e w' => Below w.heap.size w w' ∧ FracTold w w' e ng N M cd := by
  refine (frac_any s w (by omega)).mono ?_
  rintro e w' ⟨hb, h⟩
  rw [frac_says, hx] at h
  obtain ⟨q, p, rfl, hq, hp⟩ := h
  obtain ⟨ad, cap, rfl⟩ := hq.shape
  obtain ⟨ad2, cap2, rfl⟩ := hp.shape
  exact ⟨hb, _, _, _, _, rfl, hq, hp⟩

theorem readsFrac02 (s : ByteArray) (w : World) (hs : s.size ≤ 65536) (ng : Bool) (N M cd : Nat) (hx : fracR (runesOf s) = (ng, N, M, cd)) :
    Calls Try.prog 14 #[.string s] w fun e w' => Below w.heap.size w w' ∧ FracTold w w' e ng N M cd := by
  refine (fracText02_any s w (by omega)).mono ?_
  rintro e w' ⟨hb, h⟩
  rw [hx] at h
  obtain ⟨q, p, rfl, hq, hp⟩ := h
  obtain ⟨ad, cap, rfl⟩ := hq.shape
  obtain ⟨ad2, cap2, rfl⟩ := hp.shape
  exact ⟨hb, _, _, _, _, rfl, hq, hp⟩

theorem sameF_true (lo h1 lo2 h2 lo3 h3 lo4 h4 : Nat) (ng : Bool) (v p v2 p2 : Value) (xs ys : List Nat) (w : World) (hv : Limbs lo h1 w v xs) (h1w : h1 ≤ w.heap.size) (hp : Limbs lo2 h2 w p ys) (h2w : h2 ≤ w.heap.size)
    (hv2 : Limbs lo3 h3 w v2 xs) (h3w : h3 ≤ w.heap.size) (hp2 : Limbs lo4 h4 w p2 ys) (h4w : h4 ≤ w.heap.size) (hl : xs.length ≤ 4398046511104) (hl2 : ys.length ≤ 4398046511104) :
    Calls Try.prog 16 #[.agg #[.bool ng, v, .bool false, p], .agg #[.bool ng, v2, .bool false, p2]] w fun e w' => e = .returned (.bool true) ∧ Below w.heap.size w w' := by
  have := sameL_any 0 w.heap.size 0 w.heap.size (.agg #[.bool ng, v, .bool false, p]) (.agg #[.bool ng, v2, .bool false, p2]) (ng, xs, false, ys) (ng, xs, false, ys) w
    ⟨_, _, rfl, hv.wide (Nat.zero_le _) h1w, hp.wide (Nat.zero_le _) h2w⟩ (Nat.le_refl _) ⟨hl, hl2⟩ ⟨_, _, rfl, hv2.wide (Nat.zero_le _) h3w, hp2.wide (Nat.zero_le _) h4w⟩ (Nat.le_refl _)
  simpa using this

set_option maxRecDepth 100000 in
set_option maxHeartbeats 6400000 in
theorem reads_walk (s : ByteArray) (w : World) (hpos : 0 < w.heap.size) :
    Calls Try.prog 4 #[.string s] w fun e w' => e = .returned (.bool true) ∧ Below w.heap.size w w' := by
  have QA := hid fun w => awake_any w
  have QN := hid fun n w => num_any n w
  by_cases hs : 65536 < s.size
  · have Q0 := hid fun w => long_yes s w hs
    clear QN hpos
    go_enter Try.func4, Try.ntmps4
    go_wp2_with fail
    refine (Q0.out _).mono ?_
    rintro e w' ⟨rfl, rfl⟩
    go_wp2_with fail
    refine (QA.out _).mono ?_
    rintro e w1 ⟨rfl, hb1⟩
    go_wp2
    go_ret
    exact ⟨rfl, hb1⟩
  · have Q0 := hid fun w => long_no s w (by omega)
    have hs' : s.size ≤ 65536 := by omega
    have hrl := runesAt_len s 0
    have hl1 := parseB_len 10 (runesOf s) (by decide)
    have hl2 := fracR_len (runesOf s)
    have hrs : (runesOf s).length ≤ 65536 := by unfold runesOf; omega
    obtain ⟨⟨ng, N, cd⟩, hx⟩ : ∃ x, parseB 10 (runesOf s) = x := ⟨_, rfl⟩
    obtain ⟨⟨mg, A, B, ce⟩, hy⟩ : ∃ x, fracR (runesOf s) = x := ⟨_, rfl⟩
    rw [hx] at hl1
    rw [hy] at hl2
    dsimp only at hl1 hl2
    obtain ⟨hl2, hl3⟩ := hl2
    have Q1 := hid fun w => readsInt s w hs' ng N cd hx
    have Q2 := hid fun w => readsInt02 s w hs' ng N cd hx
    have Q3 := hid fun w => readsFrac s w hs' mg A B ce hy
    have Q4 := hid fun w => readsFrac02 s w hs' mg A B ce hy
    obtain ⟨PT, hPT⟩ : ∃ PT, txt ((runesOf s).map plainR) = PT := ⟨_, rfl⟩
    have Q5 := hid fun w => plain_any s w (by omega)
    have Q6 := hid fun w => plain02_any s w (by omega)
    rw [hPT] at Q5 Q6
    obtain ⟨xs, hxs⟩ : ∃ xs, toL N = xs := ⟨_, rfl⟩
    obtain ⟨us, has⟩ : ∃ us, toL A = us := ⟨_, rfl⟩
    obtain ⟨bs, hbs⟩ : ∃ bs, toL B = bs := ⟨_, rfl⟩
    rw [hxs] at hl1 Q1 Q2
    unfold FracTold at Q3 Q4
    rw [has, hbs] at Q3 Q4
    rw [has] at hl2
    rw [hbs] at hl3
    have HPOS := hid hpos
    have HS0 := hid hs'
    have HL1 := hid hl1
    have HL2 := hid hl2
    have HL3 := hid hl3
    have HRS := hid hrs
    clear hx hy hPT hxs has hbs hrl hrs hpos hs hs' hl1 hl2 hl3
    go_enter Try.func4, Try.ntmps4
    go_wp2_with fail
    refine (Q0.out _).mono ?_
    rintro e w' ⟨rfl, rfl⟩
    go_wp2_with fail
    refine (Q1.out _).mono ?_
    rintro e w1 ⟨a1, ad1, cap1, rfl, x1⟩
    obtain ⟨_, l1, b1, s1⟩ := boxed a1 a1.size #[.bool ng, .slice ad1 xs.length cap1] 29
    have X1 := hid (x1.below l1 (Nat.le_refl _))
    have D1 := hid (chain a1 l1)
    have B1 := hid b1
    have S1 := hid s1
    have T1 := hid a1.size
    clear a1 l1 b1 s1 x1
    go_wp2_with fail
    refine (Q1.out _).mono ?_
    rintro e w2 ⟨a1, ad2, cap2, rfl, x1⟩
    obtain ⟨_, l1, b1, s1⟩ := boxed a1 a1.size #[.bool ng, .slice ad2 xs.length cap2] 29
    have X2 := hid (x1.below l1 (Nat.le_refl _))
    have D2 := hid (chain a1 l1)
    have B2 := hid b1
    have S2 := hid s1
    have T2 := hid a1.size
    clear a1 l1 b1 s1 x1
    go_wp2_with fail
    refine (Q2.out _).mono ?_
    rintro e w3 ⟨a1, ad3, cap3, rfl, x1⟩
    obtain ⟨_, l1, b1, s1⟩ := boxed a1 a1.size #[.bool ng, .slice ad3 xs.length cap3] 29
    have X3 := hid (x1.below l1 (Nat.le_refl _))
    have D3 := hid (chain a1 l1)
    have B3 := hid b1
    have S3 := hid s1
    have T3 := hid a1.size
    clear a1 l1 b1 s1 x1
    go_wp2_with fail
    refine (Q3.out _).mono ?_
    rintro e w4 ⟨a1, ad4, cap4, ae4, cbp4, rfl, x1, y1⟩
    obtain ⟨_, l1, b1, s1⟩ := boxed a1 a1.size #[.bool mg, .slice ad4 us.length cap4, .bool false, .slice ae4 bs.length cbp4] 35
    have X4 := hid (x1.below l1 (Nat.le_refl _))
    have Y4 := hid (y1.below l1 (Nat.le_refl _))
    have D4 := hid (chain a1 l1)
    have B4 := hid b1
    have S4 := hid s1
    have T4 := hid a1.size
    clear a1 l1 b1 s1 x1 y1
    go_wp2_with fail
    refine (Q3.out _).mono ?_
    rintro e w5 ⟨a1, ad5, cap5, ae5, cbp5, rfl, x1, y1⟩
    obtain ⟨_, l1, b1, s1⟩ := boxed a1 a1.size #[.bool mg, .slice ad5 us.length cap5, .bool false, .slice ae5 bs.length cbp5] 35
    have X5 := hid (x1.below l1 (Nat.le_refl _))
    have Y5 := hid (y1.below l1 (Nat.le_refl _))
    have D5 := hid (chain a1 l1)
    have B5 := hid b1
    have S5 := hid s1
    have T5 := hid a1.size
    clear a1 l1 b1 s1 x1 y1
    go_wp2_with fail
    refine (Q4.out _).mono ?_
    rintro e w6 ⟨a1, ad6, cap6, ae6, cbp6, rfl, x1, y1⟩
    obtain ⟨_, l1, b1, s1⟩ := boxed a1 a1.size #[.bool mg, .slice ad6 us.length cap6, .bool false, .slice ae6 bs.length cbp6] 35
    have X6 := hid (x1.below l1 (Nat.le_refl _))
    have Y6 := hid (y1.below l1 (Nat.le_refl _))
    have D6 := hid (chain a1 l1)
    have B6 := hid b1
    have S6 := hid s1
    have T6 := hid a1.size
    clear a1 l1 b1 s1 x1 y1
    have E5 := D6.out
    have E4 := chain D5.out E5
    have E3 := chain D4.out E4
    have E2 := chain D3.out E3
    have E1 := chain D2.out E2
    have E0 := chain D1.out E1
    have U1 := E1.size
    have U2 := E2.size
    have U3 := E3.size
    have U4 := E4.size
    have U5 := E5.size
    rw [S1.out] at T2 U1 X2
    rw [S2.out] at T3 U2 X3
    rw [S3.out] at T4 U3 X4 Y4
    rw [S4.out] at T5 U4 X5 Y5
    rw [S5.out] at T6 U5 X6 Y6
    have T1 := T1.out
    have T2 := T2.out
    have T3 := T3.out
    have T4 := T4.out
    have T5 := T5.out
    have T6 := T6.out
    have S6' := S6.out
    have F1 := B1.out.later E1
    have F2 := B2.out.later E2
    have F3 := B3.out.later E3
    have F4 := B4.out.later E4
    have F5 := B5.out.later E5
    have F6 := B6.out
    have G1 := hid (X1.out.below E1 (by rw [S1.out]; omega))
    have G2 := hid (X2.out.below E2 (by rw [S2.out]; omega))
    have G3 := hid (X3.out.below E3 (by rw [S3.out]; omega))
    have G4 := hid (X4.out.below E4 (by rw [S4.out]; omega))
    have G5 := hid (X5.out.below E5 (by rw [S5.out]; omega))
    have G6 := hid X6.out
    have H4 := hid (Y4.out.below E4 (by rw [S4.out]; omega))
    have H5 := hid (Y5.out.below E5 (by rw [S5.out]; omega))
    have H6 := hid Y6.out
    clear X1 X2 X3 X4 X5 X6 Y4 Y5 Y6 B1 B2 B3 B4 B5 B6 D1 D2 D3 D4 D5 D6 E5 E4 E3 E2 E1 S1 S2 S3 S4 S5 S6
    obtain ⟨W6, hW6⟩ : ∃ W, w6.alloc (.cells #[.bool mg, .slice ad6 us.length cap6, .bool false, .slice ae6 bs.length cbp6] 35) = W := ⟨_, rfl⟩
    go_wp2_with fail
    rw [hW6] at E0 U1 U2 U3 U4 U5 F1 F2 F3 F4 F5 F6 G1 G2 G3 G4 G5 G6 H4 H5 H6 S6'
    clear hW6
    obtain ⟨c0, c1, f0, f1⟩ := F1.two
    obtain ⟨d0, d1, g0, g1⟩ := F3.two
    refine (QN.out _ _).mono ?_
    rintro e w' ⟨rfl, rfl⟩
    go_wp2_with fail
    refine (QN.out _ _).mono ?_
    rintro e w' ⟨rfl, rfl⟩
    have QS := hid (sameI_true _ _ _ _ ng _ _ xs W6 G1.out (by omega) (by have := HL1.out; omega) G3.out (by omega))
    go_wp2_with fail
    refine QS.out.mono ?_
    rintro e v1 ⟨rfl, hv1⟩
    have hv1s := hv1.size
    have QF := hid (sameF_true _ _ _ _ _ _ _ _ mg _ _ _ _ us bs v1 (G4.out.below hv1 (by omega)) (by omega) (H4.out.below hv1 (by omega)) (by omega) (G6.out.below hv1 (by omega)) (by omega) (H6.out.below hv1 (by omega)) (by omega)
      (by have := HL2.out; have := HRS.out; omega) (by have := HL3.out; have := HRS.out; omega))
    have F4v := F4.later hv1
    have F6v := F6.later hv1
    obtain ⟨⟨i0, i1, i2, i3⟩, j0, j1, j2, j3⟩ := F4v.four
    obtain ⟨⟨k0, k1, k2, k3⟩, m0, m1, m2, m3⟩ := F6v.four
    clear QS c0 c1 f0 f1 d0 d1 g0 g1
    go_wp2_with fail
    refine QF.out.mono ?_
    rintro e v2 ⟨rfl, hv2⟩
    have K2 := chain hv1 hv2
    clear QF i0 i1 i2 i3 j0 j1 j2 j3 k0 k1 k2 k3 m0 m1 m2 m3 F4v F6v hv1 hv2 hv1s
    go_wp2_with fail
    refine (Q5.out _).mono ?_
    rintro e v3 ⟨hv3, rfl⟩
    have K3 := chain K2 hv3
    clear K2 hv3
    go_wp2_with fail
    refine (Q6.out _).mono ?_
    rintro e V ⟨hv4, rfl⟩
    have K := chain K3 hv4
    have KS := K.size
    clear K3 hv4
    obtain ⟨c0, c1, f0, f1⟩ := (F1.later K).two
    obtain ⟨⟨i0, i1, i2, i3⟩, j0, j1, j2, j3⟩ := (F4.later K).four
    obtain ⟨_, L, bx, hVs⟩ := boxed K K.size #[.bool ng, .slice ad1 xs.length cap1, .bool mg, .slice ad4 us.length cap4, .bool false, .slice ae4 bs.length cbp4] 29
    obtain ⟨S, hS⟩ : ∃ S : Nat → Prop, S = fun b => (w.heap.size ≤ b ∧ b < w1.heap.size) ∨ (w3.heap.size + 1 ≤ b ∧ b < w4.heap.size) := ⟨_, rfl⟩
    have hSw : ∀ b, S b → b < W6.heap.size ∧ w.heap.size ≤ b := by
      rw [hS]
      intro b hb
      omega
    have hSn : ∀ b, b < w.heap.size ∨ w1.heap.size ≤ b → b < w3.heap.size + 1 ∨ w4.heap.size ≤ b → ¬ S b := by
      rw [hS]
      intro b h1 h2 h3
      omega
    have hSx : ∀ b, w.heap.size ≤ b → b < w1.heap.size → S b := by rw [hS]; intro b h1 h2; exact .inl ⟨h1, h2⟩
    have hSr : ∀ b, w3.heap.size + 1 ≤ b → b < w4.heap.size → S b := by rw [hS]; intro b h1 h2; exact .inr ⟨h1, h2⟩
    have K' := chain K L
    have QSP : Hid (Calls Try.prog 19 #[.slice (some ⟨V.heap.size, 0, none⟩) 3 3] (V.alloc (.cells #[.bool ng, .slice ad1 xs.length cap1, .bool mg, .slice ad4 us.length cap4, .bool false, .slice ae4 bs.length cbp4] 29))
        fun e w' => e = .returned (.tuple #[]) ∧ Spoiled S (V.alloc (.cells #[.bool ng, .slice ad1 xs.length cap1, .bool mg, .slice ad4 us.length cap4, .bool false, .slice ae4 bs.length cbp4] 29)) w') := by
      refine spoil_any S V.heap.size 3 [(ng, .slice ad1 xs.length cap1), (mg, .slice ad4 us.length cap4), (false, .slice ae4 bs.length cbp4)] _ (intRow3 bx) (fun h => by have := (hSw _ h).1; omega) (by omega) ?_ (by simp) (fun b h => by have := (hSw b h).1; omega)
      intro p hp
      simp only [List.mem_cons, List.not_mem_nil, or_false] at hp
      rcases hp with rfl | rfl | rfl
      · exact (G1.out.below K' (by omega)).loose HPOS.out hSx (by have := HL1.out; omega)
      · exact (G4.out.below K' (by omega)).loose (by omega) hSr (by have := HL2.out; have := HRS.out; omega)
      · exact (H4.out.below K' (by omega)).loose (by omega) hSr (by have := HL3.out; have := HRS.out; omega)
    have HSW := hid hSw
    have HSN := hid hSn
    have HK := hid K'
    have HVS := hid hVs
    have HE0 := hid E0
    clear hS hSw hSn hSx hSr K' hVs E0 K L bx
    go_wp2_with fail
    refine QSP.out.mono ?_
    rintro e Z ⟨rfl, hz⟩
    have hVs := HVS.out
    have hzs := hz.size
    have B2 := hz.box (F2.later HK.out) (HSN.out _ (.inr (by omega)) (.inl (by omega)))
    have B3 := hz.box (F3.later HK.out) (HSN.out _ (.inr (by omega)) (.inl (by omega)))
    have B5 := hz.box (F5.later HK.out) (HSN.out _ (.inr (by omega)) (.inr (by omega)))
    have B6 := hz.box (F6.later HK.out) (HSN.out _ (.inr (by omega)) (.inr (by omega)))
    have Y2 := hz.limbs (G2.out.below HK.out (by omega)) (by omega) (fun b h1 h2 => HSN.out b (.inr (by omega)) (.inl (by omega)))
    have Y3 := hz.limbs (G3.out.below HK.out (by omega)) (by omega) (fun b h1 h2 => HSN.out b (.inr (by omega)) (.inl (by omega)))
    have Y5 := hid (hz.limbs (G5.out.below HK.out (by omega)) (by omega) (fun b h1 h2 => HSN.out b (.inr (by omega)) (.inr (by omega))))
    have Y6 := hid (hz.limbs (G6.out.below HK.out (by omega)) (by omega) (fun b h1 h2 => HSN.out b (.inr (by omega)) (.inr (by omega))))
    have Z5 := hid (hz.limbs (H5.out.below HK.out (by omega)) (by omega) (fun b h1 h2 => HSN.out b (.inr (by omega)) (.inr (by omega))))
    have Z6 := hid (hz.limbs (H6.out.below HK.out (by omega)) (by omega) (fun b h1 h2 => HSN.out b (.inr (by omega)) (.inr (by omega))))
    have QS := hid (sameI_true _ _ _ _ ng _ _ xs Z Y2 (by omega) (by have := HL1.out; omega) Y3 (by omega))
    have HF : Below w.heap.size w Z := (chain HE0.out HK.out).trans (hz.below (Nat.le_trans HE0.out.size HK.out.size) fun b hb => (HSW.out b hb).2)
    have QF := hid fun Z1 (h : Below Z.heap.size Z Z1) => sameF_true _ _ _ _ _ _ _ _ mg _ _ _ _ us bs Z1 (Y5.out.below h (by omega)) (by have := h.size; omega) (Z5.out.below h (by omega)) (by have := h.size; omega) (Y6.out.below h (by omega)) (by have := h.size; omega) (Z6.out.below h (by omega)) (by have := h.size; omega)
      (by have := HL2.out; have := HRS.out; omega) (by have := HL3.out; have := HRS.out; omega)
    have HB5 := hid B5
    have HB6 := hid B6
    obtain ⟨n0, n1, o0, o1⟩ := B2.two
    obtain ⟨p0, p1, q0, q1⟩ := B3.two
    clear hz F1 F2 F3 F4 F5 F6 c0 c1 f0 f1 i0 i1 i2 i3 j0 j1 j2 j3 Y2 Y3 B2 B3 B5 B6 QSP HSW HSN HK HVS
    go_wp2_with fail
    refine QS.out.mono ?_
    rintro e Z1 ⟨rfl, hz1⟩
    have QF' := hid (QF.out Z1 hz1)
    obtain ⟨⟨i0, i1, i2, i3⟩, j0, j1, j2, j3⟩ := (HB5.out.later hz1).four
    obtain ⟨⟨k0, k1, k2, k3⟩, m0, m1, m2, m3⟩ := (HB6.out.later hz1).four
    have HF1 := HF.trans (hz1.mono HF.size)
    clear QS QF hz1 HF n0 n1 o0 o1 p0 p1 q0 q1
    go_wp2_with fail
    refine QF'.out.mono ?_
    rintro e Z2 ⟨rfl, hz2⟩
    have HF2 := HF1.trans (hz2.mono HF1.size)
    clear QF' hz2 HF1 i0 i1 i2 i3 j0 j1 j2 j3 k0 k1 k2 k3 m0 m1 m2 m3
    go_wp2_with fail
    refine (QA.out _).mono ?_
    rintro e Z3 ⟨rfl, hz3⟩
    have HF3 := HF2.trans (hz3.mono HF2.size)
    go_wp2
    go_ret
    exact ⟨rfl, HF3⟩

theorem heap_pos {W : World} (h : W.ShapedOpen Try.prog) : 0 < W.heap.size := by
  obtain ⟨cs, hc, _⟩ := h.1 0 #[.int .i64 0] 3 (of_decide_eq_true (by kernel_rfl)) (by kernel_rfl)
  exact (Array.getElem?_eq_some_iff.1 hc).1

set_option maxRecDepth 100000 in
theorem reads_lifted (os : Os) (started : os.Started) (H : Type) (enc : TypeId × Value → H) :
    ReturnsInHanded {} Try.checked os 4 .any (Rows.numeralReadsSpec.pre6 enc Try.prog Try.f4 Rows.numeralReadsRow.domain false) (Rows.numeralReadsSpec.post enc Try.prog Try.f4 false true false false) := by
  refine returnsInHanded_of_change_shaped (C := Try.checked) own_knob started (by kernel_rfl) Try.func4
    (ChangeSpec.witness6 (enc := enc) (C := Try.checked) false ⟨#[], #[.string .empty], []⟩ 8 (by kernel_rfl) (by kernel_rfl) (by kernel_rfl) (by kernel_rfl)) ?_
  intro W base args ds gs before hval hW hcnd _ hsh _
  have hW' := hW
  obtain ⟨p, q, hA0, hV, rfl, hfz, hnd⟩ := hW
  have hA : DataW.TrodAll enc Try.prog W 0 (fun _ => true) true Try.f4.params.toList args.toList ds p := hA0
  rw [Try.params4] at hA hval
  obtain ⟨v0, d0, rfl, rfl, h0⟩ := trodAll_one hA
  obtain ⟨rfl, rfl⟩ := trodVars_none hV
  obtain ⟨s, rfl, rfl, rfl, hs⟩ := Go.ChangeMaps.open_string Try.underlying9 (hval 0 9 v0 rfl rfl) h0
  clear hA0
  simp only [List.append_nil] at hW'
  refine (reads_walk s W (heap_pos hsh)).mono fun e W' ⟨he, hg⟩ => ?_
  subst he
  exact ⟨_, rfl, post_stays (pv := []) hW' hg (fun _ _ _ => (trodAll_cons_mk (shut_bool Try.underlying4 _) trodAll_mk0))
    (trodAll_mk1 (Go.ChangeMaps.shut_string Try.underlying9 hs)) rfl⟩

/-- The law similelaw02.NumeralReads: on every start it returns true and nothing that was there turns. Conditions: none. -/
theorem numeralReads_holds : Rows.NumeralReadsSaid :=
  OpenClaim.holds_of_wide 4 Try.f4 rfl rfl rfl rfl rfl rfl rfl ⟨rfl, rfl, rfl, rfl, rfl⟩ rfl rfl rfl rfl rfl (by kernel_rfl) Try.func4 (by kernel_rfl)
    (of_decide_eq_true (by kernel_rfl)) (by unfold Func.isWrapper; first | (rw [if_pos (by decide +kernel)]; kernel_rfl) | (rw [if_neg (by decide +kernel)]; exact ⟨rfl, rfl⟩))
    (fun os started H enc _ => reads_lifted os started H enc)
#print axioms numeralReads_holds
end Go.Proofs.Ytjjidmgeladicaa

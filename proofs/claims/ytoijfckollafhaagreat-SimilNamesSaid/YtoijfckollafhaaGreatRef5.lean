/- simileref01's Div: quotient and rest. -/
import Derived.Test.YtoijfckollafhaaGreatRef4
namespace Go.Proofs.YtoijfckollafhaaGreat
open Go.RowKit

theorem own_keep {w w' : World} {B : Nat} {e : TypeId} {size : Nat} {v : Value} {n : Nat} {xs : List Value} (h : w.ownsRow B e size v n xs) (hb : Below w.heap.size w w') : w'.ownsRow B e size v n xs := by
  refine ⟨h.1, ?_⟩
  rcases h.2 with hn | ⟨g, cap, cur, rfl, hbg, hgg, rest⟩
  · exact .inl hn
  · exact .inr ⟨g, cap, cur, rfl, hbg, (hb.block g (Array.getElem?_eq_some_iff.1 hgg).1).trans hgg, rest⟩

theorem Limbs.set {lo hi : Nat} {w : World} {v : Value} {xs : List Nat} (h : Limbs lo hi w v xs) (p : Addr) (u : Value) (hp : p.block < lo ∨ hi ≤ p.block) : Limbs lo hi (w.setCell p u) v xs :=
  h.keep fun b h1 h2 => Below.heap_setCell _ _ _ _ (by omega)

theorem or_pow (d k : Nat) (h : d % 2 ^ (k + 1) = 0) : d ||| 2 ^ k = d + 2 ^ k := by
  obtain ⟨a, ha⟩ := Nat.dvd_of_mod_eq_zero h
  rw [ha, ← Nat.two_pow_add_eq_or_of_lt (Nat.pow_lt_pow_right (by decide) (Nat.lt_succ_self k))]

theorem div_of (Y R d : Nat) (h1 : d * Y ≤ R) (h2 : R < (d + 1) * Y) : R / Y = d := by
  have hY : 0 < Y := by
    rcases Nat.eq_zero_or_pos Y with h | h
    · subst h; simp at h2
    · exact h
  exact Nat.div_eq_of_lt_le h1 h2

theorem bit_step (d j : Nat) (hj : j < 32) (hd : d < 4294967296) (hm : d % 2 ^ (j + 1) = 0) :
    d + 2 ^ j < 4294967296 ∧ bits .or .u32 (d : Nat) ((2 : Int) ^ j % 4294967296) = ((d + 2 ^ j : Nat) : Int) ∧ d % 2 ^ j = 0 ∧ (d + 2 ^ j) % 2 ^ j = 0 ∧ d + 2 ^ (j + 1) = d + 2 ^ j + 2 ^ j := by
  have hp : 2 ^ j < 4294967296 := Nat.lt_of_lt_of_le (Nat.pow_lt_pow_right (by decide) hj) (by decide)
  obtain ⟨a, ha⟩ := Nat.dvd_of_mod_eq_zero hm
  have h0 : d % 2 ^ j = 0 := by rw [ha, Nat.pow_succ, Nat.mul_assoc]; exact Nat.mul_mod_right _ _
  have hlt : d + 2 ^ j < 4294967296 := by
    obtain ⟨c, hc⟩ : ∃ c, 4294967296 = 2 ^ (j + 1) * c := ⟨2 ^ (31 - j), by rw [← Nat.pow_add, show j + 1 + (31 - j) = 32 from by omega]⟩
    have h1 : a < c := by
      rw [ha, hc] at hd
      exact Nat.lt_of_mul_lt_mul_left hd
    have h2 : 2 ^ (j + 1) * (a + 1) ≤ 2 ^ (j + 1) * c := Nat.mul_le_mul_left _ h1
    have h3 : 0 < 2 ^ j := Nat.pow_pos (by decide)
    rw [← hc, Nat.mul_add, ← ha, Nat.pow_succ] at h2
    omega
  refine ⟨hlt, ?_, h0, by rw [Nat.add_mod_right]; exact h0, by rw [Nat.pow_succ]; omega⟩
  have e : ((2 : Int) ^ j % 4294967296) = ((2 ^ j : Nat) : Int) := by
    have : ((2 ^ j : Nat) : Int) = (2 : Int) ^ j := by simp
    rw [← this]
    omega
  rw [e, u32_or_nat d _ hd hp, or_pow d j hm]

set_option maxHeartbeats 1600000 in
theorem div01_any (lo h1 lo2 h12 : Nat) (v v2 : Value) (xs ys : List Nat) (w : World) (h : Limbs lo h1 w v xs) (h2 : Limbs lo2 h12 w v2 ys) (hhi2 : h12 ≤ w.heap.size) (hl : xs.length ≤ 4398046511104) (hl2 : ys.length ≤ 4398046511104)
    (hpos : 0 < natOf ys) :
    Calls Tryz.prog 310 #[v, v2] w fun e w' => ∃ r1 r2, e = .returned (.tuple #[r1, r2]) ∧ Limbs w.heap.size w'.heap.size w' r1 (toL (natOf xs / natOf ys)) ∧
      Limbs w.heap.size w'.heap.size w' r2 (toL (natOf xs % natOf ys)) ∧ Below w.heap.size w w' := by
  have q1 := norm01_any _ _ _ _ _ h (by omega)
  have Q1 := hid q1
  clear q1
  go_enter Tryz.func310, Tryz.ntmps310
  go_wp2_with fail
  refine Q1.out.mono ?_
  rintro e w1 ⟨r1, rfl, hr1, hb1⟩
  have q2 := norm01_any _ _ _ _ _ (h2.below hb1 hhi2) (by omega)
  have Q2 := hid q2
  clear q2
  go_wp2_with fail
  refine Q2.out.mono ?_
  rintro e w2 ⟨r2, rfl, hr2, hb2⟩
  have hr1' := hr1.below hb2 (Nat.le_refl _)
  have hbel := hb1.trans (hb2.mono hb1.size)
  have hs := hb2.size
  have hs1 := hb1.size
  clear hb2 hb1 hr1 Q1 Q2
  have hlb := toL_len ys (by obtain ⟨_, _, _, _, _, hlt, _⟩ := h2.open; exact hlt)
  have hla := toL_len xs (by obtain ⟨_, _, _, _, _, hlt, _⟩ := h.open; exact hlt)
  have hnb := natOf_toL (natOf ys)
  have hna := natOf_toL (natOf xs)
  revert hlb hla hnb hna hr1' hr2 hpos
  generalize toL (natOf ys) = bs
  generalize toL (natOf xs) = us
  generalize hY : natOf ys = Y
  generalize hX : natOf xs = X
  have HXX := hid hX
  have HYY := hid hY
  clear hX hY
  intro hpos hr2 hr1 hlb hla hnb hna
  obtain ⟨ad, cap, rfl, hc, _, hlt, hcell⟩ := hr1.open
  have HC := hid hcell
  have HLT := hid hlt
  have HNA := hid hna
  have HNB := hid hnb
  clear hcell hlt hna hnb h h2
  have hBlt : ∀ x, x ∈ bs → x < 4294967296 := by obtain ⟨_, _, _, _, _, hlt, _⟩ := hr2.open; exact hlt
  have hYlt : Y < 4294967296 ^ bs.length := by rw [← HNB.out]; exact natOf_lt bs hBlt
  have HYL := hid hYlt
  clear hBlt hYlt
  go_wp2_with (at_make; refine wpl_make_u32 elemNat rfl _ _ rfl w.heap.size _ _ _ _ us.length us.length rfl rfl rfl rfl (Nat.le_refl _) (by omega) hbel hbel.size ?_)
  intro w3 ho3 hb3 hg3
  have hb23 : Below w2.heap.size w2 w3 := (Below.refl _ _).grown hg3 (Nat.le_refl _) (by simp)
  have hs3 : w2.heap.size < w3.heap.size := (ho3.lt _ rfl).2
  have hr13 := hr1.below hb23 hs
  have hr23 := hr2.below hb23 (Nat.le_refl _)
  clear hg3
  go_wp2
  go_loopw [7, 8] (fun rv t wr => ∃ (k R : Nat) (qs : List Nat), t = .int .i64 ((k : Int) - 1) ∧ k ≤ us.length ∧ Below w.heap.size w wr ∧ Below w2.heap.size w2 wr ∧ w2.heap.size < wr.heap.size ∧
      wr.ownsRow w.heap.size 208 1 (.slice (some ⟨w2.heap.size, 0, none⟩) us.length us.length) us.length (u32s qs) ∧ (∀ x, x ∈ qs → x < 4294967296) ∧ (∀ j, j < k → qs.getD j 0 = 0) ∧
      Limbs (w2.heap.size + 1) wr.heap.size wr rv (toL R) ∧ R < Y ∧ natOf (qs.drop k) * Y + R = natOf (us.drop k)) (fun _ t _ => (intOf t + 1).toNat)
  case atStart => exact ⟨us.length, 0, _, rfl, Nat.le_refl _, hb3, hb23, hs3, ho3, zeroL_lt _, fun j _ => zeroL_getD _ _, by rw [toL_zero]; exact Limbs.nil, hpos, by simp [zeroL, natOf]⟩
  case round =>
    obtain ⟨k, R, qs, rfl, hk, hbr, hb2r, hsr, hown, hqlt, hq0, hR, hRY, hval⟩ := hrel
    have HQL := hid hqlt
    have HQ0 := hid hq0
    have HV := hid hval
    clear hqlt hq0 hval ho3 hb3 hb23 hs3 hr13 hr23
    cases k with
    | zero =>
      have hln := own_len hown
      have hv : natOf qs = X / Y ∧ R = X % Y := by
        have := HV.out
        rw [List.drop_zero, List.drop_zero, HNA.out] at this
        refine ⟨(div_of Y X _ (by omega) (by rw [Nat.add_mul]; omega)).symm, ?_⟩
        rw [← this, Nat.add_comm, Nat.add_mul_mod_self_right, Nat.mod_eq_of_lt hRY]
      have hN := norm01_any _ _ _ _ wr (Limbs.ofOwn hown HQL.out) (by omega)
      rw [hv.1] at hN
      have HV2 := hid hv.2
      clear hv hln
      go_wp2_with (go_at_call 173; refine hN.mono ?_; rintro e w' ⟨r, rfl, hr, hb⟩)
      go_ret2
      rw [HXX.out, HYY.out, ← HV2.out]
      exact ⟨_, _, rfl, hr.wide hbr.size (Nat.le_refl _), (hR.below hb (Nat.le_refl _)).wide (Nat.le_trans hbel.size (Nat.le_succ _)) hb.size, hbr.trans (hb.mono hbr.size)⟩
    | succ m =>
      obtain ⟨b, off, rfl, hlo, hhi, hcb⟩ := HC.out m (by omega)
      obtain ⟨y, hy⟩ : ∃ y, us.getD m 0 = y := ⟨_, rfl⟩
      have hy32 : y < 4294967296 := by rw [← hy]; exact getD_lt us HLT.out m
      rw [hy] at hcb
      have hcr := cellB hb2r hcb (Nat.le_refl _)
      have f1 : (m : Int) < (us.length : Int) := by omega
      obtain ⟨R', hR'⟩ : ∃ R', R' = y + 4294967296 * R := ⟨_, rfl⟩
      have hRl : (toL R).length ≤ bs.length := toL_len_le _ _ (Nat.lt_trans hRY HYL.out)
      have hR'B : R' < 4294967296 * Y := by
        have : 4294967296 * (R + 1) ≤ 4294967296 * Y := Nat.mul_le_mul_left _ hRY
        omega
      have hR'l : (toL R').length ≤ bs.length + 1 := by
        refine toL_len_le _ _ (Nat.lt_trans hR'B ?_)
        rw [Nat.pow_succ, Nat.mul_comm]
        exact Nat.mul_lt_mul_of_pos_right HYL.out (by decide)
      have hsh := shift01_any _ _ _ _ y wr hR (Nat.le_refl _) (by omega) hy32
      rw [natOf_toL, ← hR'] at hsh
      have hdrop : natOf (us.drop m) = natOf (qs.drop (m + 1)) * Y * 4294967296 + R' := by
        rw [natOf_drop us m, hy, ← HV.out, hR', Nat.mul_add]
        generalize natOf (qs.drop (m + 1)) * Y = t
        omega
      have HSH := hid hsh
      have HD := hid hdrop
      have HR := hid hR'
      have HRB := hid hR'B
      clear hcb hy hsh hdrop hR' hR hR'B
      go_wp2_with fail
      refine HSH.out.mono ?_
      rintro e w4 ⟨r4, rfl, hr4, hb4⟩
      have hown4 := own_keep hown hb4
      have hbr4 := hbr.trans (hb4.mono hbr.size)
      have hb2r4 := hb2r.trans (hb4.mono hb2r.size)
      have hs4 : w2.heap.size < w4.heap.size := Nat.lt_of_lt_of_le hsr hb4.size
      have hr4' := hr4.wide (Nat.succ_le_of_lt hsr) (Nat.le_refl _)
      have hr24 := hr2.below hb2r4 (Nat.le_refl _)
      have hcmp := cmp01_any _ _ _ _ _ _ _ _ w4 hr4' hr24 (by omega) (by omega)
      rw [natOf_toL, HNB.out] at hcmp
      clear hcr hown hbr hb2r hsr hr4 hb4
      by_cases hlt : R' < Y
      · have hc1 : cmpN R' Y = -1 := by simp [cmpN, hlt]
        rw [hc1] at hcmp
        have HCMP := hid hcmp
        have HCL := hid hlt
        clear hcmp hc1 hlt
        go_wp2_with fail
        refine HCMP.out.mono ?_
        rintro e w' ⟨rfl, rfl⟩
        go_wp2
        refine ⟨⟨m, R', qs, by go_num, by omega, hbr4, hb2r4, hs4, hown4, HQL.out, fun j hj => HQ0.out j (by omega), hr4', HCL.out, ?_⟩, by simp [intOf]⟩
        rw [natOf_drop qs m, HQ0.out m (by omega), HD.out, Nat.zero_add, Nat.mul_assoc, Nat.mul_comm 4294967296]
      · have hc1 : cmpN R' Y = 0 ∨ cmpN R' Y = 1 := by
          unfold cmpN
          rw [if_neg hlt]
          split <;> simp
        obtain ⟨cz, hcz⟩ : ∃ cz, cmpN R' Y = cz := ⟨_, rfl⟩
        rw [hcz] at hcmp
        have hcz0 : 0 ≤ cz := by rcases hc1 with h | h <;> omega
        have HCMP := hid hcmp
        clear hcmp hc1 hcz hlt
        go_wp2_with fail
        refine HCMP.out.mono ?_
        rintro e w' ⟨rfl, rfl⟩
        go_wp2
        obtain ⟨wo, hwo⟩ : ∃ wo : World, wo = w4 := ⟨_, rfl⟩
        subst hwo
        go_loopw [9, 10] (fun dv t wr => ∃ (j d : Nat), t = .int .i64 ((j : Int) - 1) ∧ j ≤ 32 ∧ dv = .int .u32 (d : Nat) ∧ d < 4294967296 ∧ d % 2 ^ j = 0 ∧ d * Y ≤ R' ∧ R' < (d + 2 ^ j) * Y ∧ Below wo.heap.size wo wr) (fun _ t _ => (intOf t + 1).toNat)
        case atStart => exact ⟨32, 0, rfl, by omega, rfl, by omega, by simp, by omega, by simpa using HRB.out, Below.refl _ _⟩
        case round =>
          obtain ⟨j, d, rfl, hj, rfl, hd, hmod, hd1, hd2, hbo⟩ := hrel
          have HM := hid hmod
          have HD1 := hid hd1
          have HD2 := hid hd2
          clear hmod hd1 hd2
          have hwr := hr4'.below hbo (Nat.le_refl _)
          have hwb := hr24.below hbo (Nat.le_of_lt hs4)
          cases j with
          | zero =>
            have hdv : R' / Y = d ∧ R' - Y * d = R' % Y := by
              have h1 := div_of Y R' d HD1.out (by simpa using HD2.out)
              refine ⟨h1, ?_⟩
              have := Nat.div_add_mod R' Y
              rw [h1] at this
              omega
            have hownr := own_keep hown4 hbo
            obtain ⟨c1, c2⟩ := own_u32 hownr m (by omega)
            have hst := own_set hownr m d
            have hlq := own_len hown4
            have hbs : Below w2.heap.size wr (wr.setCell ⟨w2.heap.size, m, none⟩ (.int .u32 (d : Nat))) := (Below.refl _ _).setCell (by exact Nat.le_refl _) _
            have hsz : wr.heap.size ≤ (wr.setCell ⟨w2.heap.size, m, none⟩ (.int .u32 (d : Nat))).heap.size := hbs.size
            have hsz2 := Nat.le_trans hbo.size hsz
            have hsm := small01_any _ _ _ _ d (wr.setCell ⟨w2.heap.size, m, none⟩ (.int .u32 (d : Nat))) (hwb.set _ _ (.inr (Nat.le_refl _))) (Nat.le_trans (Nat.le_of_lt hs4) hsz2) (by omega) hd
            rw [HNB.out] at hsm
            have hwrs := hwr.set ⟨w2.heap.size, m, none⟩ (.int .u32 (d : Nat)) (.inl (Nat.lt_succ_self _))
            have hvq : natOf ((qs.set m d).drop m) * Y + R' % Y = natOf (us.drop m) := by
              rw [natOf_drop (qs.set m d) m, HD.out]
              have e1 : (qs.set m d).getD m 0 = d := by
                rw [List.getD_eq_getElem?_getD, List.getElem?_set_self (by omega)]; rfl
              have e2 : (qs.set m d).drop (m + 1) = qs.drop (m + 1) := by rw [List.drop_set_of_lt (Nat.lt_succ_self m)]
              have e3 := Nat.div_add_mod R' Y
              rw [hdv.1] at e3
              rw [e1, e2, Nat.add_mul, Nat.mul_assoc, Nat.mul_comm 4294967296, Nat.mul_comm d Y]
              generalize natOf (qs.drop (m + 1)) * Y * 4294967296 = t at *
              omega
            have hYd : Y * d ≤ R' := by rw [Nat.mul_comm]; exact HD1.out
            have hrm : R' % Y < Y := Nat.mod_lt _ hpos
            have hlq2 : ∀ j, j < m → (qs.set m d).getD j 0 = 0 := by
              intro j hj
              rw [List.getD_eq_getElem?_getD, List.getElem?_set_ne (by omega), ← List.getD_eq_getElem?_getD]
              exact HQ0.out j (by omega)
            have HQL2 := hid (set_lt qs m d HQL.out hd)
            have HLQ2 := hid hlq2
            have HVQ := hid hvq
            have HRM := hid hrm
            have HST := hid hst.1
            have HSM := hid hsm
            clear hsm hst hlq hvq hrm hlq2
            go_wp2_with fail
            refine HSM.out.mono ?_
            rintro e w6 ⟨r6, rfl, hr6, hb6⟩
            have hsub := sub01_any _ _ _ _ _ _ _ _ w6 (hwrs.below hb6 hsz2) hr6 (Nat.le_trans hsz2 hb6.size) (Nat.le_refl _) (by omega) (by rw [natOf_toL, natOf_toL]; exact hYd)
            rw [natOf_toL, natOf_toL, hdv.2] at hsub
            have hown6 := own_keep HST.out hb6
            have hA : Below w2.heap.size wo w6 := ((hbo.mono (Nat.le_of_lt hs4)).trans hbs).trans (hb6.mono (Nat.le_trans (Nat.le_of_lt hs4) hsz2))
            have HSUB := hid hsub
            have HDV := hid hdv
            clear hsub hdv hYd hr6 hb6 c1 c2
            go_wp2_with fail
            refine HSUB.out.mono ?_
            rintro e w7 ⟨r7, rfl, hr7, hb7⟩
            have hA7 : Below w2.heap.size wo w7 := hA.trans (hb7.mono (Nat.le_trans (Nat.le_of_lt hs4) hA.size))
            have hown7 := own_keep hown6 hb7
            go_wp2
            refine ⟨⟨m, R' % Y, qs.set m d, by go_num, by omega, hbr4.trans (hA7.mono hbel.size), hb2r4.trans hA7, Nat.lt_of_lt_of_le hs4 hA7.size, hown7, HQL2.out, HLQ2.out,
              hr7.wide (Nat.le_trans hs4 hA.size) (Nat.le_refl _), HRM.out, HVQ.out⟩, by simp [intOf]⟩
          | succ j =>
            obtain ⟨hlt, hbit, hm1, hm2, hpp⟩ := bit_step d j (by omega) hd HM.out
            obtain ⟨p, hp⟩ : ∃ p, 2 ^ j = p := ⟨_, rfl⟩
            rw [hp] at hlt hbit hm1 hm2 hpp
            have hsm := small01_any _ _ _ _ (d + p) wr hwb (Nat.le_trans (Nat.le_of_lt hs4) hbo.size) (by omega) hlt
            rw [HNB.out] at hsm
            have hYd : (toL (Y * (d + p))).length ≤ bs.length + 1 := by
              refine toL_len_le _ _ ?_
              rw [Nat.pow_succ]
              exact Nat.mul_lt_mul'' HYL.out hlt
            have HSM := hid hsm
            have HB := hid hbit
            have HM1 := hid hm1
            have HM2 := hid hm2
            have HPP := hid hpp
            have HP := hid hp
            clear hsm hbit hm1 hm2 hpp hp
            go_wp2_with fail
            rw [HB.out]
            refine HSM.out.mono ?_
            rintro e w5 ⟨r5, rfl, hr5, hb5⟩
            have hcmp := cmp01_any _ _ _ _ _ _ _ _ w5 hr5 (hwr.below hb5 hbo.size) (by omega) (by omega)
            rw [natOf_toL, natOf_toL] at hcmp
            have hbo5 := hbo.trans (hb5.mono hbo.size)
            by_cases hle : Y * (d + p) ≤ R'
            · have hc1 : cmpN (Y * (d + p)) R' ≤ 0 := by unfold cmpN; split <;> (try split) <;> omega
              obtain ⟨cz, hcz⟩ : ∃ cz, cmpN (Y * (d + p)) R' = cz := ⟨_, rfl⟩
              rw [hcz] at hcmp hc1
              have HCMP := hid hcmp
              have HLE := hid hle
              clear hcmp hcz hle hYd hr5 hb5
              go_wp2_with fail
              refine HCMP.out.mono ?_
              rintro e w' ⟨rfl, rfl⟩
              go_wp2
              refine ⟨⟨j, d + p, by go_num, by omega, by go_num, hlt, by rw [HP.out]; exact HM2.out, by rw [Nat.mul_comm]; exact HLE.out, by rw [HP.out, ← HPP.out]; exact HD2.out, hbo5⟩, by simp [intOf]⟩
            · have hc1 : 1 ≤ cmpN (Y * (d + p)) R' := by unfold cmpN; rw [if_neg (by omega), if_pos (by omega)]; omega
              obtain ⟨cz, hcz⟩ : ∃ cz, cmpN (Y * (d + p)) R' = cz := ⟨_, rfl⟩
              rw [hcz] at hcmp hc1
              have HCMP := hid hcmp
              have HLE := hid hle
              clear hcmp hcz hle hYd hr5 hb5
              go_wp2_with fail
              refine HCMP.out.mono ?_
              rintro e w' ⟨rfl, rfl⟩
              go_wp2
              refine ⟨⟨j, d, by go_num, by omega, rfl, hd, by rw [HP.out]; exact HM1.out, HD1.out, ?_, hbo5⟩, by simp [intOf]⟩
              have := HLE.out
              rw [Nat.mul_comm] at this
              rw [HP.out]
              omega
end Go.Proofs.YtoijfckollafhaaGreat

/- numeral.write: a natural number's digits in a base, at every slice of limbs. -/
import Derived.Test.YtoijfckollafhaaGreatDig
namespace Go.Proofs.YtoijfckollafhaaGreat
open Go.RowKit

theorem elemBytes : Elem Tryz.prog 246 5 (.int .u8 0) 1 1 :=
  ⟨Tryz.underlying246, by kernel_rfl, rfl, by decide⟩

theorem or_add (a x : Nat) (ha : a < 4294967296) (hx : x < 4294967296) :
    bits .or .u64 ((a : Int) * 4294967296) (x : Nat) = ((a * 4294967296 + x : Nat) : Int) := by
  have e : ((a : Int) * 4294967296) = ((a * 4294967296 : Nat) : Int) := by omega
  rw [e, bits_or_u64_nat _ _ (by omega) (by omega), Nat.mul_comm a, show (4294967296 : Nat) = 2 ^ 32 from rfl, ← Nat.two_pow_add_eq_or_of_lt (by exact hx)]

theorem wrap_u64_nat (q : Nat) (h : q < 18446744073709551616) : IntKind.u64.wrap (q : Int) = (q : Int) := by
  have hs : IntKind.u64.signed = false := rfl
  have hb : IntKind.u64.bits = 64 := rfl
  simp only [IntKind.wrap, hs, hb, Bool.false_and, Bool.false_eq_true, if_false]
  omega

theorem quo_rem (T P : Nat) (hq : T / P < 4294967296) :
    IntKind.u64.wrap ((T : Int).tdiv (P : Nat)) % 4294967296 = ((T / P : Nat) : Int) ∧ (T : Int).tmod (P : Nat) = ((T % P : Nat) : Int) := by
  refine ⟨?_, by rw [Int.ofNat_tmod]⟩
  rw [← Int.ofNat_tdiv]
  generalize T / P = q at *
  rw [wrap_u64_nat _ (by omega)]
  omega

theorem natOf_set_drop (cur : List Nat) (m y : Nat) (hm : m < cur.length) : natOf ((cur.set m y).drop m) = y + 4294967296 * natOf (cur.drop (m + 1)) := by
  rw [natOf_drop]
  have e1 : (cur.set m y).getD m 0 = y := by
    rw [List.getD_eq_getElem?_getD, List.getElem?_set_self hm]; rfl
  have e2 : (cur.set m y).drop (m + 1) = cur.drop (m + 1) := by rw [List.drop_set_of_lt (Nat.lt_succ_self m)]
  rw [e1, e2]

theorem own_base {w : World} {B B' : Nat} {e : TypeId} {s n : Nat} {v : Value} {xs : List Value} (h : w.ownsRow B' e s v n xs) (hb : B ≤ B') : w.ownsRow B e s v n xs := by
  refine ⟨h.1, ?_⟩
  rcases h.2 with hn | ⟨g, cap, cur, rfl, hbg, rest⟩
  · exact .inl hn
  · exact .inr ⟨g, cap, cur, rfl, by omega, rest⟩

theorem own_apart {w : World} {B B' : Nat} {e e' : TypeId} {s s' n n' : Nat} {v v' : Value} {xs xs' : List Value} (h : w.ownsRow B e s v n xs) (h' : w.ownsRow B' e' s' v' n' xs') (hne : e ≠ e') :
    v.ownBlock = none ∨ v.ownBlock ≠ v'.ownBlock := by
  rcases h.2 with ⟨rfl, _⟩ | ⟨g1, c1, cur1, rfl, _, hh1, _⟩
  · exact .inl rfl
  · right
    rcases h'.2 with ⟨rfl, _⟩ | ⟨g2, c2, cur2, rfl, _, hh2, _⟩
    · simp [Value.ownBlock]
    · simp only [Value.ownBlock]
      intro hg
      simp at hg
      subst hg
      rw [hh1] at hh2
      simp at hh2
      exact hne hh2.2

theorem abc_idx : ∀ d (h : d < (strOf abc).size), ((strOf abc)[d]'h) = chr d := by decide

/-- a list turned round at its ends, i places deep -/
def RevTo (ds : List UInt8) (i : Nat) (cur : List UInt8) : Prop :=
  ∀ j, j < ds.length → cur.getD j 0 = if j < i ∨ ds.length ≤ i + j then ds.getD (ds.length - 1 - j) 0 else ds.getD j 0

theorem revTo_zero (ds : List UInt8) : RevTo ds 0 ds := by
  intro j hj
  rw [if_neg (by omega)]

theorem rev_step (ds cur : List UInt8) (i q : Nat) (h : RevTo ds i cur) (hl : cur.length = ds.length) (hiq : i + q + 1 = ds.length) (hlt : i < q) :
    RevTo ds (i + 1) ((cur.set i (cur.getD q 0)).set q (cur.getD i 0)) := by
  intro j hj
  have hi := h i (by omega)
  have hq := h q (by omega)
  rw [if_neg (by omega)] at hi hq
  rw [hi, hq]
  by_cases h1 : j = q
  · subst h1
    rw [if_pos (by omega), show ds.length - 1 - j = i from by omega, List.getD_eq_getElem?_getD, List.getElem?_set_self (by simp; omega)]
    rfl
  · rw [List.getD_eq_getElem?_getD, List.getElem?_set_ne (by omega)]
    by_cases h2 : j = i
    · subst h2
      rw [if_pos (by omega), show ds.length - 1 - j = q from by omega, List.getElem?_set_self (by omega)]
      rfl
    · rw [List.getElem?_set_ne (by omega), ← List.getD_eq_getElem?_getD, h j hj]
      by_cases h3 : j < i ∨ ds.length ≤ i + j
      · rw [if_pos h3, if_pos (by omega)]
      · rw [if_neg h3, if_neg (by omega)]

theorem rev_end (ds cur : List UInt8) (i q : Nat) (h : RevTo ds i cur) (hl : cur.length = ds.length) (hiq : i + q + 1 = ds.length) (hge : q ≤ i) (hle : i ≤ q + 1) : cur = ds.reverse := by
  apply List.ext_getElem
  · simp [hl]
  · intro j h1 h2
    have hj := h j (by omega)
    have e1 : cur.getD j 0 = cur[j] := by simp [List.getD_eq_getElem?_getD, h1]
    have e2 : ds.reverse[j] = ds.getD (ds.length - 1 - j) 0 := by
      rw [List.getElem_reverse]
      simp [List.getD_eq_getElem?_getD, show ds.length - 1 - j < ds.length by omega]
    rw [← e1, e2, hj]
    split
    · rfl
    · rw [show ds.length - 1 - j = j from by omega]

theorem own_set8 {B : Nat} {w : World} {e : TypeId} {g n cap : Nat} {cur : List UInt8} (h : w.ownsRow B e 1 (.slice (some ⟨g, 0, none⟩) n cap) n (u8s cur)) (i : Nat) (y : UInt8) :
    (w.setCell ⟨g, i, none⟩ (.int .u8 (y.toNat : Nat))).ownsRow B e 1 (.slice (some ⟨g, 0, none⟩) n cap) n (u8s (cur.set i y)) := by
  have := (h.stored i (.int .u8 (y.toNat : Nat))).1
  have e : (u8s cur).set i (.int .u8 (y.toNat : Nat)) = u8s (cur.set i y) := by simp [u8s, List.map_set]
  rwa [e] at this

theorem dig0_step (b M : Nat) (ds : List UInt8) (hb : 2 ≤ b) (h : M ≠ 0) :
    (dig0 b M).map chr ++ ds.reverse = (dig0 b (M / b)).map chr ++ (ds ++ [chr (M % b)]).reverse := by
  rw [dig0_pos b M hb h]
  simp

set_option maxRecDepth 100000 in
set_option maxHeartbeats 3200000 in
theorem write_any (lo h1 : Nat) (v : Value) (xs : List Nat) (b : Nat) (w : World) (h : Limbs lo h1 w v xs) (hl : xs.length ≤ 1099511627776) (hbb : 2 ≤ b) (hb36 : b ≤ 36) :
    Calls Tryz.prog 251 #[v, .int .u32 (b : Nat)] w fun e w' => e = .returned (.string (strOf (digS b (natOf xs)))) ∧ Below w.heap.size w w' := by
  have hxl : ∀ x, x ∈ xs → x < 4294967296 := by obtain ⟨_, _, _, _, _, hlt, _⟩ := h.open; exact hlt
  have hbig : natOf xs < 2 ^ (32 * xs.length) := by
    have := natOf_lt xs hxl
    rwa [show (4294967296 : Nat) = 2 ^ 32 from rfl, ← Nat.pow_mul] at this
  have hN0 := norm_any lo h1 v xs w h (by omega)
  rw [trimL_toL xs hxl] at hN0
  have hyl := toL_len xs hxl
  obtain ⟨N, hN⟩ : ∃ N, natOf xs = N := ⟨_, rfl⟩
  rw [hN] at hbig hN0 hyl ⊢
  have HBIG := hid hbig
  have HN0 := hid hN0
  clear hbig hN hxl hN0 h
  go_enter Tryz.func251, Tryz.ntmps251
  go_wp2_with fail
  refine HN0.out.mono ?_
  rintro e w1 ⟨r1, rfl, hr1, hb1⟩
  go_wp2_with (at_builtin; refine wpl_append_limbs elemNat rfl _ _ rfl w.heap.size 0 (.slice none 0 0) r1 [] (toL N) _ _ (World.ownsRow_nil _ _ _ _) hr1 rfl rfl (by omega) hb1 hb1.size ?_)
  intro v2 w2 ho2 hb2 _ hnil2
  by_cases hz : N = 0
  · subst hz
    have hv2 : v2 = .slice none 0 0 := hnil2.2 toL_zero
    subst hv2
    go_wp2
    go_ret
    exact ⟨by simp [digS, strOf], hb2⟩
  · obtain ⟨g, c, rfl, hg1, hg2⟩ := own_nil_iff ho2 (by rw [toL_pos hz]; simp)
    have hlp : ((toL N).length : Int) ≠ 0 := by rw [toL_pos hz]; simp; omega
    have hlz : (((toL N).length : Int) == 0) = false := by simpa using hlp
    clear hlp hnil2
    go_wp2
    go_loop [5, 6] (fun pv wv => ∃ (P k : Nat), pv = .int .u64 (P : Nat) ∧ wv = .int .i64 (k : Nat) ∧ P = b ^ k ∧ 1 ≤ k ∧ k ≤ 32 ∧ P < 4294967296) (fun _ wv => 33 - (intOf wv).toNat)
    case atStart => exact ⟨b, 1, rfl, rfl, by simp, by omega, by omega, by omega⟩
    case round =>
      obtain ⟨P, k, rfl, rfl, hP, hk1, hk32, hPl⟩ := hrel
      have HP := hid hP
      clear hP
      have hpb : P * b ≤ 4294967295 * 36 := Nat.mul_le_mul (by omega) hb36
      have hP1 : 1 ≤ P := by rw [HP.out]; exact Nat.pow_pos (by omega)
      by_cases hlt : P * b < 4294967296
      · have hi : (P : Int) * (b : Int) < 4294967296 := by rw [← Int.natCast_mul]; omega
        have hk31 : k < 32 := by
          rcases Nat.lt_or_ge k 32 with h | h
          · exact h
          · exfalso
            have h2 : 2 ^ 32 ≤ b ^ k := Nat.le_trans (Nat.pow_le_pow_right (by decide) h) (Nat.pow_le_pow_left hbb k)
            rw [← HP.out] at h2
            omega
        go_wp2
        refine ⟨⟨P * b, k + 1, by go_num, by go_num, by rw [HP.out, Nat.pow_succ], by omega, by omega, hlt⟩, by simp [intOf]; omega⟩
      · have hi : ¬ (P : Int) * (b : Int) < 4294967296 := by rw [← Int.natCast_mul]; omega
        clear hlt
        go_wp2
        clear hpb
        have hI := hid hi
        clear hi hlz
        go_loopg [0, 7] N (fun gk nv ov wr => ∃ (m n : Nat) (ds : List UInt8), gk = m ∧ wr.ownsRow w.heap.size 208 1 nv (toL m).length (u32s (toL m)) ∧ Below w.heap.size w wr ∧ (toL m).length ≤ xs.length ∧
            wr.ownsRow w.heap.size 5 1 ov ds.length (u8s ds) ∧ (dig0 b N).map chr = (dig0 b m).map chr ++ ds.reverse ∧ n = 0)
        case atStart => exact ⟨N, 0, [], rfl, ho2, hb2, hyl, World.ownsRow_nil _ _ _ _, by simp, rfl⟩
        case round =>
          obtain ⟨m, n, ds, hgk, hown, hbel, hml, hod, hds, rfl⟩ := hrel
          have HGK := hid hgk
          have HDS := hid hds
          clear hgk hds ho2 hb2 hg1 hg2
          by_cases hm0 : m = 0
          · subst hm0
            rw [toL_zero] at hown
            obtain ⟨ad, c', rfl⟩ := own_shape hown
            have hds := HDS.out
            rw [dig0_zero, List.map_nil, List.nil_append] at hds
            have hdne : ds ≠ [] := by
              intro h
              rw [h, dig0_pos b N hbb hz] at hds
              simp at hds
            obtain ⟨g7, c7, rfl, hg7, hg72⟩ := own_nil_iff hod (List.length_pos_iff.2 hdne)
            have hfin : digS b N = ds.reverse := by rw [digS, if_neg hz, hds]
            have HF := hid hfin
            have hdl : ds.length ≤ 32 * xs.length := by
              have h1 := congrArg List.length hds
              simp only [List.length_map, List.length_reverse] at h1
              have h2 := dig0_len b N _ hbb HBIG.out
              omega
            have hdp : 0 < ds.length := List.length_pos_iff.2 hdne
            clear hds hdne hfin HDS hown
            go_wp2
            have hv0 : RevTo ds 0 ds := revTo_zero ds
            clear HGK
            go_loopw [11, 12] (fun iv qv wr => ∃ (i q : Nat) (cur : List UInt8), iv = .int .i64 (i : Nat) ∧ qv = .int .i64 (q : Nat) ∧ i + q + 1 = ds.length ∧ i ≤ q + 1 ∧
                wr.ownsRow w.heap.size 5 1 (.slice (some ⟨g7, 0, none⟩) ds.length c7) ds.length (u8s cur) ∧ Below w.heap.size w wr ∧ RevTo ds i cur) (fun iv _ _ => ds.length - (intOf iv).toNat)
            case atStart => exact ⟨0, ds.length - 1, ds, rfl, by go_num, by omega, by omega, hod, hbel, hv0⟩
            case round =>
              obtain ⟨i, q, cur, rfl, rfl, hiq, hle, hod2, hbel2, hrev⟩ := hrel
              have HREV := hid hrev
              have hcl : cur.length = ds.length := by simpa [u8s] using hod2.1
              have HCL := hid hcl
              have HIQ := hid hiq
              clear hrev hcl hod hbel hv0
              by_cases hlt : i < q
              · obtain ⟨c1, f1⟩ := own_u8 hod2 i (by omega)
                obtain ⟨c2, f2⟩ := own_u8 hod2 q (by omega)
                obtain ⟨x, hx⟩ : ∃ x, (cur.getD i 0).toNat = x := ⟨_, rfl⟩
                obtain ⟨y, hy⟩ : ∃ y, (cur.getD q 0).toNat = y := ⟨_, rfl⟩
                rw [hx] at c1
                rw [hy] at c2
                have HX := hid hx
                have HY := hid hy
                have g1 : (i : Int) < (ds.length : Int) := by omega
                have g2 : (q : Int) < (ds.length : Int) := by omega
                clear hx hy hiq
                go_wp2
                go_region
                go_wp2
                have hs := own_set8 (own_set8 hod2 i (cur.getD q 0)) q (cur.getD i 0)
                rw [HX.out, HY.out] at hs
                refine ⟨⟨i + 1, q - 1, _, by go_num, by go_num, by have := HIQ.out; omega, by omega, hs, ?_, rev_step ds cur i q HREV.out HCL.out HIQ.out hlt⟩, by simp [intOf]; have := HIQ.out; omega⟩
                exact ((hbel2.setCell (by exact hg7) _).setCell (by exact hg7) _).drew
              · have he := rev_end ds cur i q HREV.out HCL.out HIQ.out (by omega) hle
                have hcv : (convert 246 9 (.slice (some ⟨g7, 0, none⟩) ds.length c7)).run Tryz.prog wr = .ok (.string (strOf (digS b N))) wr := by
                  have := run_convert_bytes_back (P := Tryz.prog) wr 246 9 5 ⟨g7, 0, none⟩ c7 cur Tryz.underlying246 Tryz.underlying5 Tryz.underlying9 (fun j hj => by
                    rw [Addr.add_lit, Nat.zero_add, (own_u8 hod2 j (by rw [← HCL.out]; exact hj)).1]
                    simp [List.getD_eq_getElem?_getD, hj])
                  rw [HCL.out] at this
                  rw [this, HF.out, ← he]
                  rfl
                clear he hiq
                go_wp2
                go_ret
                exact ⟨rfl, hbel2⟩
          · obtain ⟨g', c', rfl, hg1, hg2⟩ := own_nil_iff hown (by rw [toL_pos hm0]; simp)
            have hlp : 0 < (toL m).length := by rw [toL_pos hm0]; simp
            have hmlt := toL_lt m
            have hmv := natOf_toL m
            revert hlp hown hml hmlt hmv
            generalize toL m = ys
            intro hml hown hlp hmlt hmv
            have HM := hid hmv
            have HML := hid hmlt
            clear hmv hmlt
            go_wp2
            obtain ⟨wo, hwo⟩ : ∃ wo : World, wo = wr := ⟨_, rfl⟩
            subst hwo
            go_loopw [8, 9] (fun rv t wr => ∃ (k' R : Nat) (cur : List Nat), t = .int .i64 ((k' : Int) - 1) ∧ rv = .int .u64 (R : Nat) ∧ k' ≤ ys.length ∧ R < P ∧
                wr.ownsRow w.heap.size 208 1 (.slice (some ⟨g', 0, none⟩) ys.length c') ys.length (u32s cur) ∧ Below w.heap.size w wr ∧ (∀ x, x ∈ cur → x < 4294967296) ∧
                (∀ j, j < k' → cur.getD j 0 = ys.getD j 0) ∧ natOf (cur.drop k') * P + R = natOf (ys.drop k') ∧ wr.ownsRow w.heap.size 5 1 u7 ds.length (u8s ds)) (fun _ t _ => (intOf t + 1).toNat)
            case atStart => exact ⟨ys.length, 0, ys, rfl, rfl, Nat.le_refl _, by omega, hown, hbel, HML.out, fun _ _ => rfl, by simp [natOf], hod⟩
            case round =>
              obtain ⟨k', R, cur, rfl, rfl, hk', hR, hown', hbel', hcl, hc0, hval, hod'⟩ := hrel
              have HCL := hid hcl
              have HC0 := hid hc0
              have HV := hid hval
              clear hcl hc0 hval hown hbel hod
              have hlc := own_len hown'
              cases k' with
              | zero =>
                obtain ⟨m', hm'⟩ : ∃ m', m / P = m' := ⟨_, rfl⟩
                have hv : natOf cur = m' ∧ R = m % P ∧ m = m' * P + R := by
                  have := HV.out
                  rw [List.drop_zero, List.drop_zero, HM.out] at this
                  have h1 : m / P = natOf cur := div_of P m _ (by omega) (by rw [Nat.add_mul]; omega)
                  have h2 := Nat.div_add_mod m P
                  rw [Nat.mul_comm, h1] at h2
                  exact ⟨by rw [← hm', h1], by omega, by rw [← hm', h1]; omega⟩
                have hN2 := norm_own _ _ _ cur wr (Limbs.ofOwn hown' HCL.out) (by omega)
                rw [trimL_toL cur HCL.out, hv.1] at hN2
                have HN2 := hid hN2
                have HMP := hid hm'
                have HV2 := hid hv
                have hml2 : (toL m').length ≤ xs.length := by
                  refine Nat.le_trans ?_ hml
                  rw [← hlc, ← hv.1]
                  exact toL_len cur HCL.out
                clear hN2 hm' hv hlc
                go_wp2_with fail
                refine HN2.out.mono ?_
                rintro e w4 ⟨r4, rfl, hr4, hr4x, hb4⟩
                have hod4 := own_keep hod' hb4
                have hbel4 := hbel'.trans (hb4.mono hbel'.size)
                have hown4 := own_base hr4 hbel'.size
                obtain ⟨ad4, c4, rfl⟩ := own_shape hown4
                clear hr4 hr4x hown' hod' hbel' hb4
                go_wp2
                obtain ⟨w5, hw5⟩ : ∃ w5 : World, w5 = w4 := ⟨_, rfl⟩
                subst hw5
                have hRlt : R < b ^ k := by rw [← HP.out]; exact hR
                have hdg : (dig0 b N).map chr = (dig0 b (m' * b ^ k + R)).map chr ++ ds.reverse := by
                  rw [HDS.out, ← HP.out, ← HV2.out.2.2]
                have HDG := hid hdg
                clear hdg
                go_loopw [7, 8, 10] (fun ov rv kv wr => ∃ (kk R : Nat) (ds : List UInt8), kv = .int .i64 (kk : Nat) ∧ kk ≤ k ∧ rv = .int .u64 (R : Nat) ∧ R < b ^ (k - kk) ∧
                    wr.ownsRow w.heap.size 208 1 (.slice ad4 (toL m').length c4) (toL m').length (u32s (toL m')) ∧ Below w.heap.size w wr ∧
                    wr.ownsRow w.heap.size 5 1 ov ds.length (u8s ds) ∧ (dig0 b N).map chr = (dig0 b (m' * b ^ (k - kk) + R)).map chr ++ ds.reverse) (fun _ _ kv _ => k - (intOf kv).toNat)
                case atStart => exact ⟨0, R, ds, rfl, Nat.zero_le _, rfl, hRlt, hown4, hbel4, hod4, HDG.out⟩
                case round =>
                  obtain ⟨kk, R2, ds2, rfl, hkk, rfl, hR2, hown5, hbel5, hod5, hd5⟩ := hrel
                  have HD5 := hid hd5
                  clear hd5 hown4 hbel4 hod4 hRlt
                  by_cases hgo : kk < k ∧ (R2 ≠ 0 ∨ m' ≠ 0)
                  · obtain ⟨hkl, hgo⟩ := hgo
                    obtain ⟨M, hM⟩ : ∃ M, m' * b ^ (k - kk) + R2 = M := ⟨_, rfl⟩
                    obtain ⟨Q, hQ⟩ : ∃ Q, b ^ (k - (kk + 1)) = Q := ⟨_, rfl⟩
                    have hpw : b ^ (k - kk) = Q * b := by rw [← hQ, ← Nat.pow_succ]; congr 1; omega
                    have hQ1 : 1 ≤ Q := by rw [← hQ]; exact Nat.pow_pos (by omega)
                    have hM0 : M ≠ 0 := by
                      rw [← hM]
                      rcases hgo with h | h
                      · omega
                      · have : 1 * 1 ≤ m' * b ^ (k - kk) := Nat.mul_le_mul (Nat.pos_of_ne_zero h) (Nat.pow_pos (by omega))
                        omega
                    have hMd : M / b = m' * Q + R2 / b ∧ M % b = R2 % b := by
                      rw [← hM, hpw, ← Nat.mul_assoc, Nat.add_comm]
                      exact ⟨by rw [Nat.add_mul_div_right _ _ (by omega), Nat.add_comm], by rw [Nat.add_mul_mod_self_right]⟩
                    have hRb : R2 / b < Q := by rw [hpw] at hR2; exact Nat.div_lt_of_lt_mul (by rw [Nat.mul_comm]; exact hR2)
                    have hd6 := HD5.out
                    rw [hM, dig0_step b M ds2 hbb hM0, hMd.1, hMd.2] at hd6
                    have hR32 : R2 < 4294967296 := by
                      have : b ^ (k - kk) ≤ b ^ k := Nat.pow_le_pow_right (by omega) (by omega)
                      have h2 := HP.out
                      omega
                    have hdl : ds2.length + 1 ≤ 32 * xs.length := by
                      have h1 := congrArg List.length hd6
                      simp only [List.length_map, List.length_append, List.length_reverse, List.length_cons, List.length_nil] at h1
                      have h2 := dig0_len b N _ hbb HBIG.out
                      omega
                    have hrb : R2 % b < b := Nat.mod_lt _ (by omega)
                    have HD6 := hid hd6
                    have HRB := hid hRb
                    have HQ := hid hQ
                    have hlm : R2 = 0 → 0 < (toL m').length := by
                      intro h0
                      have : m' ≠ 0 := by rcases hgo with h | h; exact absurd h0 h; exact h
                      rw [toL_pos this]; simp
                    clear hM hpw hQ hM0 hMd hRb hd6 hgo hQ1
                    rcases Nat.eq_zero_or_pos R2 with h0 | h0
                    · have hlm2 := hlm h0
                      clear hlm
                      subst h0
                      rw [Nat.zero_mod, Nat.zero_div] at *
                      go_wp2_with (at_builtin; go_loud (refine wpl_append1 elemBytes rfl _ _ rfl w.heap.size ds2.length 1 1 _ (u8s ds2) _ hod5 rfl rfl rfl (by simp [Value.oneCell']) (by omega) (by decide) (by unfold maxLen; omega) hbel5 hbel5.size ?_))
                      intro g6 c6 w6 ho6 hb6 hg6
                      have ho7 : w6.ownsRow w.heap.size 5 1 (.slice (some ⟨g6, 0, none⟩) (ds2.length + 1) c6) (ds2.length + 1) (u8s (ds2 ++ [chr 0])) := by
                        rw [← abc_idx 0 (show 0 < 36 by omega)]
                        simpa [u8s, strOf, abc] using ho6
                      have hown6 := (hown5.alloc _).kept hg6 (own_apart hown5 hod5 (by decide))
                      clear ho6 hg6 hown5 hod5
                      go_wp2
                      refine ⟨⟨kk + 1, _, ds2 ++ [chr 0], by go_num, by omega, by simp; rfl, by rw [HQ.out]; exact HRB.out, hown6, hb6, by simpa using ho7, by rw [HQ.out]; exact HD6.out⟩, by simp [intOf]; omega⟩
                    · clear hlm
                      obtain ⟨d, hd⟩ : ∃ d, R2 % b = d := ⟨_, rfl⟩
                      rw [hd] at hrb HD6
                      have HDD := hid hd
                      clear hd
                      have hqw : IntKind.u64.wrap ((R2 : Int) / (b : Int)) = ((R2 / b : Nat) : Int) := by
                        rw [← Int.natCast_ediv]
                        exact wrap_u64_nat _ (by have := Nat.div_le_self R2 b; omega)
                      have HQW := hid hqw
                      clear hqw
                      have hdi : (R2 : Int) % (b : Int) = (d : Nat) := by rw [← HDD.out]; simp
                      go_wp2_with (at_builtin; go_loud (refine wpl_append1 elemBytes rfl _ _ rfl w.heap.size ds2.length 1 1 _ (u8s ds2) _ hod5 rfl rfl rfl (by simp [Value.oneCell']) (by omega) (by decide) (by unfold maxLen; omega) hbel5 hbel5.size ?_))
                      intro g6 c6 w6 ho6 hb6 hg6
                      have ho7 : w6.ownsRow w.heap.size 5 1 (.slice (some ⟨g6, 0, none⟩) (ds2.length + 1) c6) (ds2.length + 1) (u8s (ds2 ++ [chr d])) := by
                        rw [← abc_idx d (show d < 36 by omega)]
                        simpa [u8s, strOf, abc] using ho6
                      have hown6 := (hown5.alloc _).kept hg6 (own_apart hown5 hod5 (by decide))
                      clear ho6 hg6 hown5 hod5 hdi
                      go_wp2
                      refine ⟨⟨kk + 1, R2 / b, ds2 ++ [chr d], by go_num, by omega, by rw [HQW.out], by rw [HQ.out]; exact HRB.out, hown6, hb6, by simpa using ho7, by rw [HQ.out]; exact HD6.out⟩, by simp [intOf]; omega⟩
                  · have hP2 : 2 ≤ P := by
                      rw [HP.out]
                      exact Nat.le_trans hbb (Nat.le_self_pow (by omega) b)
                    have hmm : m' < gk := by
                      rw [HGK.out, ← HMP.out]
                      exact Nat.div_lt_self (Nat.pos_of_ne_zero hm0) hP2
                    have hMe : m' * b ^ (k - kk) + R2 = m' := by
                      rcases Nat.lt_or_ge kk k with h | h
                      · have h2 : R2 = 0 ∧ m' = 0 := by
                          refine ⟨Classical.byContradiction fun h3 => hgo ⟨h, .inl h3⟩, Classical.byContradiction fun h3 => hgo ⟨h, .inr h3⟩⟩
                        rw [h2.1, h2.2]; simp
                      · rw [show k - kk = 0 from by omega] at hR2 ⊢
                        simp at hR2
                        rw [hR2]; simp
                    have hd6 := HD5.out
                    rw [hMe] at hd6
                    have HD6 := hid hd6
                    have HMM := hid hmm
                    clear hMe hd6 hmm hP2
                    have hw : k ≤ kk ∨ (kk < k ∧ R2 = 0 ∧ (toL m').length ≤ 0) := by
                      rcases Nat.lt_or_ge kk k with h | h
                      · right
                        refine ⟨h, Classical.byContradiction fun h3 => hgo ⟨h, .inl h3⟩, ?_⟩
                        have : m' = 0 := Classical.byContradiction fun h3 => hgo ⟨h, .inr h3⟩
                        rw [this, toL_zero]; simp
                      · exact .inl h
                    clear hgo
                    rcases hw with hw | ⟨hw1, rfl, hw2⟩
                    all_goals
                      go_wp2
                      go_roundg m'
                      case measure => exact HMM.out
                      case rel => exact ⟨m', 0, ds2, rfl, hown5, hbel5, hml2, hod5, HD6.out, rfl⟩
              | succ j =>
                obtain ⟨x, hx⟩ : ∃ x, ys.getD j 0 = x := ⟨_, rfl⟩
                have hx32 : x < 4294967296 := by rw [← hx]; exact getD_lt ys HML.out j
                obtain ⟨c1, c2⟩ := own_u32 hown' j (by omega)
                rw [HC0.out j (by omega), hx] at c1
                have HX := hid hx
                have HLC := hid hlc
                clear hx hlc
                have hpos : ((P : Int) == 0) = false := by rw [beq_eq_false_iff_ne]; omega
                have hne : (P : Int) ≠ 0 := by omega
                have f1 : (j : Int) < (ys.length : Int) := by omega
                obtain ⟨T, hT⟩ : ∃ T, R * 4294967296 + x = T := ⟨_, rfl⟩
                have hor := or_add R x (by omega) hx32
                rw [hT] at hor
                have hTq : T / P < 4294967296 := by
                  have : (R + 1) * 4294967296 ≤ P * 4294967296 := Nat.mul_le_mul_right _ hR
                  exact Nat.div_lt_of_lt_mul (by omega)
                obtain ⟨e1, e2⟩ := quo_rem T P hTq
                have HOR := hid hor
                have E1 := hid e1
                have E2 := hid e2
                have HT := hid hT
                clear hor e1 e2 hT
                go_wp2
                rw [HOR.out, E1.out, E2.out]
                have hs := own_set hown' j (T / P)
                have hoo : u7.ownBlock ≠ some g' := own_other hown' hod' (by decide)
                refine ⟨⟨j, T % P, _, by go_num, rfl, by omega, Nat.mod_lt _ hP1, hs.1, hbel'.setCell (by exact (hown'.lt g' rfl).1) _, set_lt _ _ _ HCL.out hTq, ?_, ?_, own_setOther hod' _ _ (by exact hoo)⟩, by simp [intOf]⟩
                · intro i hi
                  rw [List.getD_eq_getElem?_getD, List.getElem?_set_ne (by omega), ← List.getD_eq_getElem?_getD]
                  exact HC0.out i (by omega)
                · rw [natOf_set_drop _ _ _ (by rw [HLC.out]; omega), natOf_drop ys j, HX.out, ← HV.out, Nat.add_mul, Nat.mul_add, Nat.mul_assoc]
                  have := Nat.div_add_mod T P
                  rw [Nat.mul_comm] at this
                  have hT := HT.out
                  generalize natOf (cur.drop (j + 1)) * P = t at *
                  generalize T / P * P = z at *
                  omega
end Go.Proofs.YtoijfckollafhaaGreat

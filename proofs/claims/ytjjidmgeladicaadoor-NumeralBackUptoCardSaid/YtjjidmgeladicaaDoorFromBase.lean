/- numeral.FromBase: what a text says in a base. -/
import Derived.Test.YtjjidmgeladicaaDoorRefTxt
namespace Go.Proofs.YtjjidmgeladicaaDoor
open Go.RowKit

/-- the digits' runes of a text -/
def body (L : List Nat) : List Nat := if negative L then L.tail else L

theorem negative_append (pre l : List Nat) (h : pre ≠ []) : negative (pre ++ l) = negative pre := by
  cases pre with
  | nil => exact absurd rfl h
  | cons x xs => rfl

theorem body_append (pre l : List Nat) (h : pre ≠ []) : body (pre ++ l) = body pre ++ l := by
  unfold body
  rw [negative_append pre l h]
  cases pre with
  | nil => exact absurd rfl h
  | cons x xs => split <;> simp

theorem body_one (r : Nat) : body [r] = if isMinus r then [] else [r] := by
  unfold body negative
  split <;> simp_all

theorem allOk_append (b : Nat) (a c : List Nat) : AllOk b (a ++ c) ↔ AllOk b a ∧ AllOk b c := by
  simp only [AllOk, List.mem_append]
  constructor
  · intro h
    exact ⟨fun r hr => h r (.inl hr), fun r hr => h r (.inr hr)⟩
  · rintro ⟨h1, h2⟩ r (hr | hr)
    · exact h1 r hr
    · exact h2 r hr

theorem allOk_one (b r : Nat) : AllOk b [r] ↔ worth r < b := by simp [AllOk]

theorem elemU32 : Elem Tryd.prog 37 96 (.int .u32 0) 1 4 :=
  ⟨Tryd.underlying37, by kernel_rfl, rfl, by decide⟩

theorem ofOwn_mono {B : Nat} {w : World} {v : Value} {n : Nat} {xs : List Nat} (h : w.ownsRow B 96 1 v n (u32s xs)) (hx : ∀ x, x ∈ xs → x < 4294967296) : Limbs B w.heap.size w v xs := Limbs.ofOwn h hx

theorem iterAt_box {w : World} {g : Nat} {T : TypeId} {cs : List Value} (h : BoxIs w g T cs) {k : Nat} {s : ByteArray} {pos : Nat} (hk : w.heap[k]? = some (.stringIter s pos)) (pos' : Nat) : BoxIs (w.iterAt k s pos') g T cs := by
  refine h.keep (Lib.iterAt_other w k g s pos' ?_)
  intro e
  subst e
  unfold BoxIs at h
  rw [hk] at h
  cases h

theorem kindOf_minus (r : Nat) : (kindOf r = 2) ↔ isMinus r = true := by
  unfold kindOf
  constructor
  · intro h
    cases hm : isMinus r
    · rw [hm] at h
      repeat' split at h
      all_goals simp_all
    · rfl
  · intro h; rw [if_pos h]

set_option maxHeartbeats 3200000 in
theorem fromBase_any (s : ByteArray) (b : Nat) (w : World) (hs : s.size ≤ 1000000000) (hbb : 2 ≤ b) (hb36 : b ≤ 36) :
    Calls Tryd.prog 26 #[.string s, .int .i64 (b : Nat)] w fun e w' => Below w.heap.size w w' ∧ IntSays w w' e (parseB b (runesOf s)) := by
  obtain ⟨hb0, b0, hsz⟩ := boxA w #[.bool false, .slice none 0 0] 40
  have hrl := runesAt_lt s 0
  have hlen := runesAt_len s 0
  obtain ⟨L, hL⟩ : ∃ L, runesOf s = L := ⟨_, rfl⟩
  have hL' : runesAt s 0 = L := hL
  rw [hL'] at hrl hlen
  have hll : L.length ≤ 1000000000 := by omega
  have HRL := hid hrl
  have HL := hid hL'
  rw [hL]
  clear hrl hlen hL hL'
  go_enter Tryd.func26, Tryd.ntmps26
  go_wp2
  revert hb0 b0 hsz
  generalize w.alloc (.cells #[.bool false, .slice none 0 0] 40) = W0
  intro hb0 b0 hsz
  have hk0 := World.iter_heap W0 s 0
  have ho0 : (W0.iter s 0).ownsRow W0.heap.size 96 1 (.slice none 0 0) 0 (u32s []) := World.ownsRow_nil _ _ _ _
  have hbel0 : Below W0.heap.size W0 (W0.iter s 0) := (Below.refl _ _).alloc (Nat.le_refl _) _
  rw [← hsz]
  obtain ⟨kb, hkk⟩ : ∃ kb, W0.heap.size = kb := ⟨_, rfl⟩
  obtain ⟨w2, hww⟩ : ∃ w2, W0.iter s 0 = w2 := ⟨_, rfl⟩
  rw [hww] at hk0 ho0 hbel0 ⊢
  rw [hkk] at hk0 ho0 hbel0 ⊢
  have HKK := hid hkk
  have HWW := hid hww
  have HSZ := hid hsz
  clear hkk hww hsz
  go_loopg [6, 7] s.size (fun gk lv nv wr => ∃ (pos : Nat) (pre : List Nat), gk = s.size - pos ∧ wr.heap[kb]? = some (.stringIter s pos) ∧
      wr.ownsRow kb 96 1 lv ((body pre).map worth).length (u32s ((body pre).map worth)) ∧ nv = .bool (negative pre) ∧ Below kb W0 wr ∧ L = pre ++ runesAt s pos ∧ pre.length ≤ pos ∧ AllOk b (body pre) ∧ (pos = 0 ↔ pre = []))
  case atStart => exact ⟨0, [], by omega, hk0, ho0, rfl, hbel0, by rw [HL.out]; rfl, Nat.le_refl _, by simp [AllOk, body, negative], by simp⟩
  case round =>
    obtain ⟨pos, pre, hgk, hk, hown, rfl, hbel, hru, hpl, hok, h0⟩ := hrel
    have HRU := hid hru
    have HGK := hid hgk
    have HOK := hid hok
    have H0 := hid h0
    clear hru hgk hok h0 hk0 ho0 hbel0
    by_cases hp : pos < s.size
    · have hnx := fun ty => Lib.run_next_any_at (P := Tryd.prog) wr kb s pos ty hk hp
      have hw := decode_width s pos
      obtain ⟨rn, hrn⟩ : ∃ rn, (Utf8.decode s pos).1 = rn := ⟨_, rfl⟩
      obtain ⟨wd, hwd⟩ : ∃ wd, (Utf8.decode s pos).2 = wd := ⟨_, rfl⟩
      have hst := runesAt_step s pos hp
      rw [hrn, hwd] at hst hnx
      rw [hwd] at hw
      obtain ⟨p2, hp2⟩ : ∃ p2, pos + wd = p2 := ⟨_, rfl⟩
      rw [hp2] at hnx hst
      have hlp : pos < p2 := by omega
      clear hp2
      have hown2 := iterAt_own hown hk (p2)
      have hk2 := Lib.iterAt_heap wr kb s pos (p2) hk
      have hbel2 := Lib.below_iterAt hbel (Nat.le_refl _) s (p2)
      have hkbs : kb ≤ (wr.iterAt kb s p2).heap.size := Nat.le_trans (Nat.le_of_eq HKK.out.symm) hbel2.size
      have hLe : L = pre ++ rn :: runesAt s (p2) := by rw [HRU.out, hst]
      have hrb : rn < 2097152 := HRL.out rn (by rw [hLe]; simp)
      have HLE := hid hLe
      have HK := hid hk2
      have Q1 := hid (what_any rn (wr.iterAt kb s (p2)))
      have Q2 := hid (value_any rn hrb (wr.iterAt kb s (p2)))
      clear hst hrn hwd hk2 hown hk hbel hLe
      have hlt : pre.length + 1 ≤ 1000000000 := by omega
      by_cases h0 : pos = 0
      · subst h0
        have hpre := H0.out.1 rfl
        obtain ⟨z, hz⟩ : ∃ z, isMinus rn = z := ⟨_, rfl⟩
        obtain ⟨kd, hkd⟩ : ∃ kd, kindOf rn = kd := ⟨_, rfl⟩
        have hkz := kindOf_minus rn
        rw [hz, hkd] at hkz
        rw [hkd] at Q1
        cases z
        · have hk2 : kd ≠ 2 := fun h => by have := hkz.1 h; cases this
          have HBODY := hid (show body (pre ++ [rn]) = body pre ++ [rn] by rw [hpre, List.nil_append, body_one, hz]; rfl)
          have HNEG := hid (show negative (pre ++ [rn]) = negative pre by rw [hpre]; exact hz)
          clear hkz hkd hz hpre
          go_wp2_with fail
          refine Q1.out.mono ?_
          rintro e w' ⟨rfl, rfl⟩
          have hlen2 : ((body pre).map worth).length ≤ 1000000000 := by
            have : (body pre).length ≤ pre.length := by unfold body; split <;> simp
            simp; omega
          go_wp2_with fail
          refine Q2.out.mono ?_
          rintro e w' ⟨rfl, rfl⟩
          obtain ⟨d, hd⟩ : ∃ d, worth rn = d := ⟨_, rfl⟩
          rw [hd]
          have hd99 : d ≤ 99 := by
            rcases worth_cases rn with ⟨x, _, _, _, h⟩ | ⟨x, _, _, _, h⟩ | ⟨x, _, _, _, h⟩ | ⟨_, _, _, h⟩ <;> omega
          by_cases hdb : d < b
          · obtain ⟨m, hm⟩ : ∃ m, ((body pre).map worth).length = m := ⟨_, rfl⟩
            rw [hm] at hown2 hlen2
            have HM := hid hm
            have HD := hid hd
            clear hm hd
            go_wp2_with (at_builtin; go_loud (refine wpl_append1 elemU32 rfl _ _ rfl kb m 1 1 _ (u32s ((body pre).map worth)) _ hown2 rfl rfl rfl (by simp [Value.oneCell']) (by omega) (by decide) (by unfold maxLen; omega) hbel2 hkbs ?_))
            intro g6 c6 w6 ho6 hb6 hg6
            have hk6 : w6.heap[kb]? = some (.stringIter s (p2)) := by
              refine grown_iter hg6 ?_ ?_
              · rw [Below.heap_alloc _ _ _ (Array.getElem?_eq_some_iff.1 HK.out).1]; exact HK.out
              · exact own_kind (hown2.alloc _)
            have HK6 := hid hk6
            clear hk6 hg6 hnx hown2 Q1 Q2
            go_wp2
            go_roundg (s.size - (p2))
            case measure => have := HGK.out; omega
            case rel =>
              refine ⟨p2, pre ++ [rn], rfl, HK6.out, ?_, by rw [HNEG.out], hb6, by rw [HLE.out]; simp, by simp; omega, by rw [HBODY.out, allOk_append, allOk_one, HD.out]; exact ⟨HOK.out, hdb⟩, by simp; omega⟩
              have e1 : ((body (pre ++ [rn])).map worth).length = m + 1 := by rw [HBODY.out]; simp; simpa using HM.out
              have e2 : (body (pre ++ [rn])).map worth = (body pre).map worth ++ [d] := by rw [HBODY.out]; simp [HD.out]
              rw [e1, e2]
              simpa [u32s] using ho6
          · have hbad : parseB b L = (false, 0, 20) := by
              refine parse_bad b L (body L) rfl (.inr fun h => ?_)
              have hb2 : body L = body (pre ++ [rn]) ++ runesAt s (p2) := by
                rw [← body_append _ _ (by simp), HLE.out]; simp
              rw [hb2, HBODY.out] at h
              have := h rn (by simp)
              omega
            have HBAD := hid hbad
            obtain ⟨d0, d1, g0, g1⟩ := (b0.below hbel2 (by have := HKK.out; have := HSZ.out; omega)).two
            have hA := hb0.trans (hbel2.mono (by have := HKK.out; have := HSZ.out; omega))
            clear hbad hd hnx hown2 Q1 Q2
            go_wp2
            refine bodyPost_ret (v := .tuple #[.agg #[.bool false, .slice none 0 0], .int .i64 20]) (by simp [results, Tryd.results26, go_sem, d0, d1]) rfl ?_
            rw [HBAD.out]
            exact ⟨(hA.setCell (by simp) _).setCell (by simp) _, _, rfl, by rw [toL_zero]; exact Limbs.nil⟩
        · subst hpre
          obtain rfl := hkz.2 rfl
          have HZ := hid hz
          clear hkz hkd hz Q2
          go_wp2_with fail
          refine Q1.out.mono ?_
          rintro e w' ⟨rfl, rfl⟩
          have hown3 := hown2
          have HO := hid hown2
          have HK' := HK
          clear Q1 hown2 hnx hown3
          go_wp2
          go_roundg (s.size - (p2))
          case measure => have := HGK.out; omega
          case rel =>
            refine ⟨p2, [rn], rfl, HK'.out, ?_, by rw [show negative [rn] = isMinus rn from rfl, HZ.out], hbel2, by rw [HLE.out]; simp, by simp; omega, by rw [body_one, HZ.out]; simp [AllOk], by simp; omega⟩
            rw [body_one, HZ.out]
            exact HO.out
      · have hne : pre ≠ [] := fun h => h0 (H0.out.2 h)
        have HBODY := hid (body_append pre [rn] hne)
        have HNEG := hid (negative_append pre [rn] hne)
        clear hne
        have hlen2 : ((body pre).map worth).length ≤ 1000000000 := by
          have : (body pre).length ≤ pre.length := by unfold body; split <;> simp
          simp; omega
        go_wp2_with fail
        refine Q2.out.mono ?_
        rintro e w' ⟨rfl, rfl⟩
        obtain ⟨d, hd⟩ : ∃ d, worth rn = d := ⟨_, rfl⟩
        rw [hd]
        have hd99 : d ≤ 99 := by
          rcases worth_cases rn with ⟨x, _, _, _, h⟩ | ⟨x, _, _, _, h⟩ | ⟨x, _, _, _, h⟩ | ⟨_, _, _, h⟩ <;> omega
        by_cases hdb : d < b
        · obtain ⟨m, hm⟩ : ∃ m, ((body pre).map worth).length = m := ⟨_, rfl⟩
          rw [hm] at hown2 hlen2
          have HM := hid hm
          have HD := hid hd
          clear hm hd
          go_wp2_with (at_builtin; go_loud (refine wpl_append1 elemU32 rfl _ _ rfl kb m 1 1 _ (u32s ((body pre).map worth)) _ hown2 rfl rfl rfl (by simp [Value.oneCell']) (by omega) (by decide) (by unfold maxLen; omega) hbel2 hkbs ?_))
          intro g6 c6 w6 ho6 hb6 hg6
          have hk6 : w6.heap[kb]? = some (.stringIter s (p2)) := by
            refine grown_iter hg6 ?_ ?_
            · rw [Below.heap_alloc _ _ _ (Array.getElem?_eq_some_iff.1 HK.out).1]; exact HK.out
            · exact own_kind (hown2.alloc _)
          have HK6 := hid hk6
          clear hk6 hg6 hnx hown2 Q1 Q2
          go_wp2
          go_roundg (s.size - (p2))
          case measure => have := HGK.out; omega
          case rel =>
            refine ⟨p2, pre ++ [rn], rfl, HK6.out, ?_, by rw [HNEG.out], hb6, by rw [HLE.out]; simp, by simp; omega, by rw [HBODY.out, allOk_append, allOk_one, HD.out]; exact ⟨HOK.out, hdb⟩, by simp; omega⟩
            have e1 : ((body (pre ++ [rn])).map worth).length = m + 1 := by rw [HBODY.out]; simp; simpa using HM.out
            have e2 : (body (pre ++ [rn])).map worth = (body pre).map worth ++ [d] := by rw [HBODY.out]; simp [HD.out]
            rw [e1, e2]
            simpa [u32s] using ho6
        · have hbad : parseB b L = (false, 0, 20) := by
            refine parse_bad b L (body L) rfl (.inr fun h => ?_)
            have hb2 : body L = body (pre ++ [rn]) ++ runesAt s (p2) := by
              rw [← body_append _ _ (by simp), HLE.out]; simp
            rw [hb2, HBODY.out] at h
            have := h rn (by simp)
            omega
          have HBAD := hid hbad
          obtain ⟨d0, d1, g0, g1⟩ := (b0.below hbel2 (by have := HKK.out; have := HSZ.out; omega)).two
          have hA := hb0.trans (hbel2.mono (by have := HKK.out; have := HSZ.out; omega))
          clear hbad hd hnx hown2 Q1 Q2
          go_wp2
          refine bodyPost_ret (v := .tuple #[.agg #[.bool false, .slice none 0 0], .int .i64 20]) (by simp [results, Tryd.results26, go_sem, d0, d1]) rfl ?_
          rw [HBAD.out]
          exact ⟨(hA.setCell (by simp) _).setCell (by simp) _, _, rfl, by rw [toL_zero]; exact Limbs.nil⟩
    · have hnx := fun ty => Lib.run_next_end_at (P := Tryd.prog) wr kb s pos ty hk hp
      have he := runesAt_end s pos hp
      have hpre : L = pre := by rw [HRU.out, he, List.append_nil]
      subst hpre
      clear he HRU
      obtain ⟨U, hU⟩ : ∃ U, body L = U := ⟨_, rfl⟩
      rw [hU] at hown HOK
      have hUl : U.length ≤ L.length := by rw [← hU]; unfold body; split <;> simp
      have hA := hb0.trans (hbel.mono (by have := HKK.out; have := HSZ.out; omega))
      have bx := b0.below hbel (by have := HKK.out; have := HSZ.out; omega)
      have hdx : ∀ x, x ∈ U.map worth → x < b := by
        intro x hx
        obtain ⟨r, hr, rfl⟩ := List.mem_map.1 hx
        exact HOK.out r hr
      have hds := Limbs.ofOwn hown fun x hx => Nat.lt_trans (hdx x hx) (by omega)
      obtain ⟨ad, cap, hsh⟩ := hds.shape
      have HDX := hid hdx
      have hkw : w.heap.size ≤ kb := by have := HKK.out; have := HSZ.out; omega
      clear hown hbel b0 hb0 hdx
      subst hsh
      obtain ⟨m, hm⟩ : ∃ m, (U.map worth).length = m := ⟨_, rfl⟩
      have hmU : m = U.length := by rw [← hm]; simp
      have hUU : (if negative L then L.tail else L) = U := hU
      by_cases hbad : U = []
      · have HP := hid (parse_bad b L U hUU (.inl hbad))
        obtain ⟨d0, d1, g0, g1⟩ := bx.two
        subst hbad
        simp only [List.length_nil] at hmU
        rw [hm]
        subst hmU
        clear hU hUU hds
        go_wp2
        refine bodyPost_ret (v := .tuple #[.agg #[.bool false, .slice none 0 0], .int .i64 20]) (by simp [results, Tryd.results26, go_sem, d0, d1]) rfl ?_
        rw [HP.out]
        exact ⟨(hA.setCell (by simp) _).setCell (by simp) _, _, rfl, by rw [toL_zero]; exact Limbs.nil⟩
      · have hpos : 0 < m := by rw [hmU]; exact List.length_pos_iff.2 hbad
        rw [hm]
        by_cases hlong : 10000 < m
        · have HP := hid (parse_long b L U hUU hbad HOK.out (by omega))
          obtain ⟨d0, d1, g0, g1⟩ := bx.two
          clear hU hUU hds hmU hm
          go_wp2
          refine bodyPost_ret (v := .tuple #[.agg #[.bool false, .slice none 0 0], .int .i64 4]) (by simp [results, Tryd.results26, go_sem, d0, d1]) rfl ?_
          rw [HP.out]
          exact ⟨(hA.setCell (by simp) _).setCell (by simp) _, _, rfl, by rw [toL_zero]; exact Limbs.nil⟩
        · have HP := hid (parse_ok b L U hUU hbad HOK.out (by omega))
          have q1 := number_any _ _ _ _ b wr hds (by omega) hbb hb36 HDX.out
          rw [hm] at q1
          have Q1 := hid q1
          clear q1 hU hUU hds hmU hm
          go_wp2_with fail
          refine Q1.out.mono ?_
          rintro e w1 ⟨r1, rfl, hr1, hb1⟩
          obtain ⟨N, hN⟩ : ∃ N, ofDigits b (U.map worth) = N := ⟨_, rfl⟩
          rw [hN] at HP hr1
          obtain ⟨d0, d1, g0, g1⟩ := (bx.later hb1).two
          obtain ⟨ad3, cap3, rfl⟩ := hr1.shape
          have hz := toL_len_pos N
          obtain ⟨j, hj⟩ : ∃ j, (toL N).length = j := ⟨_, rfl⟩
          rw [hj] at hz ⊢
          rw [hz] at HP
          have HJ := hid hj
          have hB := hA.trans (hb1.mono hA.size)
          have hsw := hb1.size
          have hr2 := hid hr1
          obtain ⟨z, hzz⟩ : ∃ z, negative L = z := ⟨_, rfl⟩
          rw [hzz] at HP ⊢
          have hgw := bx.lt
          have hk9 := HKK
          clear Q1 hb1 bx hj hz hzz hnx hr1
          have fin : Below w.heap.size w ((w1.setCell ⟨w.heap.size, 0, none⟩ (.bool (z && decide (0 < j)))).setCell ⟨w.heap.size, 1, none⟩ (.slice ad3 j cap3)) ∧ IntSays w ((w1.setCell ⟨w.heap.size, 0, none⟩ (.bool (z && decide (0 < j)))).setCell ⟨w.heap.size, 1, none⟩ (.slice ad3 j cap3)) (.returned (.tuple #[.agg #[.bool (z && decide (0 < j)), .slice ad3 j cap3], .int .i64 0])) (parseB b L) := by
            rw [HP.out]
            refine ⟨(hB.setCell (by simp) _).setCell (by simp) _, _, rfl, ?_⟩
            have h5 := hr2.out
            rw [HJ.out] at h5
            exact ((h5.set _ _ (.inl (by simpa using hgw))).set _ _ (.inl (by simpa using hgw))).wide (by omega) (by simp [World.setCell])
          have FIN := hid fin
          clear fin
          cases z
          · simp only [Bool.false_and] at FIN
            go_wp2
            refine bodyPost_ret (v := .tuple #[.agg #[.bool false, .slice ad3 j cap3], .int .i64 0]) (by simp [results, Tryd.results26, go_sem, d0, d1]) rfl ?_
            exact FIN.out
          · simp only [Bool.true_and] at FIN
            go_wp2
            refine bodyPost_ret (v := .tuple #[.agg #[.bool (decide (0 < j)), .slice ad3 j cap3], .int .i64 0]) (by simp [results, Tryd.results26, go_sem, d0, d1]) rfl ?_
            exact FIN.out

/-- a base that is none -/
theorem fromBase_none (s : ByteArray) (b : Int) (w : World) (hb : b < 2 ∨ 36 < b) :
    Calls Tryd.prog 26 #[.string s, .int .i64 b] w fun e w' => Below w.heap.size w w' ∧ e = .returned (.tuple #[.agg #[.bool false, .slice none 0 0], .int .i64 1]) := by
  obtain ⟨hb0, b0, hsz⟩ := boxA w #[.bool false, .slice none 0 0] 40
  obtain ⟨d0, d1, g0, g1⟩ := b0.two
  go_enter Tryd.func26, Tryd.ntmps26
  rcases hb with hb | hb
  all_goals
    go_wp2
    refine bodyPost_ret (v := .tuple #[.agg #[.bool false, .slice none 0 0], .int .i64 1]) (by simp [results, Tryd.results26, go_sem, d0, d1]) rfl ?_
    exact ⟨hb0, rfl⟩
end Go.Proofs.YtjjidmgeladicaaDoor

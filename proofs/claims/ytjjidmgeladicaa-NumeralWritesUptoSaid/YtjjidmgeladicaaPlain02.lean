/- simileref02.Plain: a text with plain runes. -/
import Derived.Test.YtjjidmgeladicaaSay
import Derived.Laws.Cover4
namespace Go.Proofs.Ytjjidmgeladicaa
open Go.RowKit

theorem utf8_nat (r : Nat) : Utf8.encode (r : Int) = ⟨(Lib.encodeRune (r : Int)).toArray⟩ := by
  unfold Lib.encodeRune
  by_cases h1 : r < 128
  · rw [Lib.encodeRuneZ_one (by omega) (by omega)]
    have hv : Utf8.valid (r : Int) = true := by simp [Utf8.valid]; omega
    unfold Utf8.encode
    simp only [hv, if_true, Int.toNat_natCast]
    rw [if_pos (by omega)]
    simp
  · by_cases h2 : r < 2048
    · rw [Lib.encodeRuneZ_two (by omega) (by omega)]
      have hv : Utf8.valid (r : Int) = true := by simp [Utf8.valid]; omega
      unfold Utf8.encode
      simp only [hv, if_true, Int.toNat_natCast]
      rw [if_neg (by omega), if_pos (by omega)]
      have e1 : (192 + (r : Int) / 64).toNat = 192 + r / 64 := by omega
      have e2 : (128 + (r : Int) % 64).toNat = 128 + r % 64 := by omega
      simp [e1, e2]
    · by_cases hs : 55296 ≤ r ∧ r ≤ 57343 ∨ 1114111 < r
      · have hv : Utf8.valid (r : Int) = false := by
          cases h : Utf8.valid (r : Int)
          · rfl
          · simp [Utf8.valid] at h; omega
        have hz : Lib.encodeRuneZ (r : Int) = [239, 191, 189] := by
          unfold Lib.encodeRuneZ
          rw [if_neg (by omega), if_neg (by omega), if_neg (by omega), if_neg (by omega)]
        rw [hz]
        unfold Utf8.encode
        simp only [hv, Bool.false_eq_true, if_false]
        decide
      · have hv : Utf8.valid (r : Int) = true := by simp [Utf8.valid]; omega
        by_cases h3 : r < 65536
        · rw [Lib.encodeRuneZ_three (by omega)]
          unfold Utf8.encode
          simp only [hv, if_true, Int.toNat_natCast]
          rw [if_neg (by omega), if_neg (by omega), if_pos (by omega)]
          have e1 : (224 + (r : Int) / 4096).toNat = 224 + r / 4096 := by omega
          have e2 : (128 + (r : Int) / 64 % 64).toNat = 128 + r / 64 % 64 := by omega
          have e3 : (128 + (r : Int) % 64).toNat = 128 + r % 64 := by omega
          simp [e1, e2, e3]
        · have hz : Lib.encodeRuneZ (r : Int) = [240 + (r : Int) / 262144, 128 + (r : Int) / 4096 % 64, 128 + (r : Int) / 64 % 64, 128 + (r : Int) % 64] := by
            unfold Lib.encodeRuneZ
            rw [if_neg (by omega), if_neg (by omega), if_neg (by omega), if_pos (by omega)]
          rw [hz]
          unfold Utf8.encode
          simp only [hv, if_true, Int.toNat_natCast]
          rw [if_neg (by omega), if_neg (by omega), if_neg (by omega)]
          have e0 : (240 + (r : Int) / 262144).toNat = 240 + r / 262144 := by omega
          have e1 : (128 + (r : Int) / 4096 % 64).toNat = 128 + r / 4096 % 64 := by omega
          have e2 : (128 + (r : Int) / 64 % 64).toNat = 128 + r / 64 % 64 := by omega
          have e3 : (128 + (r : Int) % 64).toNat = 128 + r % 64 := by omega
          simp [e0, e1, e2, e3]

theorem runesBytes_txt (L : List Nat) : runesBytes (L.map fun (r : Nat) => (r : Int)) = txt L := by
  have h : ∀ (L : List Nat) (a : List UInt8), (L.map fun (r : Nat) => (r : Int)).foldl (fun r n => r ++ Utf8.encode n) ⟨a.toArray⟩ = (⟨(a ++ encB L).toArray⟩ : ByteArray) := by
    intro L
    induction L with
    | nil => intro a; simp [encB]
    | cons r L ih =>
      intro a
      rw [List.map_cons, List.foldl_cons, utf8_nat]
      have e : (⟨a.toArray⟩ : ByteArray) ++ ⟨(Lib.encodeRune (r : Int)).toArray⟩ = ⟨(a ++ Lib.encodeRune (r : Int)).toArray⟩ := by
        apply ByteArray.ext
        simp
      rw [e, ih]
      simp [encB]
  have := h L []
  exact this

theorem runesBytes_nat (w : World) (b off n cap : Nat) (L : List Nat) (hl : n = L.length)
    (hc : ∀ i, i < L.length → w.cell? ⟨b, off + i, none⟩ = some (.int .i32 (L.getD i 0 : Nat))) :
    (convert 70 9 (.slice (some ⟨b, off, none⟩) n cap)).run Try.prog w = .ok (.string (txt L)) w := by
  have h := run_convert_runes (P := Try.prog) w 70 9 21 ⟨b, off, none⟩ n cap (L.map fun (r : Nat) => (r : Int)) (by simp [hl]) Try.underlying70 Try.underlying21 Try.underlying9 (by
    intro j hj
    simp only [List.length_map] at hj
    rw [Addr.add_lit, hc j hj]
    simp [List.getD_eq_getElem?_getD, hj])
  rw [h, hl, List.take_of_length_le (by simp), runesBytes_txt]

set_option maxHeartbeats 1600000 in
theorem plain02_any (s : ByteArray) (w : World) (hs : s.size ≤ 1000000000) :
    Calls Try.prog 18 #[.string s] w fun e w' => Below w.heap.size w w' ∧ e = .returned (.string (txt ((runesOf s).map plainR))) := by
  obtain ⟨L, hL⟩ : ∃ L, runesOf s = L := ⟨_, rfl⟩
  have hL' : runesAt s 0 = L := hL
  have HL := hid hL'
  rw [hL]
  clear hL hL'
  go_enter Try.func18, Try.ntmps18
  go_wp2
  have hk0 := World.iter_heap w s 0
  have ho2 : (w.iter s 0).ownsRow w.heap.size 21 1 (.slice none 0 0) 0 (numsC .i32 []) := World.ownsRow_nil _ _ _ _
  have hb2 : Below w.heap.size w (w.iter s 0) := (Below.refl _ _).alloc (Nat.le_refl _) _
  obtain ⟨kb, hkk⟩ : ∃ kb, w.heap.size = kb := ⟨_, rfl⟩
  obtain ⟨w2, hww⟩ : ∃ w2, w.iter s 0 = w2 := ⟨_, rfl⟩
  rw [hkk] at hk0 ⊢
  rw [hww] at hk0 ho2 hb2 ⊢
  have HKK := hid hkk
  have HWW := hid hww
  have hkb : w.heap.size ≤ kb := by rw [hkk]; exact Nat.le_refl _
  clear hkk hww
  go_loopg [3] s.size (fun gk lv wr => ∃ (pos : Nat) (pre : List Nat), gk = s.size - pos ∧ wr.heap[kb]? = some (.stringIter s pos) ∧
      wr.ownsRow w.heap.size 21 1 lv pre.length (numsC .i32 (pre.map plainR)) ∧ Below w.heap.size w wr ∧ L = pre ++ runesAt s pos ∧ pre.length ≤ pos)
  case atStart => exact ⟨0, [], by omega, hk0, ho2, hb2, by rw [HL.out]; rfl, Nat.le_refl _⟩
  case round =>
    obtain ⟨pos, pre, hgk, hk, hown, hbel, hru, hpl⟩ := hrel
    have HRU := hid hru
    have HGK := hid hgk
    clear hru hgk hk0 ho2 hb2
    by_cases hp : pos < s.size
    · have hnx := fun ty => Lib.run_next_any_at (P := Try.prog) wr kb s pos ty hk hp
      have hw := decode_width s pos
      obtain ⟨rn, hrn⟩ : ∃ rn, (Utf8.decode s pos).1 = rn := ⟨_, rfl⟩
      obtain ⟨wd, hwd⟩ : ∃ wd, (Utf8.decode s pos).2 = wd := ⟨_, rfl⟩
      have hst := runesAt_step s pos hp
      rw [hrn, hwd] at hst hnx
      rw [hwd] at hw
      have hown2 := iterAt_own hown hk (pos + wd)
      have hk2 := Lib.iterAt_heap wr kb s pos (pos + wd) hk
      have hbel2 := Lib.below_iterAt hbel hkb s (pos + wd)
      have HST := hid hst
      have HK := hid hk2
      have hml : pre.length + 1 ≤ 17592186044416 := by omega
      obtain ⟨pr, hpr⟩ : ∃ pr, plainR rn = pr := ⟨_, rfl⟩
      have HPR := hid hpr
      have Q1 := hid fun w => minus_any rn w
      have Q2 := hid fun w => bar_any rn w
      have Q3 := hid fun w => gap_any rn w
      unfold plainR at hpr
      clear hst hrn hwd hk2 hown hk hbel
      go_upto_block 2 with (fail)
      go_cut [5] (fun u w' => w' = wr.iterAt kb s (pos + wd) ∧ u = .int .i32 (pr : Nat))
      case first =>
        cases c2 : isMinus rn
        · rw [c2] at Q1 hpr
          cases c3 : isBar rn
          · rw [c3] at Q2 hpr
            cases c4 : isGap rn
            · rw [c4] at Q3 hpr
              simp only [Bool.false_eq_true, if_false] at hpr
              subst hpr
              clear HPR c2 c3 c4
              go_wp2_with fail
              refine (Q1.out _).mono ?_
              rintro e w' ⟨rfl, rfl⟩
              go_wp2_with fail
              refine (Q2.out _).mono ?_
              rintro e w' ⟨rfl, rfl⟩
              go_wp2_with fail
              refine (Q3.out _).mono ?_
              rintro e w' ⟨rfl, rfl⟩
              go_wp2
              go_meet
              case rel => exact ⟨rfl, rfl⟩
            · rw [c4] at Q3 hpr
              simp only [Bool.false_eq_true, if_false, if_true] at hpr
              subst hpr
              clear HPR c2 c3 c4
              go_wp2_with fail
              refine (Q1.out _).mono ?_
              rintro e w' ⟨rfl, rfl⟩
              go_wp2_with fail
              refine (Q2.out _).mono ?_
              rintro e w' ⟨rfl, rfl⟩
              go_wp2_with fail
              refine (Q3.out _).mono ?_
              rintro e w' ⟨rfl, rfl⟩
              go_wp2
              go_meet
              case rel => exact ⟨rfl, rfl⟩
          · rw [c3] at Q2 hpr
            simp only [Bool.false_eq_true, if_false, if_true] at hpr
            subst hpr
            clear HPR c2 c3
            go_wp2_with fail
            refine (Q1.out _).mono ?_
            rintro e w' ⟨rfl, rfl⟩
            go_wp2_with fail
            refine (Q2.out _).mono ?_
            rintro e w' ⟨rfl, rfl⟩
            go_wp2
            go_meet
            case rel => exact ⟨rfl, rfl⟩
        · rw [c2] at Q1 hpr
          simp only [if_true] at hpr
          subst hpr
          clear HPR c2
          go_wp2_with fail
          refine (Q1.out _).mono ?_
          rintro e w' ⟨rfl, rfl⟩
          go_wp2
          go_meet
          case rel => exact ⟨rfl, rfl⟩
      case rest =>
        obtain ⟨rfl, rfl⟩ := hcut
        clear hpr Q1 Q2 Q3
        go_wp2_with (at_builtin; go_loud (refine wpl_append1 elemRunes rfl _ _ rfl w.heap.size pre.length 1 1 _ (numsC .i32 (pre.map plainR)) _ hown2 rfl rfl rfl (by simp [Value.oneCell']) (by omega) (by decide) (by unfold maxLen; omega) hbel2 hbel2.size ?_))
        intro g6 c6 w6 ho6 hb6 hg6
        have hk6 : w6.heap[kb]? = some (.stringIter s (pos + wd)) := by
          refine grown_iter hg6 ?_ ?_
          · rw [Below.heap_alloc _ _ _ (Array.getElem?_eq_some_iff.1 HK.out).1]; exact HK.out
          · exact own_kind (hown2.alloc _)
        have HK6 := hid hk6
        clear hk6 hg6 hnx hown2
        go_wp2
        go_roundg (s.size - (pos + wd))
        case measure => have := HGK.out; omega
        case rel =>
          refine ⟨pos + wd, pre ++ [rn], rfl, HK6.out, ?_, hb6, by rw [HRU.out, HST.out]; simp, by simp; omega⟩
          simpa [numsC, HPR.out] using ho6
    · have hnx := fun ty => Lib.run_next_end_at (P := Try.prog) wr kb s pos ty hk hp
      have he := runesAt_end s pos hp
      have hpre : L = pre := by rw [HRU.out, he, List.append_nil]
      subst hpre
      clear he HRU
      obtain ⟨ad, cap, hsh, _, hcell⟩ := (Nums.ofOwn hown).open
      rw [List.length_map] at hsh
      subst hsh
      by_cases h0 : L = []
      · subst h0
        have hz : (.slice ad ([] : List Nat).length cap : Value) = .slice none 0 0 ∨ ∃ a, ad = some a := by
          cases ad with
          | none =>
            left
            rcases hown.2 with ⟨h1, _⟩ | ⟨g, c, cur, h1, _⟩
            · exact h1
            · simp at h1
          | some a => exact .inr ⟨a, rfl⟩
        rcases hz with hz | ⟨a, rfl⟩
        · simp only [List.length_nil, Value.slice.injEq] at hz
          obtain ⟨rfl, _, rfl⟩ := hz
          have hcv := run_convert_runes_nil (P := Try.prog) wr 70 9 21 0 0 Try.underlying70 Try.underlying21 Try.underlying9
          go_wp2
          go_ret
          exact ⟨hbel, rfl⟩
        · have hcv := run_convert_runes (P := Try.prog) wr 70 9 21 a 0 cap [] (by simp) Try.underlying70 Try.underlying21 Try.underlying9 (by intro j hj; simp at hj)
          go_wp2
          go_ret
          exact ⟨hbel, rfl⟩
      · have hpos : 0 < (L.map plainR).length := by rw [List.length_map]; exact List.length_pos_iff.2 h0
        obtain ⟨bb, off, rfl, _, _, _⟩ := hcell 0 hpos
        have hcv := runesBytes_nat wr bb off L.length cap (L.map plainR) (by simp) (by
          intro i hi
          obtain ⟨b', o', he, _, _, hc⟩ := hcell i hi
          simp only [Option.some.injEq, Addr.mk.injEq, and_true] at he
          obtain ⟨rfl, rfl⟩ := he
          exact hc)
        clear hcell hown
        go_wp2
        go_ret
        exact ⟨hbel, rfl⟩
end Go.Proofs.Ytjjidmgeladicaa

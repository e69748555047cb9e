/- simileref02's value, all, signed, FromBase, Int: what texts say. -/
import Derived.Test.YtjjidmgeladicaaDoorRunes
import Derived.Test.YtjjidmgeladicaaDoorNum1
import Derived.Deep.DeepCutAuto
import Derived.Deep.CutBlock
namespace Go.Proofs.YtjjidmgeladicaaDoor
open Go.RowKit

theorem worth_cases (r : Nat) : (∃ d, r = d + 48 ∧ 0 ≤ d ∧ d < 10 ∧ worth r = d) ∨ (∃ d, r = d + 87 ∧ 10 ≤ d ∧ d < 36 ∧ worth r = d) ∨ (∃ d, r = d + 55 ∧ 10 ≤ d ∧ d < 36 ∧ worth r = d) ∨
    ((r < 48 ∨ 57 < r) ∧ (r < 97 ∨ 122 < r) ∧ (r < 65 ∨ 90 < r) ∧ worth r = 99) := by
  unfold worth isDigit
  simp only [Bool.and_eq_true, decide_eq_true_eq]
  by_cases h1 : 48 ≤ r ∧ r ≤ 57
  · rw [if_pos h1]; exact .inl ⟨r - 48, by omega, by omega, by omega, rfl⟩
  · rw [if_neg h1]
    by_cases h2 : 97 ≤ r ∧ r ≤ 122
    · rw [if_pos h2]; exact .inr (.inl ⟨r - 87, by omega, by omega, by omega, rfl⟩)
    · rw [if_neg h2]
      by_cases h3 : 65 ≤ r ∧ r ≤ 90
      · rw [if_pos h3]; exact .inr (.inr (.inl ⟨r - 55, by omega, by omega, by omega, rfl⟩))
      · rw [if_neg h3]; exact .inr (.inr (.inr ⟨by omega, by omega, by omega, rfl⟩))

theorem foldl_lt (b : Nat) : ∀ (ds : List Nat) (acc : Nat), (∀ d, d ∈ ds → d < b) → ds.foldl (fun n d => n * b + d) acc < (acc + 1) * b ^ ds.length
  | [], acc, _ => by simp
  | d :: ds, acc, h => by
    have ih := foldl_lt b ds (acc * b + d) fun x hx => h x (List.mem_cons_of_mem _ hx)
    have hd := h d (List.mem_cons_self ..)
    simp only [List.foldl_cons, List.length_cons, Nat.pow_succ]
    have h1 : (acc * b + d + 1) * b ^ ds.length ≤ ((acc + 1) * b) * b ^ ds.length := Nat.mul_le_mul_right _ (by rw [Nat.add_mul]; omega)
    rw [Nat.mul_assoc, Nat.mul_comm b] at h1
    exact Nat.lt_of_lt_of_le ih h1

theorem ofDigits_lt (b : Nat) (ds : List Nat) (h : ∀ d, d ∈ ds → d < b) : ofDigits b ds < b ^ ds.length := by
  have := foldl_lt b ds 0 h
  simpa [ofDigits] using this

theorem worth_int (r : Nat) : (48 ≤ r ∧ r ≤ 57 ∧ isDigit r = true ∧ (if worth r = 99 then (-1 : Int) else (worth r : Nat)) = (r : Int) - 48) ∨
    (97 ≤ r ∧ r ≤ 122 ∧ isDigit r = false ∧ (if worth r = 99 then (-1 : Int) else (worth r : Nat)) = (r : Int) - 97 + 10) ∨
    (65 ≤ r ∧ r ≤ 90 ∧ isDigit r = false ∧ (if worth r = 99 then (-1 : Int) else (worth r : Nat)) = (r : Int) - 65 + 10) ∨
    ((r < 48 ∨ 57 < r) ∧ (r < 97 ∨ 122 < r) ∧ (r < 65 ∨ 90 < r) ∧ isDigit r = false ∧ (if worth r = 99 then (-1 : Int) else (worth r : Nat)) = -1) := by
  have hf : ∀ r, (r < 48 ∨ 57 < r) → isDigit r = false := by
    intro r h
    rcases Bool.eq_false_or_eq_true (isDigit r) with h1 | h1
    · simp [isDigit] at h1; omega
    · exact h1
  rcases worth_cases r with ⟨d, rfl, h1, h2, h3⟩ | ⟨d, rfl, h1, h2, h3⟩ | ⟨d, rfl, h1, h2, h3⟩ | ⟨h1, h2, h3, h4⟩
  · exact .inl ⟨by omega, by omega, by simp [isDigit] <;> omega, by rw [h3, if_neg (by omega)]; omega⟩
  · exact .inr (.inl ⟨by omega, by omega, hf _ (by omega), by rw [h3, if_neg (by omega)]; omega⟩)
  · exact .inr (.inr (.inl ⟨by omega, by omega, hf _ (by omega), by rw [h3, if_neg (by omega)]; omega⟩))
  · exact .inr (.inr (.inr ⟨h1, h2, h3, hf _ h1, by rw [h4, if_pos rfl]⟩))

theorem ofDigits_len (b : Nat) (ds : List Nat) (hb : b ≤ 36) (h : ∀ d, d ∈ ds → d < b) : (toL (ofDigits b ds)).length ≤ ds.length := by
  refine toL_len_le _ _ (Nat.lt_of_lt_of_le (ofDigits_lt b ds h) (Nat.pow_le_pow_left (by omega) _))

/-- all of them are digits of the base -/
def AllOk (b : Nat) (L : List Nat) : Prop := ∀ r, r ∈ L → worth r < b

theorem getD_rune (L : List Nat) (k r : Nat) (hk : k < L.length) (h : L.getD k 0 = r) : r ∈ L := by rw [← h]; exact getD_mem L k hk

set_option maxHeartbeats 1600000 in
theorem value02_any (lo h1 : Nat) (v : Value) (L : List Nat) (b : Nat) (w : World) (h : Nums .i32 lo h1 w v L) (hl : L.length ≤ 1000000000) (hrl : ∀ r, r ∈ L → r < 2097152) (hbb : 2 ≤ b) (hb36 : b ≤ 36) :
    Calls Tryd.prog 82 #[v, .int .i64 (b : Nat)] w fun e w' => Below w.heap.size w w' ∧
      ((AllOk b L ∧ ∃ q, e = .returned (.tuple #[q, .bool (decide (0 < L.length))]) ∧ Limbs w.heap.size w'.heap.size w' q (toL (ofDigits b (L.map worth)))) ∨
       (¬ AllOk b L ∧ e = .returned (.tuple #[.slice none 0 0, .bool false]))) := by
  obtain ⟨ad, cap, rfl, hc, hcell⟩ := h.open
  have HC := hid hcell
  have HRL := hid hrl
  clear hcell h hrl
  go_enter Tryd.func82, Tryd.ntmps82
  go_wp2
  go_loopg [6, 12] L.length (fun gk nv t wr => ∃ k : Nat, gk = L.length - k ∧ t = .int .i64 k ∧ k ≤ L.length ∧ Below w.heap.size w wr ∧ (∀ r, r ∈ L.take k → worth r < b) ∧ Limbs w.heap.size wr.heap.size wr nv (toL (ofDigits b ((L.take k).map worth))))
  case atStart => exact ⟨0, rfl, rfl, Nat.zero_le _, Below.refl _ _, by simp, by simp [ofDigits, toL_zero, Limbs.nil]⟩
  case round =>
    obtain ⟨k, hgk, rfl, hk, hbel, hok, hL⟩ := hrel
    have HOK := hid hok
    have HGK := hid hgk
    clear hok hgk
    by_cases hkl : k < L.length
    · obtain ⟨bb, off, rfl, _, _, hc1⟩ := HC.out k hkl
      obtain ⟨r, hr⟩ : ∃ r, L.getD k 0 = r := ⟨_, rfl⟩
      rw [hr] at hc1
      have hrb := HRL.out r (getD_rune L k r hkl hr)
      have hcr := cellB hbel hc1 (Nat.le_refl _)
      have HR := hid hr
      have f1 : (k : Int) < (L.length : Int) := by omega
      have hdl : (toL (ofDigits b ((L.take k).map worth))).length ≤ 1000000000 := by
        refine Nat.le_trans (ofDigits_len b _ hb36 ?_) (by simp; omega)
        intro d hd
        obtain ⟨r', hr', rfl⟩ := List.mem_map.1 hd
        exact HOK.out r' hr'
      have hdig := digit_any r wr
      obtain ⟨N, hN⟩ : ∃ N, ofDigits b ((L.take k).map worth) = N := ⟨_, rfl⟩
      rw [hN] at hL hdl
      have HN := hid hN
      have HDIG := hid hdig
      clear hc1 hr hN hdig
      -- a step that adds a digit d
      have hadd : ∀ d, d < b → worth r = d → natOf (toL N) * natOf (toL b) + natOf (toL d) = ofDigits b ((L.take (k + 1)).map worth) ∧ (∀ r, r ∈ L.take (k + 1) → worth r < b) := by
        intro d hd hw
        refine ⟨?_, ?_⟩
        · rw [natOf_toL, natOf_toL, natOf_toL, take_snoc L 0 k hkl, List.map_append, List.map_cons, List.map_nil, ofDigits_snoc, HN.out, HR.out, hw]
        · intro r' hr'
          rw [take_snoc L 0 k hkl, List.mem_append] at hr'
          rcases hr' with h | h
          · exact HOK.out r' h
          · simp only [List.mem_singleton] at h
            rw [h, HR.out, hw]; exact hd
      have hbad : b ≤ worth r → ¬ AllOk b L := by
        intro hb h
        have := h r (getD_rune L k r hkl HR.out)
        omega
      have HADD := hid hadd
      have HBAD := hid hbad
      clear hadd hbad
      go_upto_block 2 with (fail)
      go_cut [9] (fun dv w' => w' = wr ∧ dv = .int .i64 (if worth r = 99 then -1 else (worth r : Nat)))
      case first =>
        rcases worth_int r with ⟨hn1, hn2, hdg, hwi⟩ | ⟨hn1, hn2, hdg, hwi⟩ | ⟨hn1, hn2, hdg, hwi⟩ | ⟨hn1, hn2, hn3, hdg, hwi⟩
        case inr.inr.inr =>
          rw [hdg] at HDIG
          have HWI := hid hwi
          clear hdg hwi HADD HBAD
          go_wp2_with fail
          refine HDIG.out.mono ?_
          rintro e w' ⟨rfl, rfl⟩
          rcases hn2 with hn2 | hn2 <;> rcases hn3 with hn3 | hn3
          all_goals first
            | (exfalso; omega)
            | (go_wp2
               go_meet
               case rel => exact ⟨rfl, by rw [HWI.out]⟩)
        all_goals
          rw [hdg] at HDIG
          have HWI := hid hwi
          clear hdg hwi HADD HBAD
          go_wp2_with fail
          refine HDIG.out.mono ?_
          rintro e w' ⟨rfl, rfl⟩
          go_wp2
          go_meet
          case rel => exact ⟨rfl, by rw [HWI.out]⟩
      case rest =>
        obtain ⟨rfl, hdv⟩ := hcut
        obtain ⟨d, hd⟩ : ∃ d, worth r = d := ⟨_, rfl⟩
        rw [hd] at hdv
        by_cases hdb : d < b
        · obtain ⟨hval, hok2⟩ := HADD.out d hdb hd
          rw [if_neg (by omega)] at hdv
          subst hdv
          have HVAL := hid hval
          have HOK2 := hid hok2
          have hq1 := hid (of01_any b wc (by omega))
          clear hval hok2 hd HADD HBAD
          go_wp2_with fail
          refine hq1.out.mono ?_
          rintro e w1 ⟨r1, rfl, hr1, hb1⟩
          have q2 := mul01_any _ _ _ _ _ _ _ _ w1 (hL.below hb1 (Nat.le_refl _)) hr1 (Nat.le_refl _) (by omega) (Nat.le_trans (toL_len_le b 1 (by omega)) (by omega))
          have Q2 := hid q2
          clear q2
          go_wp2_with fail
          refine Q2.out.mono ?_
          rintro e w2 ⟨r2, rfl, hr2, hb2⟩
          have Q3 := hid (of01_any d w2 (by omega))
          go_wp2_with fail
          refine Q3.out.mono ?_
          rintro e w3 ⟨r3, rfl, hr3, hb3⟩
          have hml : (toL (natOf (toL N) * natOf (toL b))).length ≤ 17592186044416 := by
            rw [natOf_toL, natOf_toL]
            refine Nat.le_trans (toL_len_le _ ((toL N).length + 1) ?_) (by omega)
            rw [Nat.pow_succ]
            have h1 := natOf_lt (toL N) (toL_lt N)
            rw [natOf_toL] at h1
            exact Nat.mul_lt_mul'' h1 (by omega)
          have q4 := add01_any _ _ _ _ _ _ _ _ w3 (hr2.below hb3 (Nat.le_refl _)) hr3 hb3.size (Nat.le_refl _) hml (Nat.le_trans (toL_len_le d 1 (by omega)) (by omega))
          rw [natOf_toL (natOf (toL N) * natOf (toL b)), HVAL.out] at q4
          have Q4 := hid q4
          clear q4 hml
          go_wp2_with fail
          refine Q4.out.mono ?_
          rintro e w4 ⟨r4, rfl, hr4, hb4⟩
          have hA := hb1.trans ((hb2.mono hb1.size).trans ((hb3.mono (Nat.le_trans hb1.size hb2.size)).trans (hb4.mono (Nat.le_trans hb1.size (Nat.le_trans hb2.size hb3.size)))))
          have hA2 := hbel.trans (hA.mono hbel.size)
          have hsz := Nat.le_trans hbel.size (Nat.le_trans hb1.size (Nat.le_trans hb2.size hb3.size))
          go_wp2
          go_roundg (L.length - (k + 1))
          case measure => have := HGK.out; omega
          case rel => exact ⟨k + 1, rfl, by go_num, by omega, hA2, HOK2.out, hr4.wide hsz (Nat.le_refl _)⟩
        · have HB := hid (HBAD.out (by omega))
          by_cases h99 : d = 99
          · rw [if_pos h99] at hdv
            subst hdv
            clear hd HADD HBAD
            go_wp2
            go_ret2
            exact ⟨hbel, .inr ⟨HB.out, rfl⟩⟩
          · rw [if_neg h99] at hdv
            subst hdv
            clear hd HADD HBAD
            go_wp2
            go_ret2
            exact ⟨hbel, .inr ⟨HB.out, rfl⟩⟩
    · obtain rfl : k = L.length := by omega
      rw [List.take_length] at HOK hL
      go_wp2
      go_ret2
      exact ⟨hbel, .inl ⟨HOK.out, _, rfl, hL⟩⟩

set_option maxHeartbeats 1600000 in
theorem all02_any (lo h1 : Nat) (v : Value) (L : List Nat) (b : Nat) (w : World) (h : Nums .i32 lo h1 w v L) (hl : L.length ≤ 1000000000) (hrl : ∀ r, r ∈ L → r < 2097152) (hbb : 2 ≤ b) (hb36 : b ≤ 36) :
    Calls Tryd.prog 81 #[v, .int .i64 (b : Nat)] w fun e w' => Below w.heap.size w w' ∧ ((AllOk b L ∧ e = .returned (.bool (decide (0 < L.length)))) ∨ (¬ AllOk b L ∧ e = .returned (.bool false))) := by
  obtain ⟨ad, cap, rfl, hc, hcell⟩ := h.open
  have HC := hid hcell
  have HRL := hid hrl
  clear hcell h hrl
  go_enter Tryd.func81, Tryd.ntmps81
  go_wp2
  go_loopw [11] (fun t wr => ∃ k : Nat, t = .int .i64 k ∧ k ≤ L.length ∧ Below w.heap.size w wr ∧ (∀ r, r ∈ L.take k → worth r < b)) (fun t _ => L.length - (intOf t).toNat)
  case atStart => exact ⟨0, rfl, Nat.zero_le _, Below.refl _ _, by simp⟩
  case round =>
    obtain ⟨k, rfl, hk, hbel, hok⟩ := hrel
    have HOK := hid hok
    clear hok
    by_cases hkl : k < L.length
    · obtain ⟨bb, off, rfl, _, _, hc1⟩ := HC.out k hkl
      obtain ⟨r, hr⟩ : ∃ r, L.getD k 0 = r := ⟨_, rfl⟩
      rw [hr] at hc1
      have hrb := HRL.out r (getD_rune L k r hkl hr)
      have hcr := cellB hbel hc1 (Nat.le_refl _)
      have HR := hid hr
      have f1 : (k : Int) < (L.length : Int) := by omega
      have hown : (wr.alloc (.cells #[.int .i32 (r : Nat)] 21)).ownsRow wr.heap.size 21 1 (.slice (some ⟨wr.heap.size, 0, none⟩) 1 1) 1 (numsC .i32 [r]) :=
        World.ownsRow_lit wr _ 1 (Nat.le_refl _) (by decide) rfl
      have hb1 : Below w.heap.size w (wr.alloc (.cells #[.int .i32 (r : Nat)] 21)) := hbel.alloc hbel.size _
      have q1 := value02_any _ _ _ [r] b _ (Nums.ofOwn hown) (by simp) (by intro x hx; simp at hx; rw [hx]; exact hrb) hbb hb36
      have Q1 := hid q1
      clear hc1 hr q1 hown
      go_wp2_with fail
      refine Q1.out.mono ?_
      rintro e w2 ⟨hb2, hq⟩
      have hbel2 := hb1.trans (hb2.mono hb1.size)
      rcases hq with ⟨hq1, q, rfl, hq2⟩ | ⟨hq1, rfl⟩
      · have h1 : worth r < b := hq1 r (by simp)
        have hok2 : ∀ r, r ∈ L.take (k + 1) → worth r < b := by
          intro r' hr'
          rw [take_snoc L 0 k hkl, List.mem_append] at hr'
          rcases hr' with h | h
          · exact HOK.out r' h
          · simp only [List.mem_singleton] at h
            rw [h, HR.out]; exact h1
        have HOK2 := hid hok2
        clear hok2 hq1 hq2 hb2 Q1
        go_wp2
        exact ⟨⟨k + 1, by go_num, by omega, hbel2, HOK2.out⟩, by simp [intOf]; omega⟩
      · have hbad : ¬ AllOk b L := by
          intro h
          refine hq1 ?_
          intro x hx
          simp at hx
          rw [hx]
          exact h r (getD_rune L k r hkl HR.out)
        have HBAD := hid hbad
        clear hbad hq1 hb2 Q1
        go_wp2
        go_ret
        exact ⟨hbel2, .inr ⟨HBAD.out, rfl⟩⟩
    · obtain rfl : k = L.length := by omega
      rw [List.take_length] at HOK
      go_wp2
      go_ret
      exact ⟨hbel, .inl ⟨HOK.out, by simp⟩⟩

/-- is there a minus ahead? -/
def negative (L : List Nat) : Bool := match L with | [] => false | r :: _ => isMinus r

set_option maxHeartbeats 400000 in
theorem signed02_any (lo h1 : Nat) (v : Value) (L : List Nat) (w : World) (h : Nums .i32 lo h1 w v L) (hl : L.length ≤ 1000000000) :
    Calls Tryd.prog 80 #[v] w fun e w' => w = w' ∧ ∃ r, e = .returned (.tuple #[r, .bool (negative L)]) ∧ Nums .i32 lo h1 w r (if negative L then L.tail else L) := by
  have h0 := h
  cases L with
  | nil =>
    obtain ⟨ad, cap, rfl, hc, hcell⟩ := h.open
    clear hcell
    go_enter Tryd.func80, Tryd.ntmps80
    go_wp2
    go_ret2
    exact ⟨rfl, _, rfl, h0⟩
  | cons r L =>
    obtain ⟨ad, cap, rfl, hc, hcell⟩ := h.open
    obtain ⟨b, off, rfl, _, _, hc0⟩ := hcell 0 (by simp)
    simp only [List.getD_cons_zero, Nat.add_zero] at hc0
    have q1 := minus_any r w
    have Q1 := hid q1
    have ht := h0.tail
    have hn : negative (r :: L) = isMinus r := rfl
    rw [hn]
    clear hcell q1 hn
    obtain ⟨z, hz⟩ : ∃ z, isMinus r = z := ⟨_, rfl⟩
    rw [hz] at Q1 ⊢
    clear hz
    simp only [List.length_cons] at hc hl
    go_enter Tryd.func80, Tryd.ntmps80
    go_wp2_with fail
    refine Q1.out.mono ?_
    rintro e w' ⟨rfl, rfl⟩
    cases z
    · go_wp2
      go_ret2
      exact ⟨rfl, _, rfl, h0⟩
    · by_cases hc1 : cap = 1
      · rw [if_pos hc1] at ht
        subst hc1
        obtain rfl : L = [] := List.eq_nil_of_length_eq_zero (by omega)
        go_wp2
        go_ret2
        exact ⟨rfl, _, rfl, ht⟩
      · rw [if_neg hc1] at ht
        go_wp2
        go_ret2
        exact ⟨rfl, _, rfl, ht⟩

/-- what a text's runes say in a base: the sign, the number, the error -/
def parseB (b : Nat) (L : List Nat) : Bool × Nat × Nat :=
  let U := if negative L then L.tail else L
  if U.isEmpty || !(U.all fun r => decide (worth r < b)) then (false, 0, 20)
  else if 10000 < U.length then (false, 0, 4)
  else (negative L && decide (ofDigits b (U.map worth) ≠ 0), ofDigits b (U.map worth), 0)

theorem allOk_iff (b : Nat) (L : List Nat) : AllOk b L ↔ L.all (fun r => decide (worth r < b)) = true := by
  simp [AllOk]

theorem parse_bad (b : Nat) (L U : List Nat) (hU : (if negative L then L.tail else L) = U) (h : U = [] ∨ ¬ AllOk b U) : parseB b L = (false, 0, 20) := by
  unfold parseB
  rw [hU]
  dsimp only
  rw [if_pos]
  rcases h with h | h
  · simp [h]
  · rw [allOk_iff] at h
    simp only [Bool.or_eq_true, Bool.not_eq_true', Bool.not_eq_true] at h ⊢
    exact .inr h

theorem parse_long (b : Nat) (L U : List Nat) (hU : (if negative L then L.tail else L) = U) (h : U ≠ []) (h2 : AllOk b U) (h3 : 10000 < U.length) : parseB b L = (false, 0, 4) := by
  unfold parseB
  rw [hU]
  dsimp only
  rw [if_neg, if_pos h3]
  rw [allOk_iff] at h2
  simp [h, h2]

theorem parse_ok (b : Nat) (L U : List Nat) (hU : (if negative L then L.tail else L) = U) (h : U ≠ []) (h2 : AllOk b U) (h3 : ¬ 10000 < U.length) :
    parseB b L = (negative L && decide (ofDigits b (U.map worth) ≠ 0), ofDigits b (U.map worth), 0) := by
  unfold parseB
  rw [hU]
  dsimp only
  rw [if_neg, if_neg h3]
  rw [allOk_iff] at h2
  simp [h, h2]

/-- an integer's value: its sign, its limbs, the error -/
def IntSays (w w' : World) (e : Ending) (x : Bool × Nat × Nat) : Prop :=
  ∃ q, e = .returned (.tuple #[.agg #[.bool x.1, q], .int .i64 (x.2.2 : Nat)]) ∧ Limbs w.heap.size w'.heap.size w' q (toL x.2.1)

end Go.Proofs.YtjjidmgeladicaaDoor

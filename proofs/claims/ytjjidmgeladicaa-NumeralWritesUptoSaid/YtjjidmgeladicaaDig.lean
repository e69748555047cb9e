/- the digits of a number in a base, as text: plain; and simileref02.Digits. -/
import Derived.Test.YtjjidmgeladicaaRef6
import Derived.Deep.LoopGhost
namespace Go.Proofs.Ytjjidmgeladicaa
open Go.RowKit

/-- a text of bytes -/
def strOf (l : List UInt8) : ByteArray := ⟨l.toArray⟩

/-- a number's digits in a base, none of 0 -/
def dig0 (b n : Nat) : List Nat := if _h : n = 0 ∨ b < 2 then [] else dig0 b (n / b) ++ [n % b]
  termination_by n
  decreasing_by
  have : n ≠ 0 ∧ ¬ b < 2 := by omega
  exact Nat.div_lt_self (Nat.pos_of_ne_zero this.1) (by omega)

theorem dig0_zero (b : Nat) : dig0 b 0 = [] := by rw [dig0]; simp
theorem dig0_pos (b n : Nat) (hb : 2 ≤ b) (h : n ≠ 0) : dig0 b n = dig0 b (n / b) ++ [n % b] := by
  rw [dig0]; simp [h, show ¬ b < 2 by omega]

/-- a digit's letter -/
def chr (d : Nat) : UInt8 := if d < 10 then UInt8.ofNat (48 + d) else UInt8.ofNat (87 + d)

/-- a number's text in a base -/
def digS (b n : Nat) : List UInt8 := if n = 0 then [48] else (dig0 b n).map chr

def abc : List UInt8 := [48, 49, 50, 51, 52, 53, 54, 55, 56, 57, 97, 98, 99, 100, 101, 102, 103, 104, 105, 106, 107, 108, 109, 110, 111, 112, 113, 114, 115, 116, 117, 118, 119, 120, 121, 122]

theorem abc_chr : ∀ d, d < 36 → (strOf abc).extract d (d + 1) = strOf [chr d] := by decide

theorem strOf_toList (l : List UInt8) : (strOf l).toList = l := by rw [ByteArray.toList_eq]; rfl
theorem strOf_size (l : List UInt8) : (strOf l).size = l.length := rfl
theorem strOf_append (a b : List UInt8) : strOf a ++ strOf b = strOf (a ++ b) := by
  apply ByteArray.ext
  simp [strOf]

theorem toL_small (n : Nat) (h : n ≠ 0) (h2 : n < 4294967296) : toL n = [n] := by
  rw [toL_pos h, show n / 4294967296 = 0 from by omega, toL_zero, Nat.mod_eq_of_lt h2]

theorem digS_step (b m N : Nat) (ds : List UInt8) (hb : 2 ≤ b) (h1 : ds = [] → m = N) (h2 : ds ≠ [] → digS b N = (dig0 b m).map chr ++ ds) (h : ¬(m = 0 ∧ ds ≠ [])) :
    digS b N = (dig0 b (m / b)).map chr ++ (chr (m % b) :: ds) := by
  by_cases hm : m = 0
  · have hds : ds = [] := by
      rcases Classical.em (ds = []) with h0 | h0
      · exact h0
      · exact absurd ⟨hm, h0⟩ h
    subst hds
    have := h1 rfl
    subst this
    subst hm
    simp [digS, dig0_zero, chr]
  · by_cases hds : ds = []
    · subst hds
      have := h1 rfl
      subst this
      rw [digS, if_neg hm, dig0_pos b m hb hm]
      simp
    · rw [h2 hds, dig0_pos b m hb hm]
      simp

theorem dig0_len (b n k : Nat) (hb : 2 ≤ b) (h : n < 2 ^ k) : (dig0 b n).length ≤ k := by
  induction k generalizing n with
  | zero => obtain rfl : n = 0 := by simpa using h
            simp [dig0_zero]
  | succ k ih =>
    by_cases h0 : n = 0
    · subst h0; simp [dig0_zero]
    · rw [dig0_pos b n hb h0, List.length_append]
      have h1 : n / b ≤ n / 2 := Nat.div_le_div_left hb (by decide)
      have := ih (n / b) (by rw [Nat.pow_succ] at h; omega)
      simp
      exact this

set_option maxHeartbeats 400000 in
theorem digits02_any (lo h1 : Nat) (v : Value) (xs : List Nat) (b : Nat) (w : World) (h : Limbs lo h1 w v xs) (hhi : h1 ≤ w.heap.size) (hl : xs.length ≤ 4398046511104) (hb2 : 2 ≤ b) (hb36 : b ≤ 36) :
    Calls Try.prog 53 #[v, .int .i64 (b : Nat)] w fun e w' => e = .returned (.string (strOf (digS b (natOf xs)))) ∧ Below w.heap.size w w' := by
  have hxl : ∀ x, x ∈ xs → x < 4294967296 := by obtain ⟨_, _, _, _, _, hlt, _⟩ := h.open; exact hlt
  have hbig : natOf xs < 2 ^ (32 * xs.length) := by
    have := natOf_lt xs hxl
    rwa [show (4294967296 : Nat) = 2 ^ 32 from rfl, ← Nat.pow_mul] at this
  obtain ⟨N, hN⟩ : ∃ N, natOf xs = N := ⟨_, rfl⟩
  rw [hN] at hbig ⊢
  have HBIG := hid hbig
  have HXN := hid hN
  clear hbig hN hxl
  go_enter Try.func53, Try.ntmps53
  go_wp2_with fail
  go_loopg [0, 5] (N + 1) (fun gk nv sv wr => ∃ (ys : List Nat) (ds : List UInt8), gk = natOf ys + (if ds = [] then 1 else 0) ∧ Limbs 0 wr.heap.size wr nv ys ∧ sv = .string (strOf ds) ∧ Below w.heap.size w wr ∧
      ys.length ≤ xs.length ∧ (ds = [] → natOf ys = N) ∧ (ds ≠ [] → digS b N = (dig0 b (natOf ys)).map chr ++ ds) ∧ ds.length ≤ 32 * xs.length + 1)
  case atStart => exact ⟨xs, [], by simp [HXN.out], h.wide (Nat.zero_le _) hhi, rfl, Below.refl _ _, Nat.le_refl _, fun _ => HXN.out, by simp, by simp⟩
  case round =>
    obtain ⟨ys, ds, hgk, hL, rfl, hbel, hyl, h1, h2, hdl⟩ := hrel
    have hz := zero01_any _ _ _ _ wr hL (by omega)
    obtain ⟨m, hm⟩ : ∃ m, natOf ys = m := ⟨_, rfl⟩
    rw [hm] at hz hgk
    have HZ := hid hz
    have H1 := hid h1
    have H2 := hid h2
    have HM := hid hm
    have HGK := hid hgk
    clear hz h1 h2 hm hgk
    by_cases hend : m = 0 ∧ ds ≠ []
    · obtain ⟨rfl, hds⟩ := hend
      have hfin : digS b N = ds := by
        have := H2.out hds
        rwa [HM.out, dig0_zero] at this
      have HF := hid hfin
      obtain ⟨S, hS⟩ : ∃ S, S = strOf ds := ⟨_, rfl⟩
      rw [← hS]
      have hSe : S.toList.isEmpty = false := by rw [hS, strOf_toList]; simpa using hds
      have HS := hid hS
      clear hfin hS hds
      go_wp2_with fail
      refine HZ.out.mono ?_
      rintro e w' ⟨rfl, rfl⟩
      go_wp2_with fail
      go_ret
      rw [HF.out, ← HS.out]
      exact ⟨rfl, hbel⟩
    · have hstep := digS_step b m N ds hb2 (fun h => HM.out ▸ H1.out h) (fun h => HM.out ▸ H2.out h) hend
      have hyl2 : ys.length ≤ 4398046511104 := by omega
      have hdl2 : ds.length + 1 ≤ 32 * xs.length + 1 := by
        have e1 : (digS b N).length ≤ 32 * xs.length + 1 := by
          unfold digS
          split
          · simp
          · rw [List.length_map]
            have := dig0_len b N _ hb2 HBIG.out
            omega
        rw [hstep] at e1
        simp only [List.length_append, List.length_cons] at e1
        omega
      obtain ⟨S, hS⟩ : ∃ S, S = strOf ds := ⟨_, rfl⟩
      rw [← hS]
      have hSl : S.size ≤ 281474976710656 := by rw [hS, strOf_size]; omega
      have HST := hid hstep
      have HS := hid hS
      have HDL := hid hdl2
      have HOF := hid (of01_any b wr (by omega))
      obtain ⟨z, hz⟩ : ∃ z, decide (m = 0) = z := ⟨_, rfl⟩
      rw [hz] at HZ
      have hmz : z = true → S.toList.isEmpty = true := by
        intro h0
        rw [hS, strOf_toList]
        rcases Classical.em (ds = []) with h1 | h1
        · rw [h1]; rfl
        · exact absurd ⟨of_decide_eq_true (hz.trans h0), h1⟩ hend
      have hmr : m % b < b := Nat.mod_lt _ (by omega)
      have hgk2 : m / b + 0 < gk := by
        rw [HGK.out]
        rcases Nat.eq_zero_or_pos m with h0 | h0
        · have : ds = [] := by
            rcases Classical.em (ds = []) with h1 | h1
            · exact h1
            · exact absurd ⟨h0, h1⟩ hend
          rw [if_pos this, h0]; simp
        · have : m / b < m := Nat.div_lt_self h0 (by omega)
          omega
      have HG := hid hgk2
      have hql : (toL (m / b)).length ≤ xs.length := by
        refine Nat.le_trans ?_ hyl
        refine toL_len_le _ _ (Nat.lt_of_le_of_lt (Nat.div_le_self _ _) ?_)
        rw [← HM.out]
        exact natOf_lt ys (by obtain ⟨_, _, _, _, _, hlt, _⟩ := hL.open; exact hlt)
      have HQL := hid hql
      have habc := abc_chr (m % b) (by omega)
      have HABC := hid habc
      clear hstep hdl2 hend hz hgk2 hql habc HGK
      have hfin : digS b N = (dig0 b (m / b)).map chr ++ (chr (m % b) :: ds) := HST.out
      have HFIN := hid hfin
      have hSS : strOf [chr (m % b)] ++ S = strOf (chr (m % b) :: ds) := by rw [hS, strOf_append]; rfl
      have HSS := hid hSS
      clear hfin hSS hS
      obtain ⟨d, hd⟩ : ∃ d, m % b = d := ⟨_, rfl⟩
      rw [hd] at hmr HABC HFIN HSS
      cases z
      case' true => have hSe := hmz rfl
      all_goals
        clear hmz
        go_wp2_with fail
        refine HZ.out.mono ?_
        rintro e w' ⟨rfl, rfl⟩
        go_wp2_with fail
        refine HOF.out.mono ?_
        rintro e w1 ⟨r1, rfl, hr1, hb1⟩
        have hdiv := div01_any _ _ _ _ _ _ _ _ w1 (hL.below hb1 (Nat.le_refl _)) hr1 (Nat.le_refl _) hyl2 (Nat.le_trans (toL_len_le b 1 (by omega)) (by omega)) (by rw [natOf_toL]; omega)
        rw [natOf_toL, HM.out, hd] at hdiv
        have HDIV := hid hdiv
        have HD := hid hd
        clear hdiv hd
        go_wp2_with fail
        refine HDIV.out.mono ?_
        rintro e w2 ⟨q, r, rfl, hq, hr, hb2'⟩
        have hb12 := hbel.trans ((hb1.trans (hb2'.mono hb1.size)).mono hbel.size)
        rcases Nat.eq_zero_or_pos d with h0 | h0
        · subst h0
          rw [toL_zero] at hr
          obtain ⟨ad, cap, rfl⟩ := hr.shape
          go_wp2
          go_roundg (m / b + 0)
          case measure => exact HG.out
          case rel =>
            refine ⟨toL (m / b), chr 0 :: ds, by rw [natOf_toL]; simp, (hq.wide (Nat.zero_le _) (Nat.le_refl _)), ?_, hb12, HQL.out, by simp, ?_, HDL.out⟩
            · rw [← HSS.out, ← HABC.out]; rfl
            · intro _; rw [natOf_toL]; exact HFIN.out
        · rw [toL_small d (by omega) (by omega)] at hr
          obtain ⟨ad, cap, rfl, _, _, _, hcell⟩ := hr.open
          obtain ⟨bb, off, rfl, _, _, hc0⟩ := hcell 0 (by simp)
          simp only [List.getD_cons_zero, Nat.add_zero] at hc0
          clear hcell
          go_wp2
          go_roundg (m / b + 0)
          case measure => exact HG.out
          case rel =>
            refine ⟨toL (m / b), chr d :: ds, by rw [natOf_toL]; simp, (hq.wide (Nat.zero_le _) (Nat.le_refl _)), ?_, hb12, HQL.out, by simp, ?_, HDL.out⟩
            · rw [← HSS.out, ← HABC.out]; rfl
            · intro _; rw [natOf_toL]; exact HFIN.out
end Go.Proofs.Ytjjidmgeladicaa

/- numeral.Words: its iterator's contract, for every loop body that keeps what lay below some place. -/
import Derived.Test.YtjjidmgeladicaaDoorWords02
import Derived.Lib.RuneCountTail
import Derived.Shelf.Strings.MapAny
import Derived.RangeFuncNested
import Derived.RangeFuncBound
import Derived.RangeFuncCalls
import Derived.RangeFuncLeaves
import Derived.RangeFuncKeeps
import Derived.RangeFuncFrom
import Derived.Shelf.Abstract
import Derived.Shelf.RegionOpen
import Derived.OwnWalkIn
import Derived.TacticsInMore
import Derived.LoopNIn
import Derived.LoopIn
namespace Go.Proofs.YtjjidmgeladicaaDoor
open Go.RowKit Go.Shelf
attribute [local go_sem] Oper.semAt_some

theorem Tabs.below {B : Nat} {w w' : World} (h : Lib.Utf8Tabs 0 1 w) (hb : Below B w w') (hB : 2 ≤ B) : Lib.Utf8Tabs 0 1 w' :=
  ⟨fun c hc => (hb.cell (p := ⟨0, c, none⟩) (by show 0 < B; omega)).trans (h.1 c hc), fun i hi => ⟨(hb.cell (p := ⟨1, 2 * i, none⟩) (by show 1 < B; omega)).trans (h.2 i hi).1, (hb.cell (p := ⟨1, 2 * i + 1, none⟩) (by show 1 < B; omega)).trans (h.2 i hi).2⟩⟩

set_option maxHeartbeats 1000000 in
set_option maxRecDepth 1000000 in
theorem decodeRune_any (s : ByteArray) (w : World) (hT : Lib.Utf8Tabs 0 1 w) (hpos : 0 < s.size) :
    Calls Tryd.prog 33 #[.string s] w fun e w' => e = .returned (.tuple #[.int .i32 ((Utf8.decode s 0).1 : Nat), .int .i64 ((Utf8.decode s 0).2 : Nat)]) ∧ Below w.heap.size w w' := by
  have cS := Tryd.utf8_decodeRuneInStringSlow s w hT
  have hg : Lib.decodeGo s = Utf8.decode s 0 := by unfold Lib.decodeGo; rw [if_neg (by omega)]
  rw [hg] at cS
  obtain ⟨R, hR⟩ : ∃ R, (Utf8.decode s 0).1 = R := ⟨_, rfl⟩
  obtain ⟨K, hK⟩ : ∃ K, (Utf8.decode s 0).2 = K := ⟨_, rfl⟩
  rw [hR, hK] at cS ⊢
  have CS := hid cS
  have hne : s.toList.isEmpty = false := by
    rw [Lib.toList_data]
    cases h : s.data.toList with
    | nil => exact absurd (by rw [Lib.size_eq, h]; rfl) (show ¬ s.size = 0 by omega)
    | cons _ _ => rfl
  have hz0 : (0 : Int) < (s.size : Int) := by omega
  obtain ⟨x0, hx0⟩ : ∃ x0, s.get! 0 = x0 := ⟨_, rfl⟩
  have hs0 : s[0]'(by omega) = x0 := by rw [← hx0]; exact (Utf8W.get!_of_lt s 0 (by omega)).symm
  clear hT cS hg
  by_cases ha : x0.toNat < 128
  · have haz : (x0.toNat : Int) < 128 := by omega
    have hd : Utf8.decode s 0 = (x0.toNat, 1) := by
      rw [Lib.decode_at, hx0]
      simp [Lib.decodeN, ha]
    rw [hd] at hR hK
    subst hR; subst hK
    clear CS hd
    go_enter Tryd.func33, Tryd.ntmps33
    go_wp2
    go_ret2
    exact ⟨rfl, Below.refl _ _⟩
  · have haz : ¬ ((x0.toNat : Int) < 128) := by omega
    clear hR hK
    go_enter Tryd.func33, Tryd.ntmps33
    go_wp2_with fail
    refine CS.out.mono ?_
    rintro e w' ⟨rfl, hb⟩
    go_wp2
    go_ret2
    exact ⟨rfl, hb⟩

theorem sep_kind (r : Nat) : isSep r = true ↔ (kindOf r = 4 ∨ kindOf r = 5 ∨ kindOf r = 6) := by
  unfold isSep kindOf isMinus isBar isGap isDigit
  simp only [Bool.or_eq_true, beq_iff_eq, Bool.and_eq_true, decide_eq_true_eq]
  constructor
  · intro h
    by_cases h1 : r = 45 ∨ r = 8722
    · exfalso; omega
    · rw [if_neg h1]
      by_cases h2 : (r = 47 ∨ r = 8260) ∨ r = 8725
      · exfalso; omega
      · rw [if_neg h2]
        by_cases h3 : ((r = 32 ∨ r = 9) ∨ r = 160) ∨ r = 8201
        · rw [if_pos h3]; omega
        · rw [if_neg h3]
          by_cases h4 : r = 44
          · rw [if_pos h4]; omega
          · rw [if_neg h4]
            by_cases h5 : r = 59 ∨ r = 10
            · rw [if_pos h5]; omega
            · exfalso; omega
  · intro h
    by_cases h1 : r = 45 ∨ r = 8722
    · rw [if_pos h1] at h; omega
    · rw [if_neg h1] at h
      by_cases h2 : (r = 47 ∨ r = 8260) ∨ r = 8725
      · rw [if_pos h2] at h; omega
      · rw [if_neg h2] at h
        by_cases h3 : ((r = 32 ∨ r = 9) ∨ r = 160) ∨ r = 8201
        · omega
        · rw [if_neg h3] at h
          by_cases h4 : r = 44
          · omega
          · rw [if_neg h4] at h
            by_cases h5 : r = 59 ∨ r = 10
            · omega
            · rw [if_neg h5] at h
              split at h <;> omega

theorem below_grows {w w' : World} (h : Below w.heap.size w w') : w.grownBy w' none := ⟨h.os, h.tape, h.output, h.size, fun k hk _ => h.block k hk⟩

theorem tail_dec (s : ByteArray) (pos : Nat) : Utf8.decode (s.extract pos s.size) 0 = Utf8.decode s pos := by
  have := Lib.tail_decode s pos 0
  rwa [Nat.add_zero] at this

set_option maxRecDepth 100000 in
set_option maxHeartbeats 4000000 in
/-- the iterator of numeral.Words, for every loop body that keeps what lay below n0 -/
theorem words1_in (n : Nat) (hn : 1 ≤ n) (l Bs n0 : Nat) (s : ByteArray) (hs : s.size ≤ 400000000) (hBs : Bs < n0) (hn0 : 2 ≤ n0) (J Jx : List (Nat × ByteArray) → World → Prop) (W : World) (hnW : n0 ≤ W.heap.size) (hJ : AbidesFrom W.heap.size J)
    (hY : ∀ pre x W1, J pre W1 → pre.length < (wordsOf s).length → YieldAt Fence.wide (n - 1) Tryd.prog l #[.int .i64 (x.1 : Nat), .string x.2] W1 fun e W' =>
      (e = .returned (.bool true) ∧ J (pre ++ [x]) W' ∧ Below n0 W1 W') ∨ (e = .returned (.bool false) ∧ Jx (pre ++ [x]) W'))
    (hc : W.cell? ⟨Bs, 0, none⟩ = some (.string s)) (hT : Lib.Utf8Tabs 0 1 W) (h0 : J [] W) :
    CallsIn Fence.wide n Tryd.prog 32 #[.func (.yield l) #[] #[], .pointer (some ⟨Bs, 0, none⟩)] W fun e W' => (∃ v, e = .returned v) ∧
      ((∃ ys, ys = wordsOf s ∧ J ys W') ∨ (∃ pre, pre <+: wordsOf s ∧ Jx pre W')) := by
  obtain ⟨P, hP⟩ : ∃ P, wordsOf s = P := ⟨_, rfl⟩
  have HP := hid hP
  rw [hP] at hY ⊢
  have HY := hid hY
  have HT := hid hT
  have HJ := hid hJ
  have HC := hid hc
  clear hP hY hT hJ hc
  refine callsIn_of_wp Tryd.func32 rfl trivial ?_ rfl
  simp only [Tryd.ntmps32, List.size_toArray, List.length_cons, List.length_nil, Nat.reduceAdd, Nat.reduceSub, Array.replicate_succ, Array.replicate_zero, List.push_toArray, List.append_toArray, List.nil_append, List.cons_append]
  gi_wp2
  gi_loopw [3, 4] (fun fv iv wr => ∃ (pos : Nat) (fr : Option Nat) (pre : List (Nat × ByteArray)), iv = .int .i64 pos ∧ fv = .int .i64 (frI fr) ∧ pos ≤ s.size ∧ (∀ a, fr = some a → a < pos) ∧ pre ++ wds s fr (placesAt s pos) = P ∧ J pre wr ∧ Below n0 W wr)
    (fun _ iv _ => s.size - (intOf iv).toNat)
  case atStart => exact ⟨0, none, [], rfl, rfl, Nat.zero_le _, by simp, by rw [← HP.out]; rfl, h0, Below.refl _ _⟩
  case round =>
    obtain ⟨pos, fr, pre, rfl, rfl, hps, hfr, hpc, hJs, hnx⟩ := hrel
    have HPC := hid hpc
    have HFR := hid hfr
    have HJS := hid hJs
    have hcw : wr.cell? ⟨Bs, 0, none⟩ = some (.string s) := (hnx.cell (p := ⟨Bs, 0, none⟩) hBs).trans HC.out
    clear hpc hfr hJs h0
    by_cases hp : pos < s.size
    · have hTw := Tabs.below HT.out hnx hn0
      have hex : (s.extract pos s.size).size = s.size - pos := by simp [ByteArray.size_extract]
      have hw := decode_width s pos
      have hen := decode_end s pos hp
      have hrb := decode_lt s pos
      have q1 := decodeRune_any (s.extract pos s.size) wr hTw (by rw [hex]; omega)
      rw [tail_dec] at q1
      obtain ⟨rn, hrn⟩ : ∃ rn, (Utf8.decode s pos).1 = rn := ⟨_, rfl⟩
      obtain ⟨wd, hwd⟩ : ∃ wd, (Utf8.decode s pos).2 = wd := ⟨_, rfl⟩
      have hstp := placesAt_step s pos hp
      rw [hrn, hwd] at hstp q1
      rw [hrn] at hrb
      rw [hwd] at hw hen
      have Q1 := hid q1
      have HSTP := hid hstp
      have hpcs : wds s fr (placesAt s pos) = if isSep rn = true then flushW s fr pos ++ wds s none (placesAt s (pos + wd)) else wds s (some (fr.getD pos)) (placesAt s (pos + wd)) := by
        rw [HSTP.out, wds]
      have HPCS := hid hpcs
      have f1 : (pos : Int) < (s.size : Int) := by omega
      have f2 : (pos : Int) ≤ (s.size : Int) := by omega
      have Q2 := hid fun w => what_any rn w
      clear q1 hstp hpcs hrn hwd hTw hex
      have sk := sep_kind rn
      obtain ⟨kd, hkd⟩ : ∃ kd, kindOf rn = kd := ⟨_, rfl⟩
      rw [hkd] at sk Q2
      clear hkd
      have hJ1 : ∀ w1, Below wr.heap.size wr w1 → J pre w1 := fun w1 h => HJ.out pre wr w1 none HJS.out (below_grows h) (fun _ e => by cases e)
      have HJ1 := hid hJ1
      clear hJ1
      by_cases hsp : isSep rn = true
      · have hpc2 := HPC.out
        rw [HPCS.out, if_pos hsp] at hpc2
        have hk3 := sk.1 hsp
        clear sk HPC HPCS HSTP hsp hrb
        cases fr with
        | none =>
          have HP3 := hid hpc2
          clear hpc2
          rcases hk3 with rfl | rfl | rfl
          all_goals
            gi_wp2_with (refine ⟨trivial, ?_⟩; gi_at_call 33; refine (callsIn_wide.2 Q1.out).mono ?_; clear Q1; rintro e w1 ⟨rfl, hb1⟩)
            gi_wp2_with (refine ⟨trivial, ?_⟩; gi_at_call 34; refine (callsIn_wide.2 (Q2.out w1)).mono ?_; clear Q2; rintro e w2 ⟨rfl, rfl⟩)
            refine ⟨fun _ h => (by cases h), ?_⟩
            gi_wp2
            go_roundw
            case rel => exact ⟨pos + wd, none, pre, by simp, rfl, hen, by simp, by simpa [flushW] using HP3.out, HJ1.out _ hb1, hnx.trans (hb1.mono (Nat.le_trans hnW hnx.size))⟩
            case measure => simp [intOf]; omega
        | some a =>
          have ha := HFR.out a rfl
          simp only [show frI (some a) = (a : Int) from rfl]
          have hlen : pre.length < P.length := by rw [← hpc2]; simp [flushW]
          have HP3 := hid hpc2
          have g1 : (0 : Int) ≤ (a : Int) := by omega
          have g2 : (a : Int) ≤ (pos : Int) := by omega
          have hcs : ∀ w1, Below wr.heap.size wr w1 → w1.cell? ⟨Bs, 0, none⟩ = some (.string s) := fun w1 h => (h.cell (p := ⟨Bs, 0, none⟩) (Nat.lt_of_lt_of_le hBs (Nat.le_trans hnW hnx.size))).trans hcw
          have HCS := hid hcs
          clear hpc2 hcs
          rcases hk3 with rfl | rfl | rfl
          all_goals
            gi_wp2_with (refine ⟨trivial, ?_⟩; gi_at_call 33; refine (callsIn_wide.2 Q1.out).mono ?_; clear Q1; rintro e w1 ⟨rfl, hb1⟩)
            obtain ⟨fn, tmps, assign, body, hy, hR⟩ := HY.out pre (a, s.extract a pos) w1 (HJ1.out w1 hb1) hlen
            have hcw1 := HCS.out w1 hb1
            dsimp only at hy
            gi_wp2_with (refine ⟨trivial, ?_⟩; gi_at_call 34; refine (callsIn_wide.2 (Q2.out w1)).mono ?_; clear Q2; rintro e w2 ⟨rfl, rfl⟩)
            refine hR.mono ?_
            rintro e w3 (⟨rfl, hJ3, hk3⟩ | ⟨rfl, hJx3⟩)
            · gi_wp2
              go_roundw
              case rel => exact ⟨pos + wd, none, pre ++ [(a, s.extract a pos)], by simp, rfl, hen, by simp, by simpa [flushW] using HP3.out, hJ3, (hnx.trans (hb1.mono (Nat.le_trans hnW hnx.size))).trans hk3⟩
              case measure => simp [intOf]; omega
            · gi_wp2
              refine bodyPost_ret (results_none rfl _ _ _) rfl ?_
              exact ⟨⟨_, rfl⟩, .inr ⟨_, ⟨wds s none (placesAt s (pos + wd)), by simpa [flushW] using HP3.out⟩, hJx3⟩⟩
      · have hpc2 := HPC.out
        rw [HPCS.out, if_neg hsp] at hpc2
        have hk3 : ¬ (kd = 4 ∨ kd = 5 ∨ kd = 6) := fun h => hsp (sk.2 h)
        have k4 : ¬ ((kd : Int) = 4) := by omega
        have k5 : ¬ ((kd : Int) = 5) := by omega
        have k6 : ¬ ((kd : Int) = 6) := by omega
        have HP3 := hid hpc2
        clear sk HPC HPCS HSTP hsp hrb hk3 hpc2
        cases fr with
        | none =>
          gi_wp2_with (refine ⟨trivial, ?_⟩; gi_at_call 33; refine (callsIn_wide.2 Q1.out).mono ?_; clear Q1; rintro e w1 ⟨rfl, hb1⟩)
          gi_wp2_with (refine ⟨trivial, ?_⟩; gi_at_call 34; refine (callsIn_wide.2 (Q2.out w1)).mono ?_; clear Q2; rintro e w2 ⟨rfl, rfl⟩)
          gi_wp2
          go_roundw
          case rel => exact ⟨pos + wd, some pos, pre, by simp, rfl, hen, by simp; omega, HP3.out, HJ1.out _ hb1, hnx.trans (hb1.mono (Nat.le_trans hnW hnx.size))⟩
          case measure => simp [intOf]; omega
        | some a =>
          have ha := HFR.out a rfl
          simp only [show frI (some a) = (a : Int) from rfl]
          have g1 : (0 : Int) ≤ (a : Int) := by omega
          have g3 : ¬ ((a : Int) < 0) := by omega
          gi_wp2_with (refine ⟨trivial, ?_⟩; gi_at_call 33; refine (callsIn_wide.2 Q1.out).mono ?_; clear Q1; rintro e w1 ⟨rfl, hb1⟩)
          gi_wp2_with (refine ⟨trivial, ?_⟩; gi_at_call 34; refine (callsIn_wide.2 (Q2.out w1)).mono ?_; clear Q2; rintro e w2 ⟨rfl, rfl⟩)
          gi_wp2
          go_roundw
          case rel => exact ⟨pos + wd, some a, pre, by simp, rfl, hen, by simp; omega, HP3.out, HJ1.out _ hb1, hnx.trans (hb1.mono (Nat.le_trans hnW hnx.size))⟩
          case measure => simp [intOf]; omega
    · obtain rfl : pos = s.size := by omega
      have hpc2 := HPC.out
      rw [placesAt_end s s.size (Nat.lt_irrefl _)] at hpc2
      cases fr with
      | none =>
        gi_wp2
        go_end0
        exact ⟨⟨_, rfl⟩, .inl ⟨_, rfl, (show pre = P by simpa [wds, flushW] using hpc2) ▸ HJS.out⟩⟩
      | some a =>
        have ha := HFR.out a rfl
        simp only [show frI (some a) = (a : Int) from rfl]
        have hlen : pre.length < P.length := by rw [← hpc2]; simp [wds, flushW]
        have hP3 : pre ++ [(a, s.extract a s.size)] = P := by simpa [wds, flushW] using hpc2
        have g1 : (0 : Int) ≤ (a : Int) := by omega
        have g2 : (a : Int) ≤ (s.size : Int) := by omega
        have HP3 := hid hP3
        clear hP3 hpc2 HPC
        obtain ⟨fn, tmps, assign, body, hy, hR⟩ := HY.out pre (a, s.extract a s.size) wr HJS.out hlen
        dsimp only at hy
        gi_wp2
        refine hR.mono ?_
        rintro e w3 (⟨rfl, hJ3, hk3⟩ | ⟨rfl, hJx3⟩)
        · gi_wp2
          go_end0
          exact ⟨⟨_, rfl⟩, .inl ⟨_, rfl, HP3.out ▸ hJ3⟩⟩
        · gi_wp2
          go_end0
          exact ⟨⟨_, rfl⟩, .inr ⟨_, ⟨[], by simpa using HP3.out⟩, hJx3⟩⟩
end Go.Proofs.YtjjidmgeladicaaDoor

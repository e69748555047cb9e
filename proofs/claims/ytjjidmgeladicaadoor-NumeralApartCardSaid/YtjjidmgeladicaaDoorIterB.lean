/- numeral.Words: its iterator's contract, for every loop body that keeps the text's box and what lay below some place. -/
import Derived.Test.YtjjidmgeladicaaDoorIter
namespace Go.Proofs.YtjjidmgeladicaaDoor
open Go.RowKit Go.Shelf
attribute [local go_sem] Oper.semAt_some

/-- what lay below n0, and block Bs, are as they were -/
def KpB (n0 Bs : Nat) (A B : World) : Prop := Below n0 A B ∧ B.heap[Bs]? = A.heap[Bs]?

theorem KpB.refl (n0 Bs : Nat) (A : World) : KpB n0 Bs A A := ⟨Below.refl _ _, rfl⟩
theorem KpB.trans {n0 Bs : Nat} {A B C : World} (h : KpB n0 Bs A B) (k : KpB n0 Bs B C) : KpB n0 Bs A C := ⟨h.1.trans k.1, k.2.trans h.2⟩
theorem KpB.of {n0 Bs : Nat} {A B : World} (h : Below A.heap.size A B) (hn : n0 ≤ A.heap.size) (hB : Bs < A.heap.size) : KpB n0 Bs A B := ⟨h.mono hn, h.block Bs hB⟩

set_option maxRecDepth 100000 in
set_option maxHeartbeats 4000000 in
/-- the iterator of numeral.Words, for every loop body that keeps the text's box and what lay below n0 -/
theorem words1_inB (n : Nat) (hn : 1 ≤ n) (l Bs n0 : Nat) (s : ByteArray) (hs : s.size ≤ 400000000) (hn0 : 2 ≤ n0) (J Jx : List (Nat × ByteArray) → World → Prop) (W : World) (hBs : Bs < W.heap.size) (hnW : n0 ≤ W.heap.size) (hJ : AbidesFrom W.heap.size J)
    (hY : ∀ pre x W1, J pre W1 → pre.length < (wordsOf s).length → YieldAt Fence.wide (n - 1) Tryd.prog l #[.int .i64 (x.1 : Nat), .string x.2] W1 fun e W' =>
      (e = .returned (.bool true) ∧ J (pre ++ [x]) W' ∧ KpB n0 Bs W1 W') ∨ (e = .returned (.bool false) ∧ Jx (pre ++ [x]) W'))
    (hc : W.cell? ⟨Bs, 0, none⟩ = some (.string s)) (hT : Lib.Utf8Tabs 0 1 W) (h0 : J [] W) :
    CallsIn Fence.wide n Tryd.prog 32 #[.func (.yield l) #[] #[], .pointer (some ⟨Bs, 0, none⟩)] W fun e W' => (∃ v, e = .returned v) ∧
      ((∃ ys, ys = wordsOf s ∧ J ys W') ∨ (∃ pre, pre <+: wordsOf s ∧ Jx pre W')) := by
  obtain ⟨P, hP⟩ : ∃ P, wordsOf s = P := ⟨_, rfl⟩
  have HP := hid hP
  rw [hP] at hY ⊢
  have HY := hid hY
  have HT := hid hT
  have HJ := hid hJ
  have HC := hid hc
  clear hP hY hT hJ hc
  refine callsIn_of_wp Tryd.func32 rfl trivial ?_ rfl
  simp only [Tryd.ntmps32, List.size_toArray, List.length_cons, List.length_nil, Nat.reduceAdd, Nat.reduceSub, Array.replicate_succ, Array.replicate_zero, List.push_toArray, List.append_toArray, List.nil_append, List.cons_append]
  gi_wp2
  gi_loopw [3, 4] (fun fv iv wr => ∃ (pos : Nat) (fr : Option Nat) (pre : List (Nat × ByteArray)), iv = .int .i64 pos ∧ fv = .int .i64 (frI fr) ∧ pos ≤ s.size ∧ (∀ a, fr = some a → a < pos) ∧ pre ++ wds s fr (placesAt s pos) = P ∧ J pre wr ∧ KpB n0 Bs W wr)
    (fun _ iv _ => s.size - (intOf iv).toNat)
  case atStart => exact ⟨0, none, [], rfl, rfl, Nat.zero_le _, by simp, by rw [← HP.out]; rfl, h0, KpB.refl _ _ _⟩
  case round =>
    obtain ⟨pos, fr, pre, rfl, rfl, hps, hfr, hpc, hJs, hnx⟩ := hrel
    have HPC := hid hpc
    have HFR := hid hfr
    have HJS := hid hJs
    have hcw : wr.cell? ⟨Bs, 0, none⟩ = some (.string s) := (World.cell?_of_block (a := ⟨Bs, 0, none⟩) hnx.2).trans HC.out
    clear hpc hfr hJs h0
    by_cases hp : pos < s.size
    · have hTw := Tabs.below HT.out hnx.1 hn0
      have hex : (s.extract pos s.size).size = s.size - pos := by simp [ByteArray.size_extract]
      have hw := decode_width s pos
      have hen := decode_end s pos hp
      have hrb := decode_lt s pos
      have q1 := decodeRune_any (s.extract pos s.size) wr hTw (by rw [hex]; omega)
      rw [tail_dec] at q1
      obtain ⟨rn, hrn⟩ : ∃ rn, (Utf8.decode s pos).1 = rn := ⟨_, rfl⟩
      obtain ⟨wd, hwd⟩ : ∃ wd, (Utf8.decode s pos).2 = wd := ⟨_, rfl⟩
      have hstp := placesAt_step s pos hp
      rw [hrn, hwd] at hstp q1
      rw [hrn] at hrb
      rw [hwd] at hw hen
      have Q1 := hid q1
      have HSTP := hid hstp
      have hpcs : wds s fr (placesAt s pos) = if isSep rn = true then flushW s fr pos ++ wds s none (placesAt s (pos + wd)) else wds s (some (fr.getD pos)) (placesAt s (pos + wd)) := by
        rw [HSTP.out, wds]
      have HPCS := hid hpcs
      have f1 : (pos : Int) < (s.size : Int) := by omega
      have f2 : (pos : Int) ≤ (s.size : Int) := by omega
      have Q2 := hid fun w => what_any rn w
      clear q1 hstp hpcs hrn hwd hTw hex
      have sk := sep_kind rn
      obtain ⟨kd, hkd⟩ : ∃ kd, kindOf rn = kd := ⟨_, rfl⟩
      rw [hkd] at sk Q2
      clear hkd
      have hJ1 : ∀ w1, Below wr.heap.size wr w1 → J pre w1 := fun w1 h => HJ.out pre wr w1 none HJS.out (below_grows h) (fun _ e => by cases e)
      have HJ1 := hid hJ1
      clear hJ1
      by_cases hsp : isSep rn = true
      · have hpc2 := HPC.out
        rw [HPCS.out, if_pos hsp] at hpc2
        have hk3 := sk.1 hsp
        clear sk HPC HPCS HSTP hsp hrb
        cases fr with
        | none =>
          have HP3 := hid hpc2
          clear hpc2
          rcases hk3 with rfl | rfl | rfl
          all_goals
            gi_wp2_with (refine ⟨trivial, ?_⟩; gi_at_call 33; refine (callsIn_wide.2 Q1.out).mono ?_; clear Q1; rintro e w1 ⟨rfl, hb1⟩)
            gi_wp2_with (refine ⟨trivial, ?_⟩; gi_at_call 34; refine (callsIn_wide.2 (Q2.out w1)).mono ?_; clear Q2; rintro e w2 ⟨rfl, rfl⟩)
            refine ⟨fun _ h => (by cases h), ?_⟩
            gi_wp2
            go_roundw
            case rel => exact ⟨pos + wd, none, pre, by simp, rfl, hen, by simp, by simpa [flushW] using HP3.out, HJ1.out _ hb1, hnx.trans (KpB.of hb1 (Nat.le_trans hnW hnx.1.size) (Nat.lt_of_lt_of_le hBs hnx.1.size))⟩
            case measure => simp [intOf]; omega
        | some a =>
          have ha := HFR.out a rfl
          simp only [show frI (some a) = (a : Int) from rfl]
          have hlen : pre.length < P.length := by rw [← hpc2]; simp [flushW]
          have HP3 := hid hpc2
          have g1 : (0 : Int) ≤ (a : Int) := by omega
          have g2 : (a : Int) ≤ (pos : Int) := by omega
          have hcs : ∀ w1, Below wr.heap.size wr w1 → w1.cell? ⟨Bs, 0, none⟩ = some (.string s) := fun w1 h => (h.cell (p := ⟨Bs, 0, none⟩) (Nat.lt_of_lt_of_le hBs hnx.1.size)).trans hcw
          have HCS := hid hcs
          clear hpc2 hcs
          rcases hk3 with rfl | rfl | rfl
          all_goals
            gi_wp2_with (refine ⟨trivial, ?_⟩; gi_at_call 33; refine (callsIn_wide.2 Q1.out).mono ?_; clear Q1; rintro e w1 ⟨rfl, hb1⟩)
            obtain ⟨fn, tmps, assign, body, hy, hR⟩ := HY.out pre (a, s.extract a pos) w1 (HJ1.out w1 hb1) hlen
            have hcw1 := HCS.out w1 hb1
            dsimp only at hy
            gi_wp2_with (refine ⟨trivial, ?_⟩; gi_at_call 34; refine (callsIn_wide.2 (Q2.out w1)).mono ?_; clear Q2; rintro e w2 ⟨rfl, rfl⟩)
            refine hR.mono ?_
            rintro e w3 (⟨rfl, hJ3, hk3⟩ | ⟨rfl, hJx3⟩)
            · gi_wp2
              go_roundw
              case rel => exact ⟨pos + wd, none, pre ++ [(a, s.extract a pos)], by simp, rfl, hen, by simp, by simpa [flushW] using HP3.out, hJ3, (hnx.trans (KpB.of hb1 (Nat.le_trans hnW hnx.1.size) (Nat.lt_of_lt_of_le hBs hnx.1.size))).trans hk3⟩
              case measure => simp [intOf]; omega
            · gi_wp2
              refine bodyPost_ret (results_none rfl _ _ _) rfl ?_
              exact ⟨⟨_, rfl⟩, .inr ⟨_, ⟨wds s none (placesAt s (pos + wd)), by simpa [flushW] using HP3.out⟩, hJx3⟩⟩
      · have hpc2 := HPC.out
        rw [HPCS.out, if_neg hsp] at hpc2
        have hk3 : ¬ (kd = 4 ∨ kd = 5 ∨ kd = 6) := fun h => hsp (sk.2 h)
        have k4 : ¬ ((kd : Int) = 4) := by omega
        have k5 : ¬ ((kd : Int) = 5) := by omega
        have k6 : ¬ ((kd : Int) = 6) := by omega
        have HP3 := hid hpc2
        clear sk HPC HPCS HSTP hsp hrb hk3 hpc2
        cases fr with
        | none =>
          gi_wp2_with (refine ⟨trivial, ?_⟩; gi_at_call 33; refine (callsIn_wide.2 Q1.out).mono ?_; clear Q1; rintro e w1 ⟨rfl, hb1⟩)
          gi_wp2_with (refine ⟨trivial, ?_⟩; gi_at_call 34; refine (callsIn_wide.2 (Q2.out w1)).mono ?_; clear Q2; rintro e w2 ⟨rfl, rfl⟩)
          gi_wp2
          go_roundw
          case rel => exact ⟨pos + wd, some pos, pre, by simp, rfl, hen, by simp; omega, HP3.out, HJ1.out _ hb1, hnx.trans (KpB.of hb1 (Nat.le_trans hnW hnx.1.size) (Nat.lt_of_lt_of_le hBs hnx.1.size))⟩
          case measure => simp [intOf]; omega
        | some a =>
          have ha := HFR.out a rfl
          simp only [show frI (some a) = (a : Int) from rfl]
          have g1 : (0 : Int) ≤ (a : Int) := by omega
          have g3 : ¬ ((a : Int) < 0) := by omega
          gi_wp2_with (refine ⟨trivial, ?_⟩; gi_at_call 33; refine (callsIn_wide.2 Q1.out).mono ?_; clear Q1; rintro e w1 ⟨rfl, hb1⟩)
          gi_wp2_with (refine ⟨trivial, ?_⟩; gi_at_call 34; refine (callsIn_wide.2 (Q2.out w1)).mono ?_; clear Q2; rintro e w2 ⟨rfl, rfl⟩)
          gi_wp2
          go_roundw
          case rel => exact ⟨pos + wd, some a, pre, by simp, rfl, hen, by simp; omega, HP3.out, HJ1.out _ hb1, hnx.trans (KpB.of hb1 (Nat.le_trans hnW hnx.1.size) (Nat.lt_of_lt_of_le hBs hnx.1.size))⟩
          case measure => simp [intOf]; omega
    · obtain rfl : pos = s.size := by omega
      have hpc2 := HPC.out
      rw [placesAt_end s s.size (Nat.lt_irrefl _)] at hpc2
      cases fr with
      | none =>
        gi_wp2
        go_end0
        exact ⟨⟨_, rfl⟩, .inl ⟨_, rfl, (show pre = P by simpa [wds, flushW] using hpc2) ▸ HJS.out⟩⟩
      | some a =>
        have ha := HFR.out a rfl
        simp only [show frI (some a) = (a : Int) from rfl]
        have hlen : pre.length < P.length := by rw [← hpc2]; simp [wds, flushW]
        have hP3 : pre ++ [(a, s.extract a s.size)] = P := by simpa [wds, flushW] using hpc2
        have g1 : (0 : Int) ≤ (a : Int) := by omega
        have g2 : (a : Int) ≤ (s.size : Int) := by omega
        have HP3 := hid hP3
        clear hP3 hpc2 HPC
        obtain ⟨fn, tmps, assign, body, hy, hR⟩ := HY.out pre (a, s.extract a s.size) wr HJS.out hlen
        dsimp only at hy
        gi_wp2
        refine hR.mono ?_
        rintro e w3 (⟨rfl, hJ3, hk3⟩ | ⟨rfl, hJx3⟩)
        · gi_wp2
          go_end0
          exact ⟨⟨_, rfl⟩, .inl ⟨_, rfl, HP3.out ▸ hJ3⟩⟩
        · gi_wp2
          go_end0
          exact ⟨⟨_, rfl⟩, .inr ⟨_, ⟨[], by simpa using HP3.out⟩, hJx3⟩⟩

def encB2 (x : Nat × ByteArray) : Array Value := #[.int .i64 (x.1 : Nat), .string x.2]

theorem words_stopsB (n : Nat) (hn : 1 ≤ n) (Bs n0 : Nat) (s : ByteArray) (hs : s.size ≤ 400000000) (w : World) (hBs : Bs < w.heap.size) (hn2 : 2 ≤ n0) (hn0 : n0 ≤ w.heap.size) (hc : w.cell? ⟨Bs, 0, none⟩ = some (.string s)) (hT : Lib.Utf8Tabs 0 1 w) :
    SeqStopsK Fence.wide n Tryd.prog 32 #[.pointer (some ⟨Bs, 0, none⟩)] encB2 (KpB n0 Bs) (fun ys => ys = wordsOf s) (fun pre => pre <+: wordsOf s) (wordsOf s).length w := fun l J Jx W hW hJ _ hY h0 => by
  have hc' := (hW.cell (p := ⟨Bs, 0, none⟩) (by show Bs < w.heap.size; omega)).trans hc
  exact words1_inB n hn l Bs n0 s hs hn2 J Jx W (Nat.lt_of_lt_of_le hBs hW.size) (Nat.le_trans hn0 hW.size) hJ hY hc' (Tabs.below hT hW (by omega)) h0

theorem kpB_b {n0 Bs : Nat} {w : World} (hn : n0 ≤ w.heap.size) (hB : Bs < w.heap.size) (W : World) (l : Nat) (o o' : Obj) (hl : w.heap.size ≤ l) (h : W.heap[l]? = some o) (_ : o.isCells = false) (_ : o.isWalk = false) : KpB n0 Bs W (W.putObj l o') :=
  ⟨(Below.refl n0 W).grown (grownBy_putObj' W l o') (by have := (Array.getElem?_eq_some_iff.1 h).1; omega) (fun k e => by cases e; omega), World.putObj_heap_other (by omega)⟩

/-- all cells are as they were -/
def CellsKept (W W' : World) : Prop := ∀ (b : Nat) (c : Array Value) (T : TypeId) (f : Nat × Nat), W.heap[b]? = some (.cells c T f) → W'.heap[b]? = W.heap[b]?

theorem ownFrom_cells {β : Type} {B : Nat} {I : β → World → Prop} (h : ∀ s W W', I s W → CellsKept W W' → W.heap.size ≤ W'.heap.size → I s W') : OwnFrom B I := fun s W W' row hs hg hr =>
  h s W W' hs (fun b c T f hb => hg.block b (Array.getElem?_eq_some_iff.1 hb).1 (fun e => by
    obtain ⟨_, o, ho, hc⟩ := hr b e.symm
    rw [hb] at ho
    cases ho
    cases hc)) hg.size
end Go.Proofs.YtjjidmgeladicaaDoor

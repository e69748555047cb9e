/- numeral.read: a text as a number. -/
import Derived.Test.YtjjidmgeladicaaDoorRead2
namespace Go.Proofs.YtjjidmgeladicaaDoor
open Go.RowKit

/-- what a text's runes say: the sign, the number, the denominator, the error -/
def readF (frac : Bool) (L : List Nat) : Bool × Nat × Nat × Nat :=
  if num1 L = [] then (false, 0, 0, 20)
  else if frac && ahead 3 (end1 L) then
    if allNought (end1 L).tail && !(end1 L).tail.isEmpty then (false, 0, 0, 20)
    else if digs (end1 L).tail = [] then (false, 0, 0, 20)
    else if past (end1 L).tail ≠ [] then (false, 0, 0, 20)
    else if 10000 < (num1 L).length + (digs (end1 L).tail).length then (false, 0, 0, 4)
    else (neg1 L && decide (ofDigits 10 ((num1 L).map worth) ≠ 0), ofDigits 10 ((num1 L).map worth), ofDigits 10 ((digs (end1 L).tail).map worth), 0)
  else if end1 L ≠ [] then (false, 0, 0, 20)
  else if 10000 < (num1 L).length then (false, 0, 0, 4)
  else (neg1 L && decide (ofDigits 10 ((num1 L).map worth) ≠ 0), ofDigits 10 ((num1 L).map worth), 1, 0)

/-- a fraction's value -/
def FracSays (w w' : World) (e : Ending) (x : Bool × Nat × Nat × Nat) : Prop :=
  ∃ q1 q2, e = .returned (.tuple #[.agg #[.bool x.1, q1, .bool false, q2], .int .i64 (x.2.2.2 : Nat)]) ∧ Limbs w.heap.size w'.heap.size w' q1 (toL x.2.1) ∧ Limbs w.heap.size w'.heap.size w' q2 (toL x.2.2.1)

/-- what read has deferred -/
def readDs (w : World) : List Deferred := [{ target := Target.fn (Fn.func 64) #[], args := #[.pointer (some ⟨w.heap.size + 1, 0, none⟩)] },
  { target := Target.fn (Fn.func 63) #[.pointer (some ⟨w.heap.size + 1, 0, none⟩), .pointer (some ⟨w.heap.size, 0, none⟩)], args := #[] }]

theorem read_up (n : Nat) (hn : n ≠ 0) (tmps : Array Value) (w W : World) (h4 : tmps[4]?.getD undef = .pointer (some ⟨w.heap.size, 0, none⟩)) (h5 : tmps[5]?.getD undef = .pointer (some ⟨w.heap.size + 1, 0, none⟩)) (x y u v : Value)
    (hB : Below w.heap.size w W) (hF : BoxIs W w.heap.size 42 [x, y, u, v]) (hE : BoxIs W (w.heap.size + 1) 43 [.int .i64 0]) :
    Leaves Tryd.prog Tryd.f38 tmps (fun e w' => Below w.heap.size w w' ∧ FracSays w w' e (false, 0, 0, n)) (readDs w) (.panicking [{ v := .iface 128 (.agg #[.int .i64 (n : Nat)]), recovered := false }]) W := by
  unfold readDs
  refine leaves_cons (f := 64) (args := #[.pointer (some ⟨w.heap.size + 1, 0, none⟩)]) (by simp) (by simp [go_sem]) ?_
  refine (caught_panicking ⟨w.heap.size + 1, 0, none⟩ 0 n [] W hE.one.1 hE.one.2 hE.lt).mono ?_
  rintro e u' w'' ⟨rfl, rfl, hw⟩
  have hB2 : Below w.heap.size w w'' := by
    rw [hw]
    exact (hB.alloc hB.size _).setCell (by simp) _
  have hE2 : BoxIs w'' (w.heap.size + 1) 43 [.int .i64 (n : Nat)] := by
    rw [hw]
    exact (hE.alloc _).set 0 _
  have hF2 : BoxIs w'' w.heap.size 42 [x, y, u, v] := by
    rw [hw]
    exact (hF.alloc _).other _ _ (by simp)
  clear hw hB hE hF
  refine leaves_cons (f := 63) (args := #[.pointer (some ⟨w.heap.size + 1, 0, none⟩), .pointer (some ⟨w.heap.size, 0, none⟩)]) (by simp [settle]) (by simp [go_sem]) ?_
  refine (wiped_any (w.heap.size + 1) w.heap.size x y u v n _ w'' hE2 hF2).mono ?_
  rintro e u' w3 ⟨rfl, rfl, hw⟩
  rw [if_neg (by omega)] at hw
  have hB3 : Below w.heap.size w w3 := by
    rw [hw]
    exact (((hB2.setCell (by simp) _).setCell (by simp) _).setCell (by simp) _).setCell (by simp) _
  have hE3 : BoxIs w3 (w.heap.size + 1) 43 [.int .i64 (n : Nat)] := by
    rw [hw]
    exact (((hE2.other _ _ (by simp)).other _ _ (by simp)).other _ _ (by simp)).other _ _ (by simp)
  have hF3 : BoxIs w3 w.heap.size 42 [.bool false, .slice none 0 0, .bool false, .slice none 0 0] := by
    rw [hw]
    exact (((hF2.set 0 _).set 1 _).set 2 _).set 3 _
  obtain ⟨c0, f0⟩ := hE3.one
  obtain ⟨⟨d0, d1, d2, d3⟩, g0, g1, g2, g3⟩ := hF3.four
  clear hw hB2 hE2 hF2
  simp [Leaves, settle, results, Tryd.results38, go_sem, h4, h5, c0, d0, d1, d2, d3]
  exact ⟨hB3, _, _, rfl, by rw [toL_zero]; exact Limbs.nil, by rw [toL_zero]; exact Limbs.nil⟩

theorem read_back (x : Bool × Nat × Nat × Nat) (hx : x.2.2.2 = 0) (tmps : Array Value) (w W : World) (h4 : tmps[4]?.getD undef = .pointer (some ⟨w.heap.size, 0, none⟩)) (h5 : tmps[5]?.getD undef = .pointer (some ⟨w.heap.size + 1, 0, none⟩)) (q1 q2 : Value)
    (hB : Below w.heap.size w W) (hF : BoxIs W w.heap.size 42 [.bool x.1, q1, .bool false, q2]) (hE : BoxIs W (w.heap.size + 1) 43 [.int .i64 0])
    (hq1 : Limbs w.heap.size W.heap.size W q1 (toL x.2.1)) (hq2 : Limbs w.heap.size W.heap.size W q2 (toL x.2.2.1)) :
    Leaves Tryd.prog Tryd.f38 tmps (fun e w' => Below w.heap.size w w' ∧ FracSays w w' e x) (readDs w) .returning W := by
  unfold readDs
  refine leaves_cons (f := 64) (args := #[.pointer (some ⟨w.heap.size + 1, 0, none⟩)]) (by simp) (by simp [go_sem]) ?_
  refine (caught_idle ⟨w.heap.size + 1, 0, none⟩ W).mono ?_
  rintro e u' w'' ⟨rfl, rfl, rfl⟩
  refine leaves_cons (f := 63) (args := #[.pointer (some ⟨w.heap.size + 1, 0, none⟩), .pointer (some ⟨w.heap.size, 0, none⟩)]) (by simp [settle]) (by simp [go_sem]) ?_
  refine (wiped_any (w.heap.size + 1) w.heap.size _ _ _ _ 0 _ w'' hE hF).mono ?_
  rintro e u' w3 ⟨rfl, rfl, hw⟩
  rw [if_pos rfl] at hw
  subst hw
  obtain ⟨c0, f0⟩ := hE.one
  obtain ⟨⟨d0, d1, d2, d3⟩, g0, g1, g2, g3⟩ := hF.four
  simp [Leaves, settle, results, Tryd.results38, go_sem, h4, h5, c0, d0, d1, d2, d3]
  exact ⟨hB, _, _, by rw [hx]; rfl, hq1, hq2⟩

theorem read_done (x : Bool × Nat × Nat × Nat) (b : Bool) (N M : Nat) (hx : (b, N, M, 0) = x) (lo : Nat) (tmps : Array Value) (w W : World) (h4 : tmps[4]?.getD undef = .pointer (some ⟨w.heap.size, 0, none⟩)) (h5 : tmps[5]?.getD undef = .pointer (some ⟨w.heap.size + 1, 0, none⟩)) (q1 q2 : Value) (u1 u2 u3 u4 u5 : Value)
    (hB : Below w.heap.size w W) (hF : BoxIs W w.heap.size 42 [u1, u2, u3, u4]) (hE : BoxIs W (w.heap.size + 1) 43 [u5])
    (hq1 : Limbs lo W.heap.size W q1 (toL N)) (hlo : w.heap.size + 2 ≤ lo) (hq2 : Limbs lo W.heap.size W q2 (toL M)) :
    Leaves Tryd.prog Tryd.f38 tmps (fun e w' => Below w.heap.size w w' ∧ FracSays w w' e x) (readDs w) .returning
      (((((W.setCell ⟨w.heap.size, 0, none⟩ (.bool b)).setCell ⟨w.heap.size, 1, none⟩ q1).setCell ⟨w.heap.size, 2, none⟩ (.bool false)).setCell ⟨w.heap.size, 3, none⟩ q2).setCell ⟨w.heap.size + 1, 0, none⟩ (.int .i64 0)) := by
  subst hx
  refine read_back _ rfl tmps w _ h4 h5 q1 q2 ?_ ?_ ?_ ?_ ?_
  · exact (((((hB.setCell (by simp) _).setCell (by simp) _).setCell (by simp) _).setCell (by simp) _).setCell (by simp) _)
  · exact ((((hF.set 0 _).set 1 _).set 2 _).set 3 _).other _ _ (by simp)
  · exact ((((hE.other _ _ (by simp)).other _ _ (by simp)).other _ _ (by simp)).other _ _ (by simp)).set 0 _
  · refine (((((hq1.set _ _ (.inl ?_)).set _ _ (.inl ?_)).set _ _ (.inl ?_)).set _ _ (.inl ?_)).set _ _ (.inl ?_)).wide (by omega) (by simp [World.setCell]) <;> (simp; omega)
  · refine (((((hq2.set _ _ (.inl ?_)).set _ _ (.inl ?_)).set _ _ (.inl ?_)).set _ _ (.inl ?_)).set _ _ (.inl ?_)).wide (by omega) (by simp [World.setCell]) <;> (simp; omega)

set_option maxHeartbeats 1600000 in
theorem read_any (s : ByteArray) (frac : Bool) (w : World) (hs : s.size ≤ 1000000000) :
    Calls Tryd.prog 38 #[.string s, .bool frac] w fun e w' => Below w.heap.size w w' ∧ FracSays w w' e (readF frac (runesOf s)) := by
  have hmf : ∀ (fn : Fn) (first cap : Array Value) (w : World), (Instr.makeFunc fn first cap).run Tryd.prog w = .ok (.func fn first cap) w := fun _ _ _ _ => rfl
  obtain ⟨hb0, bF, bE, hsz⟩ := boxAB w #[.bool false, .slice none 0 0, .bool false, .slice none 0 0] #[.int .i64 0] 42 43
  have q1 := hid (runes_any s ((w.alloc (.cells #[.bool false, .slice none 0 0, .bool false, .slice none 0 0] 42)).alloc (.cells #[.int .i64 0] 43)) (by omega))
  have hrl := runesAt_lt s 0
  have hlen := runesAt_len s 0
  obtain ⟨L, hL⟩ : ∃ L, runesOf s = L := ⟨_, rfl⟩
  have hL' : runesAt s 0 = L := hL
  rw [hL] at q1 ⊢
  rw [hL'] at hrl hlen
  have hll : L.length ≤ 1000000000 := by omega
  have HRL := hid hrl
  obtain ⟨X, hX⟩ : ∃ X, readF frac L = X := ⟨_, rfl⟩
  rw [hX]
  have HX := hid hX
  clear hL hL' hrl hlen hX
  go_enter_defers Tryd.func38, Tryd.ntmps38
  go_wp2_with fail
  refine q1.out.mono ?_
  rintro e w1 ⟨r1, rfl, hr1, hb1⟩
  obtain ⟨ad1, cap1, hsh, _⟩ := hr1.open
  subst hsh
  have hbel1 := hb0.trans (hb1.mono hb0.size)
  have hs1 := hb1.size
  rw [hsz] at hs1
  have hF1 := (bF.later hb1).alloc (.cells #[.slice ad1 L.length cap1, .int .i64 0] 123)
  have hE1 := (bE.later hb1).alloc (.cells #[.slice ad1 L.length cap1, .int .i64 0] 123)
  have hN1 := hr1.below ((Below.refl w1.heap.size w1).alloc (Nat.le_refl _) (.cells #[.slice ad1 L.length cap1, .int .i64 0] 123)) (Nat.le_refl _)
  rw [hsz] at hN1
  have hG1 : BoxIs (w1.alloc (.cells #[.slice ad1 L.length cap1, .int .i64 0] 123)) w1.heap.size 123 [.slice ad1 L.length cap1, .int .i64 0] := BoxIs.new _ _ _
  have hbel2 := hbel1.alloc hbel1.size (.cells #[.slice ad1 L.length cap1, .int .i64 0] 123)
  have q2 := integer_any w1.heap.size _ _ (.slice ad1 L.length cap1) L (w1.alloc (.cells #[.slice ad1 L.length cap1, .int .i64 0] 123)) hG1 hN1 (Nat.le_refl _) hll
  obtain ⟨T, hT⟩ : ∃ T, num1 L = T := ⟨_, rfl⟩
  obtain ⟨R, hR⟩ : ∃ R, end1 L = R := ⟨_, rfl⟩
  rw [hT, hR] at q2
  have Q2 := hid q2
  have HT := hid hT
  have HR := hid hR
  clear q1 q2 hb0 hb1 hr1 bF bE hG1 hN1 hT hR hbel1
  go_wp2_with fail
  refine Q2.out.mono ?_
  rintro e w2 ⟨hg2, hq⟩
  have hF2 := box_grown hF1 hg2 (by omega)
  have hE2 := box_grown hE1 hg2 (by omega)
  have hbel3 := below_grown hbel2 hg2 (by simp; omega) (by omega)
  have hs2 := hg2.size
  simp only [World.size_alloc] at hs2
  clear hbel2 hF1 hE1 hg2 Q2
  rcases hq with ⟨hq1, he⟩ | ⟨hq1, v2, hG2, hN2, hq2⟩
  · unfold gaveUp at he
    subst he
    have hu := hid fun (tmps : Array Value) h4 h5 => read_up 20 (by decide) tmps w w2 h4 h5 _ _ _ _ hbel3 hF2 hE2
    have hrf : (false, 0, 0, 20) = X := by rw [← HX.out]; unfold readF; rw [HT.out, if_pos hq1]
    rw [hrf] at hu
    go_wp2
    exact hu.out _ (by simp) (by simp)
  · -- the number is read
    have hRl : R.length ≤ 1000000000 := by
      have h1 : R.length ≤ L.length := by
        rw [← HR.out]
        unfold end1 past behind
        refine Nat.le_trans (List.dropWhile_sublist _).length_le ?_
        split <;> simp
      omega
    have hRs : ∀ r, r ∈ R → r < 2097152 := by
      intro r hr
      rw [← HR.out] at hr
      have h1 := (List.dropWhile_sublist _).subset hr
      unfold behind at h1
      split at h1
      · exact HRL.out r (List.mem_of_mem_tail h1)
      · exact HRL.out r h1
    have hTl : T.length ≤ 1000000000 := by
      have h1 : T.length ≤ L.length := by
        rw [← HT.out]
        unfold num1 digs behind
        refine Nat.le_trans (List.takeWhile_sublist _).length_le ?_
        split <;> simp
      omega
    have HRS := hid hRs
    clear hRs
    have hneq : num1 L ≠ [] := by rw [HT.out]; exact hq1
    obtain ⟨qa, b, N, he, hl2, hNb⟩ : ∃ (qa : Value) (b : Bool) (N : Nat), e = .returned (.agg #[.bool b, qa]) ∧ Limbs (w1.heap.size + 1) w2.heap.size w2 qa (toL N) ∧
        (T.length ≤ 10000 → b = (neg1 L && decide (ofDigits 10 (T.map worth) ≠ 0)) ∧ N = ofDigits 10 (T.map worth)) := by
      rcases hq2 with ⟨h1, x, h2, h3⟩ | ⟨h1, q, h2, h3⟩
      · exact ⟨x, false, 0, h2, by rw [h3, toL_zero]; exact Limbs.nil, fun h => absurd h (by omega)⟩
      · exact ⟨q, _, _, h2, h3.wide (by simp) (Nat.le_refl _), fun _ => ⟨rfl, rfl⟩⟩
    have HNB := hid hNb
    subst he
    obtain ⟨ad2, cap2, hsh2⟩ := hl2.shape
    subst hsh2
    clear hq2 hNb
    have hFa := hF2.alloc (.cells #[.int .u32 1] 96)
    obtain ⟨⟨d0, d1, d2, d3⟩, g0, g1, g2, g3⟩ := hFa.four
    have hsz2 : (w2.alloc (.cells #[.int .u32 1] 96)).heap.size = w2.heap.size + 1 := by simp
    obtain ⟨W, hW⟩ : ∃ W, ((((w2.alloc (.cells #[.int .u32 1] 96)).setCell ⟨w.heap.size, 0, none⟩ (.bool b)).setCell ⟨w.heap.size, 1, none⟩ (.slice ad2 (toL N).length cap2)).setCell ⟨w.heap.size, 2, none⟩ (.bool false)).setCell ⟨w.heap.size, 3, none⟩ (.slice (some ⟨w2.heap.size, 0, none⟩) 1 1) = W := ⟨_, rfl⟩
    have hBW : Below w.heap.size w W := by
      rw [← hW]
      exact ((((hbel3.alloc hbel3.size _).setCell (by simp) _).setCell (by simp) _).setCell (by simp) _).setCell (by simp) _
    have hFW : BoxIs W w.heap.size 42 [.bool b, .slice ad2 (toL N).length cap2, .bool false, .slice (some ⟨w2.heap.size, 0, none⟩) 1 1] := by
      rw [← hW]
      exact (((hFa.set 0 _).set 1 _).set 2 _).set 3 _
    have hEW : BoxIs W (w.heap.size + 1) 43 [.int .i64 0] := by
      rw [← hW]
      exact ((((hE2.alloc _).other _ _ (by simp)).other _ _ (by simp)).other _ _ (by simp)).other _ _ (by simp)
    have hGW : BoxIs W w1.heap.size 123 [v2, .int .i64 (T.length : Nat)] := by
      rw [← hW]
      exact ((((hG2.alloc _).other _ _ (by simp; omega)).other _ _ (by simp; omega)).other _ _ (by simp; omega)).other _ _ (by simp; omega)
    have hNW : Nums .i32 (w.heap.size + 2) w1.heap.size W v2 R := by
      rw [← hW]
      refine ((((hN2.below ((Below.refl w2.heap.size w2).alloc (Nat.le_refl _) _) (by omega)).set _ _ (.inl ?_)).set _ _ (.inl ?_)).set _ _ (.inl ?_)).set _ _ (.inl ?_) <;> simp
    have hlW : Limbs (w1.heap.size + 1) W.heap.size W (.slice ad2 (toL N).length cap2) (toL N) := by
      rw [← hW]
      refine (((((hl2.below ((Below.refl w2.heap.size w2).alloc (Nat.le_refl _) _) (Nat.le_refl _)).set _ _ (.inl ?_)).set _ _ (.inl ?_)).set _ _ (.inl ?_)).set _ _ (.inl ?_)).wide (by omega) (by simp [World.setCell]) <;> (simp; omega)
    have hoW : Limbs (w1.heap.size + 1) W.heap.size W (.slice (some ⟨w2.heap.size, 0, none⟩) 1 1) (toL 1) := by
      rw [← hW]
      have h1 : Limbs w2.heap.size (w2.alloc (.cells #[.int .u32 1] 96)).heap.size (w2.alloc (.cells #[.int .u32 1] 96)) (.slice (some ⟨w2.heap.size, 0, none⟩) 1 1) (toL 1) := by
        have h9 : (w2.alloc (.cells #[.int .u32 1] 96)).ownsRow w2.heap.size 96 1 (.slice (some ⟨w2.heap.size, 0, none⟩) 1 1) 1 (u32s [1]) := World.ownsRow_lit w2 _ 1 (Nat.le_refl _) (by decide) rfl
        have h8 := Limbs.ofOwn h9 (by simp)
        rw [show toL 1 = [1] by rw [toL_pos (by decide)]; simp [toL_zero]]
        exact h8
      refine ((((h1.set _ _ (.inl ?_)).set _ _ (.inl ?_)).set _ _ (.inl ?_)).set _ _ (.inl ?_)).wide (by omega) (by simp [World.setCell]) <;> (simp; omega)
    have hsW : w1.heap.size < W.heap.size := by rw [← hW]; simp [World.setCell]; omega
    obtain ⟨ad5, cap5, hsh5, hc5, hcell5⟩ := hNW.open
    have HBW := hid hBW
    have HFW := hid hFW
    have HEW := hid hEW
    have HGW := hid hGW
    have HNW := hid hNW
    have HLW := hid hlW
    have HOW := hid hoW
    have HW := hid hW
    subst hsh5
    clear hBW hFW hEW hNW hlW hoW hFa hF2 hE2 hG2 hN2 hl2 hbel3 hcell5 hW
    have hG3 : (((((w2.alloc (.cells #[.int .u32 1] 96)).setCell ⟨w.heap.size, 0, none⟩ (.bool b)).setCell ⟨w.heap.size, 1, none⟩ (.slice ad2 (toL N).length cap2)).setCell ⟨w.heap.size, 2, none⟩ (.bool false)).setCell ⟨w.heap.size, 3, none⟩ (.slice (some ⟨w2.heap.size, 0, none⟩) 1 1)) = W := HW.out
    cases frac
    · go_upto_block 0 with fail
      clear hG3 d0 d1 d2 d3 g0 g1 g2 g3
      obtain ⟨n0, n1, k0, k1⟩ := HGW.out.two
      by_cases hR0 : R = []
      · have hrl0 : R.length = 0 := by rw [hR0]; rfl
        rw [hrl0] at n0
        by_cases hbig : 10000 < T.length
        · have hu := hid fun (tmps : Array Value) h4 h5 => read_up 4 (by decide) tmps w W h4 h5 _ _ _ _ HBW.out HFW.out HEW.out
          have hrf : (false, 0, 0, 4) = X := by
            rw [← HX.out]; unfold readF; rw [if_neg hneq, HR.out, HT.out]; simp [hR0, hbig]
          rw [hrf] at hu
          try rw [hrl0]
          clear hrf hrl0
          go_wp2
          exact hu.out _ (by simp) (by simp)
        · obtain ⟨⟨d0, d1, d2, d3⟩, g0, g1, g2, g3⟩ := HFW.out.four
          obtain ⟨c0, f0⟩ := HEW.out.one
          have hrf : (b, N, 1, 0) = X := by
            rw [← HX.out, (HNB.out (by omega)).1, (HNB.out (by omega)).2]; unfold readF; rw [if_neg hneq, HR.out, HT.out]; simp [hR0, hbig]
          have hu := hid fun (tmps : Array Value) h4 h5 => read_done X _ _ _ hrf (w1.heap.size + 1) tmps w W h4 h5 (.slice ad2 (toL N).length cap2) (.slice (some ⟨w2.heap.size, 0, none⟩) 1 1) _ _ _ _ _ HBW.out HFW.out HEW.out HLW.out (by omega) HOW.out
          try rw [hrl0]
          clear hrf hrl0
          go_wp2
          exact hu.out _ (by simp) (by simp)
      · have hrl0 : 0 < R.length := List.length_pos_iff.2 hR0
        have hu := hid fun (tmps : Array Value) h4 h5 => read_up 20 (by decide) tmps w W h4 h5 _ _ _ _ HBW.out HFW.out HEW.out
        have hrf : (false, 0, 0, 20) = X := by
          rw [← HX.out]; unfold readF; rw [if_neg hneq, HR.out]; simp [hR0]
        rw [hrf] at hu
        clear hrf
        go_wp2
        exact hu.out _ (by simp) (by simp)
    · have q3 := next_any w1.heap.size (w.heap.size + 2) w1.heap.size _ (.int .i64 (T.length : Nat)) R 3 W HGW.out HNW.out (Nat.le_refl _) hRl (by decide)
      obtain ⟨z, hz⟩ : ∃ z, ahead 3 R = z := ⟨_, rfl⟩
      rw [hz] at q3
      have HZ := hid hz
      have Q3 := hid q3
      clear q3 hz
      go_wp2_with fail
      clear hG3 d0 d1 d2 d3 g0 g1 g2 g3
      refine Q3.out.mono ?_
      rintro e W3 ⟨rfl, v3, hg3b, hn3, hg3⟩
      have hF3 := box_grown HFW.out hg3 (by omega)
      have hE3 := box_grown HEW.out hg3 (by omega)
      have hB3 := below_grown HBW.out hg3 (by omega) (by omega)
      have hs3 := hg3.size
      have hk3 : ∀ q xs, Limbs (w1.heap.size + 1) W.heap.size W q xs → Limbs (w1.heap.size + 1) W3.heap.size W3 q xs := fun q xs h =>
        (limbs_grown h hg3 (.inr (by omega)) (Nat.le_refl _)).wide (Nat.le_refl _) hs3
      have HL3 := hid (hk3 _ _ HLW.out)
      have HO3 := hid (hk3 _ _ HOW.out)
      have HB3 := hid hB3
      have HF3 := hid hF3
      have HE3 := hid hE3
      have HG3 := hid hg3b
      obtain ⟨ad6, cap6, hsh6, hc6, hcell6⟩ := hn3.open
      have HN3 := hid hn3
      subst hsh6
      clear hF3 hE3 hB3 hk3 hn3 hg3 hcell6 hg3b Q3
      cases z
      · rw [show behind 3 R = R by unfold behind; rw [HZ.out]; rfl] at HG3 hc6 HN3
        go_upto_block 0 with fail
        obtain ⟨n0, n1, k0, k1⟩ := HG3.out.two
        by_cases hR0 : R = []
        · have hrl0 : R.length = 0 := by rw [hR0]; rfl
          rw [hrl0] at n0
          by_cases hbig : 10000 < T.length
          · have hu := hid fun (tmps : Array Value) h4 h5 => read_up 4 (by decide) tmps w W3 h4 h5 _ _ _ _ HB3.out HF3.out HE3.out
            have hrf : (false, 0, 0, 4) = X := by
              rw [← HX.out]; unfold readF; rw [if_neg hneq, HR.out, HT.out, HZ.out]; simp [hR0, hbig]
            rw [hrf] at hu
            try rw [hrl0]
            clear hrf hrl0
            go_wp2
            exact hu.out _ (by simp) (by simp)
          · obtain ⟨⟨d0, d1, d2, d3⟩, g0, g1, g2, g3⟩ := HF3.out.four
            obtain ⟨c0, f0⟩ := HE3.out.one
            have hrf : (b, N, 1, 0) = X := by
              rw [← HX.out, (HNB.out (by omega)).1, (HNB.out (by omega)).2]; unfold readF; rw [if_neg hneq, HR.out, HT.out, HZ.out]; simp [hR0, hbig]
            have hu := hid fun (tmps : Array Value) h4 h5 => read_done X _ _ _ hrf (w1.heap.size + 1) tmps w W3 h4 h5 (.slice ad2 (toL N).length cap2) (.slice (some ⟨w2.heap.size, 0, none⟩) 1 1) _ _ _ _ _ HB3.out HF3.out HE3.out HL3.out (by omega) HO3.out
            try rw [hrl0]
            clear hrf hrl0
            go_wp2
            exact hu.out _ (by simp) (by simp)
        · have hrl0 : 0 < R.length := List.length_pos_iff.2 hR0
          have hu := hid fun (tmps : Array Value) h4 h5 => read_up 20 (by decide) tmps w W3 h4 h5 _ _ _ _ HB3.out HF3.out HE3.out
          have hrf : (false, 0, 0, 20) = X := by
            rw [← HX.out]; unfold readF; rw [if_neg hneq, HR.out, HZ.out]; simp [hR0]
          rw [hrf] at hu
          clear hrf
          go_wp2
          exact hu.out _ (by simp) (by simp)
      · have hbe : behind 3 R = R.tail := by unfold behind; rw [HZ.out]; rfl
        rw [hbe] at HG3 hc6 HN3
        obtain ⟨B, hB⟩ : ∃ B, R.tail = B := ⟨_, rfl⟩
        rw [hB] at HG3 hc6 HN3
        have hBl : B.length ≤ 1000000000 := by rw [← hB, List.length_tail]; omega
        have hBs : ∀ r, r ∈ B → r < 2097152 := by
          intro r hr
          rw [← hB] at hr
          exact HRS.out r (List.mem_of_mem_tail hr)
        have HBB := hid hB
        have q4 := hid (zeros_any _ _ _ B W3 HN3.out hBl hBs)
        obtain ⟨n0, n1, k0, k1⟩ := HG3.out.two
        obtain ⟨nz, hnz⟩ : ∃ nz, allNought B = nz := ⟨_, rfl⟩
        rw [hnz] at q4
        have HNZ0 := hid hnz
        clear hbe hB hBs hnz
        go_wp2_with fail
        refine q4.out.mono ?_
        rintro e w' ⟨rfl, rfl⟩
        by_cases hzz : nz = true ∧ B ≠ []
        · obtain ⟨rfl, hBne⟩ := hzz
          have hBp : 0 < B.length := List.length_pos_iff.2 hBne
          have hu := hid fun (tmps : Array Value) h4 h5 => read_up 20 (by decide) tmps w w' h4 h5 _ _ _ _ HB3.out HF3.out HE3.out
          have hrf : (false, 0, 0, 20) = X := by
            rw [← HX.out]; unfold readF; rw [if_neg hneq, HR.out, HZ.out, HBB.out, HNZ0.out]
            have : B.isEmpty = false := by simp [hBne]
            simp [this]
          rw [hrf] at hu
          clear hrf hBne q4
          go_wp2
          exact hu.out _ (by simp) (by simp)
        · have HNZ : Hid ((nz && !B.isEmpty) = false) := by
            unfold Hid
            cases nz
            · rfl
            · have : B = [] := Classical.byContradiction fun h => hzz ⟨rfl, h⟩
              rw [this]; rfl
          have hdz : nz = false ∨ B.length = 0 := by
            cases nz
            · exact .inl rfl
            · exact .inr (by have : B = [] := Classical.byContradiction fun h => hzz ⟨rfl, h⟩
                             rw [this]; rfl)
          have q5 := hid (natural_any w1.heap.size _ _ _ T.length B w' HG3.out HN3.out (Nat.le_refl _) hBl hTl)
          clear hzz q4
          have HNZ1 : Hid ((allNought B && !B.isEmpty) = false) := by rw [HNZ0.out]; exact HNZ
          have hwalk : nz = false ∨ (nz = true ∧ B.length = 0) := by
            cases nz
            · exact .inl rfl
            · exact .inr ⟨rfl, hdz.resolve_left (by simp)⟩
          clear hdz
          rcases hwalk with rfl | ⟨rfl, hB0⟩
          · go_wp2_with fail
            refine q5.out.mono ?_
            rintro e W4 ⟨hg4, hq4⟩
            have hF4 := box_grown HF3.out hg4 (by omega)
            have hE4 := box_grown HE3.out hg4 (by omega)
            have hB4 := below_grown HB3.out hg4 (by omega) (by omega)
            have hs4 := hg4.size
            have hL4 := (limbs_grown HL3.out hg4 (.inr (by omega)) (Nat.le_refl _)).wide (Nat.le_refl _) hs4
            clear hg4 q5
            rcases hq4 with ⟨hd4, he4⟩ | ⟨hd4, v5, hG4, hN4, hq5⟩
            · unfold gaveUp at he4
              subst he4
              have hu := hid fun (tmps : Array Value) h4 h5 => read_up 20 (by decide) tmps w W4 h4 h5 _ _ _ _ hB4 hF4 hE4
              have hrf : (false, 0, 0, 20) = X := by
                rw [← HX.out]; unfold readF; rw [if_neg hneq, HR.out, HZ.out, HBB.out, HNZ1.out]; simp [hd4]
              rw [hrf] at hu
              clear hrf
              go_wp2
              exact hu.out _ (by simp) (by simp)
            · have hdg := hd4
              obtain ⟨qm, M, he, hlm, hMm⟩ : ∃ (qm : Value) (M : Nat), e = .returned qm ∧ Limbs (w1.heap.size + 1) W4.heap.size W4 qm (toL M) ∧
                  (T.length + (digs B).length ≤ 10000 → M = ofDigits 10 ((digs B).map worth)) := by
                rcases hq5 with ⟨h1, h2⟩ | ⟨h1, q, h2, h3⟩
                · exact ⟨_, 0, h2, by rw [toL_zero]; exact Limbs.nil, fun h => absurd h (by omega)⟩
                · exact ⟨q, _, h2, h3.wide (by omega) (Nat.le_refl _), fun _ => rfl⟩
              have HMM := hid hMm
              subst he
              obtain ⟨ad7, cap7, hsh7⟩ := hlm.shape
              subst hsh7
              clear hq5 hMm
              obtain ⟨⟨d0, d1, d2, d3⟩, g0, g1, g2, g3⟩ := hF4.four
              obtain ⟨W5, hW5⟩ : ∃ W5, (W4.setCell ⟨w.heap.size, 2, none⟩ (.bool false)).setCell ⟨w.heap.size, 3, none⟩ (.slice ad7 (toL M).length cap7) = W5 := ⟨_, rfl⟩
              have hsz5 : W5.heap.size = W4.heap.size := by rw [← hW5]; simp [World.setCell]
              have HB5 : Hid (Below w.heap.size w W5) := by
                rw [← hW5]; exact (hB4.setCell (by simp) _).setCell (by simp) _
              have HF5 : Hid (BoxIs W5 w.heap.size 42 [.bool b, .slice ad2 (toL N).length cap2, .bool false, .slice ad7 (toL M).length cap7]) := by
                rw [← hW5]; exact (hF4.set 2 _).set 3 _
              have HE5 : Hid (BoxIs W5 (w.heap.size + 1) 43 [.int .i64 0]) := by
                rw [← hW5]; exact (hE4.other _ _ (by simp)).other _ _ (by simp)
              have HG5 : Hid (BoxIs W5 w1.heap.size 123 [v5, .int .i64 ((T.length + (digs B).length : Nat) : Nat)]) := by
                rw [← hW5]; exact (hG4.other _ _ (by simp; omega)).other _ _ (by simp; omega)
              have HN5 : Hid (Nums .i32 (w.heap.size + 2) w1.heap.size W5 v5 (past B)) := by
                rw [← hW5]
                refine (hN4.set _ _ (.inl ?_)).set _ _ (.inl ?_) <;> simp
              have HL5 : Hid (Limbs (w1.heap.size + 1) W5.heap.size W5 (.slice ad2 (toL N).length cap2) (toL N)) := by
                rw [hsz5, ← hW5]
                refine (hL4.set _ _ (.inl ?_)).set _ _ (.inl ?_) <;> (simp; omega)
              have HM5 : Hid (Limbs (w1.heap.size + 1) W5.heap.size W5 (.slice ad7 (toL M).length cap7) (toL M)) := by
                rw [hsz5, ← hW5]
                refine (hlm.set _ _ (.inl ?_)).set _ _ (.inl ?_) <;> (simp; omega)
              obtain ⟨P, hP⟩ : ∃ P, past B = P := ⟨_, rfl⟩
              rw [hP] at HN5
              obtain ⟨ad8, cap8, hsh8, hc8, _⟩ := HN5.out.open
              have HPP := hid hP
              have HNZ := HNZ1
              have hlo5 : w1.heap.size + 1 ≤ W5.heap.size := by omega
              subst hsh8
              clear hF4 hE4 hB4 hL4 hG4 hN4 hlm hP hd4 n0 n1 k0 k1
              have HW5 := hid hW5
              go_upto_block 0 with fail
              clear hW5 d0 d1 d2 d3 g0 g1 g2 g3
              obtain ⟨n0, n1, k0, k1⟩ := HG5.out.two
              by_cases hR0 : P = []
              · have hrl0 : P.length = 0 := by rw [hR0]; rfl
                rw [hrl0] at n0
                by_cases hbig : 10000 < (T.length + (digs B).length)
                · have hu := hid fun (tmps : Array Value) h4 h5 => read_up 4 (by decide) tmps w W5 h4 h5 _ _ _ _ HB5.out HF5.out HE5.out
                  have hrf : (false, 0, 0, 4) = X := by
                    rw [← HX.out]; unfold readF; rw [if_neg hneq, HR.out, HZ.out, HBB.out, HT.out, HPP.out, HNZ.out]; simp [hR0, hdg, hbig]
                  rw [hrf] at hu
                  try rw [hrl0]
                  clear hrf hrl0
                  go_wp2
                  exact hu.out _ (by simp) (by simp)
                · obtain ⟨⟨d0, d1, d2, d3⟩, g0, g1, g2, g3⟩ := HF5.out.four
                  obtain ⟨c0, f0⟩ := HE5.out.one
                  have hrf : (b, N, M, 0) = X := by
                    rw [← HX.out, (HNB.out (by omega)).1, (HNB.out (by omega)).2, HMM.out (by omega)]; unfold readF; rw [if_neg hneq, HR.out, HZ.out, HBB.out, HT.out, HPP.out, HNZ.out]; simp [hR0, hdg, hbig]
                  have hu := hid fun (tmps : Array Value) h4 h5 => read_done X _ _ _ hrf (w1.heap.size + 1) tmps w W5 h4 h5 (.slice ad2 (toL N).length cap2) (.slice ad7 (toL M).length cap7) _ _ _ _ _ HB5.out HF5.out HE5.out HL5.out (by omega) HM5.out
                  try rw [hrl0]
                  clear hrf hrl0
                  go_wp2
                  exact hu.out _ (by simp) (by simp)
              · have hrl0 : 0 < P.length := List.length_pos_iff.2 hR0
                have hu := hid fun (tmps : Array Value) h4 h5 => read_up 20 (by decide) tmps w W5 h4 h5 _ _ _ _ HB5.out HF5.out HE5.out
                have hrf : (false, 0, 0, 20) = X := by
                  rw [← HX.out]; unfold readF; rw [if_neg hneq, HR.out, HZ.out, HBB.out, HT.out, HPP.out, HNZ.out]; simp [hR0, hdg]
                rw [hrf] at hu
                clear hrf
                go_wp2
                exact hu.out _ (by simp) (by simp)
          · try rw [hB0]
            rw [hB0] at n0
            go_wp2_with fail
            refine q5.out.mono ?_
            rintro e W4 ⟨hg4, hq4⟩
            have hF4 := box_grown HF3.out hg4 (by omega)
            have hE4 := box_grown HE3.out hg4 (by omega)
            have hB4 := below_grown HB3.out hg4 (by omega) (by omega)
            have hs4 := hg4.size
            have hL4 := (limbs_grown HL3.out hg4 (.inr (by omega)) (Nat.le_refl _)).wide (Nat.le_refl _) hs4
            clear hg4 q5
            rcases hq4 with ⟨hd4, he4⟩ | ⟨hd4, v5, hG4, hN4, hq5⟩
            · unfold gaveUp at he4
              subst he4
              have hu := hid fun (tmps : Array Value) h4 h5 => read_up 20 (by decide) tmps w W4 h4 h5 _ _ _ _ hB4 hF4 hE4
              have hrf : (false, 0, 0, 20) = X := by
                rw [← HX.out]; unfold readF; rw [if_neg hneq, HR.out, HZ.out, HBB.out, HNZ1.out]; simp [hd4]
              rw [hrf] at hu
              clear hrf
              go_wp2
              exact hu.out _ (by simp) (by simp)
            · have hdg := hd4
              obtain ⟨qm, M, he, hlm, hMm⟩ : ∃ (qm : Value) (M : Nat), e = .returned qm ∧ Limbs (w1.heap.size + 1) W4.heap.size W4 qm (toL M) ∧
                  (T.length + (digs B).length ≤ 10000 → M = ofDigits 10 ((digs B).map worth)) := by
                rcases hq5 with ⟨h1, h2⟩ | ⟨h1, q, h2, h3⟩
                · exact ⟨_, 0, h2, by rw [toL_zero]; exact Limbs.nil, fun h => absurd h (by omega)⟩
                · exact ⟨q, _, h2, h3.wide (by omega) (Nat.le_refl _), fun _ => rfl⟩
              have HMM := hid hMm
              subst he
              obtain ⟨ad7, cap7, hsh7⟩ := hlm.shape
              subst hsh7
              clear hq5 hMm
              obtain ⟨⟨d0, d1, d2, d3⟩, g0, g1, g2, g3⟩ := hF4.four
              obtain ⟨W5, hW5⟩ : ∃ W5, (W4.setCell ⟨w.heap.size, 2, none⟩ (.bool false)).setCell ⟨w.heap.size, 3, none⟩ (.slice ad7 (toL M).length cap7) = W5 := ⟨_, rfl⟩
              have hsz5 : W5.heap.size = W4.heap.size := by rw [← hW5]; simp [World.setCell]
              have HB5 : Hid (Below w.heap.size w W5) := by
                rw [← hW5]; exact (hB4.setCell (by simp) _).setCell (by simp) _
              have HF5 : Hid (BoxIs W5 w.heap.size 42 [.bool b, .slice ad2 (toL N).length cap2, .bool false, .slice ad7 (toL M).length cap7]) := by
                rw [← hW5]; exact (hF4.set 2 _).set 3 _
              have HE5 : Hid (BoxIs W5 (w.heap.size + 1) 43 [.int .i64 0]) := by
                rw [← hW5]; exact (hE4.other _ _ (by simp)).other _ _ (by simp)
              have HG5 : Hid (BoxIs W5 w1.heap.size 123 [v5, .int .i64 ((T.length + (digs B).length : Nat) : Nat)]) := by
                rw [← hW5]; exact (hG4.other _ _ (by simp; omega)).other _ _ (by simp; omega)
              have HN5 : Hid (Nums .i32 (w.heap.size + 2) w1.heap.size W5 v5 (past B)) := by
                rw [← hW5]
                refine (hN4.set _ _ (.inl ?_)).set _ _ (.inl ?_) <;> simp
              have HL5 : Hid (Limbs (w1.heap.size + 1) W5.heap.size W5 (.slice ad2 (toL N).length cap2) (toL N)) := by
                rw [hsz5, ← hW5]
                refine (hL4.set _ _ (.inl ?_)).set _ _ (.inl ?_) <;> (simp; omega)
              have HM5 : Hid (Limbs (w1.heap.size + 1) W5.heap.size W5 (.slice ad7 (toL M).length cap7) (toL M)) := by
                rw [hsz5, ← hW5]
                refine (hlm.set _ _ (.inl ?_)).set _ _ (.inl ?_) <;> (simp; omega)
              obtain ⟨P, hP⟩ : ∃ P, past B = P := ⟨_, rfl⟩
              rw [hP] at HN5
              obtain ⟨ad8, cap8, hsh8, hc8, _⟩ := HN5.out.open
              have HPP := hid hP
              have HNZ := HNZ1
              have hlo5 : w1.heap.size + 1 ≤ W5.heap.size := by omega
              subst hsh8
              clear hF4 hE4 hB4 hL4 hG4 hN4 hlm hP hd4 n0 n1 k0 k1
              have HW5 := hid hW5
              go_upto_block 0 with fail
              clear hW5 d0 d1 d2 d3 g0 g1 g2 g3
              obtain ⟨n0, n1, k0, k1⟩ := HG5.out.two
              by_cases hR0 : P = []
              · have hrl0 : P.length = 0 := by rw [hR0]; rfl
                rw [hrl0] at n0
                by_cases hbig : 10000 < (T.length + (digs B).length)
                · have hu := hid fun (tmps : Array Value) h4 h5 => read_up 4 (by decide) tmps w W5 h4 h5 _ _ _ _ HB5.out HF5.out HE5.out
                  have hrf : (false, 0, 0, 4) = X := by
                    rw [← HX.out]; unfold readF; rw [if_neg hneq, HR.out, HZ.out, HBB.out, HT.out, HPP.out, HNZ.out]; simp [hR0, hdg, hbig]
                  rw [hrf] at hu
                  try rw [hrl0]
                  clear hrf hrl0
                  go_wp2
                  exact hu.out _ (by simp) (by simp)
                · obtain ⟨⟨d0, d1, d2, d3⟩, g0, g1, g2, g3⟩ := HF5.out.four
                  obtain ⟨c0, f0⟩ := HE5.out.one
                  have hrf : (b, N, M, 0) = X := by
                    rw [← HX.out, (HNB.out (by omega)).1, (HNB.out (by omega)).2, HMM.out (by omega)]; unfold readF; rw [if_neg hneq, HR.out, HZ.out, HBB.out, HT.out, HPP.out, HNZ.out]; simp [hR0, hdg, hbig]
                  have hu := hid fun (tmps : Array Value) h4 h5 => read_done X _ _ _ hrf (w1.heap.size + 1) tmps w W5 h4 h5 (.slice ad2 (toL N).length cap2) (.slice ad7 (toL M).length cap7) _ _ _ _ _ HB5.out HF5.out HE5.out HL5.out (by omega) HM5.out
                  try rw [hrl0]
                  clear hrf hrl0
                  go_wp2
                  exact hu.out _ (by simp) (by simp)
              · have hrl0 : 0 < P.length := List.length_pos_iff.2 hR0
                have hu := hid fun (tmps : Array Value) h4 h5 => read_up 20 (by decide) tmps w W5 h4 h5 _ _ _ _ HB5.out HF5.out HE5.out
                have hrf : (false, 0, 0, 20) = X := by
                  rw [← HX.out]; unfold readF; rw [if_neg hneq, HR.out, HZ.out, HBB.out, HT.out, HPP.out, HNZ.out]; simp [hR0, hdg]
                rw [hrf] at hu
                clear hrf
                go_wp2
                exact hu.out _ (by simp) (by simp)
end Go.Proofs.YtjjidmgeladicaaDoor

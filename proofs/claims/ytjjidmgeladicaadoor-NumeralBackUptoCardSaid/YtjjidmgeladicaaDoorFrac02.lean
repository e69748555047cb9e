/- simileref02.frac, Frac: what a fraction's text says. -/
import Derived.Test.YtjjidmgeladicaaDoorLaw1
namespace Go.Proofs.YtjjidmgeladicaaDoor
open Go.RowKit

def notBar (r : Nat) : Bool := !isBar r
/-- ahead of the bar; behind it -/
def upper (L : List Nat) : List Nat := L.takeWhile notBar
def lower (L : List Nat) : List Nat := if (upper L).length < L.length then L.drop ((upper L).length + 1) else [49]
def upS (L : List Nat) : List Nat := if negative (upper L) then (upper L).tail else upper L
def digN (L : List Nat) : Nat := (upS L).length + (if (upper L).length < L.length then (lower L).length else 0)

/-- no digits, or others among them -/
def badB (L : List Nat) : Bool := L.isEmpty || !(L.all fun r => decide (worth r < 10))

theorem badB_iff (L : List Nat) : badB L = true ↔ L = [] ∨ ¬ AllOk 10 L := by
  unfold badB
  rw [allOk_iff, Bool.or_eq_true, List.isEmpty_iff]
  simp

/-- what a fraction's runes say: the sign, the number, the denominator, the error -/
def fracR (L : List Nat) : Bool × Nat × Nat × Nat :=
  if badB (upS L) = true then (false, 0, 0, 20)
  else if badB (lower L) = true then (false, 0, 0, 20)
  else if allNought (lower L) = true then (false, 0, 0, 20)
  else if 10000 < digN L then (false, 0, 0, 4)
  else (negative (upper L) && decide (ofDigits 10 ((upS L).map worth) ≠ 0), ofDigits 10 ((upS L).map worth), ofDigits 10 ((lower L).map worth), 0)

theorem upper_at (L : List Nat) (k : Nat) (hk : k < L.length) (h : ∀ r, r ∈ L.take k → isBar r = false) (hb : isBar (L.getD k 0) = true) : upper L = L.take k := by
  have e : L = L.take k ++ L.drop k := (List.take_append_drop k L).symm
  have e2 : L.drop k = L.getD k 0 :: L.drop (k + 1) := by rw [List.drop_eq_getElem_cons hk]; simp [List.getD, hk]
  unfold upper
  conv => lhs; rw [e, e2]
  rw [List.takeWhile_append_of_pos (fun r hr => by unfold notBar; rw [h r hr]; rfl), List.takeWhile_cons_of_neg (by unfold notBar; rw [hb]; simp), List.append_nil]

theorem upper_all (L : List Nat) (h : ∀ r, r ∈ L → isBar r = false) : upper L = L := by
  unfold upper
  have e : L = L ++ [] := (List.append_nil L).symm
  conv => lhs; rw [e]
  rw [List.takeWhile_append_of_pos (fun r hr => by unfold notBar; rw [h r hr]; rfl)]
  simp

theorem nought_snoc (D : List Nat) (k : Nat) (hk : k < D.length) : allNought (D.take (k + 1)) = (allNought (D.take k) && (D.getD k 0 == 48)) := by
  rw [take_snoc D 0 k hk]
  simp [allNought]

theorem upper_take (L : List Nat) : upper L = L.take (upper L).length := by
  have h : upper L <+: L := List.takeWhile_prefix _
  exact (List.prefix_iff_eq_take.1 h)

theorem upper_le (L : List Nat) : (upper L).length ≤ L.length := (List.takeWhile_sublist _).length_le

theorem nums_pre {k : IntKind} {lo hi : Nat} {w : World} {ad : Option Addr} {n cap : Nat} {xs : List Nat} (h : Nums k lo hi w (.slice ad n cap) xs) (m : Nat) (hm : m ≤ xs.length) : Nums k lo hi w (.slice ad m cap) (xs.take m) := by
  obtain ⟨ad', cap', hv, hc, hnn, hne⟩ := h
  simp only [Value.slice.injEq] at hv
  obtain ⟨rfl, rfl, rfl⟩ := hv
  refine ⟨ad, cap, by simp [hm], by simp; omega, hnn, fun h => ?_⟩
  have hp : xs ≠ [] := fun e => h (by rw [e]; simp)
  obtain ⟨b, off, ha, hl, hh, hcell⟩ := hne hp
  refine ⟨b, off, ha, hl, hh, fun i hi => ?_⟩
  simp only [List.length_take] at hi
  rw [hcell i (by omega)]
  have : (xs.take m).getD i 0 = xs.getD i 0 := by simp [List.getD, show i < m by omega]
  rw [this]

theorem nums_drop {k : IntKind} {lo hi : Nat} {w : World} {b off n cap : Nat} {xs : List Nat} (h : Nums k lo hi w (.slice (some ⟨b, off, none⟩) n cap) xs) (m : Nat) (hm : m ≤ xs.length) :
    Nums k lo hi w (.slice (some (if cap = m then ⟨b, off, none⟩ else ⟨b, off + m, none⟩)) (xs.length - m) (cap - m)) (xs.drop m) := by
  obtain ⟨ad', cap', hv, hc, hnn, hne⟩ := h
  simp only [Value.slice.injEq] at hv
  obtain ⟨rfl, rfl, rfl⟩ := hv
  refine ⟨_, _, by rw [List.length_drop], by simp; omega, by simp, fun h => ?_⟩
  have hp : xs ≠ [] := fun e => h (by rw [e]; simp)
  have hml : m < xs.length := by
    rcases Nat.lt_or_ge m xs.length with h9 | h9
    · exact h9
    · exact absurd (List.drop_eq_nil_of_le h9) h
  obtain ⟨b', off', ha, hl, hh, hcell⟩ := hne hp
  simp only [Option.some.injEq, Addr.mk.injEq, and_true] at ha
  obtain ⟨rfl, rfl⟩ := ha
  refine ⟨b, off + m, by rw [if_neg (by omega)], hl, hh, fun i hi => ?_⟩
  simp only [List.length_drop] at hi
  have h9 := hcell (m + i) (by omega)
  rw [Nat.add_assoc, h9]
  have : (xs.drop m).getD i 0 = xs.getD (m + i) 0 := by simp [List.getD, List.getElem?_drop]
  rw [this]

set_option maxRecDepth 100000 in
set_option maxHeartbeats 3200000 in
theorem frac02_any (lo h1 : Nat) (v : Value) (L : List Nat) (w : World) (h : Nums .i32 lo h1 w v L) (hh1 : h1 ≤ w.heap.size) (hl : L.length ≤ 1000000000) (hrl : ∀ r, r ∈ L → r < 2097152) :
    Calls Tryd.prog 72 #[v] w fun e w' => Below w.heap.size w w' ∧ FracSays w w' e (fracR L) := by
  obtain ⟨hb0, b0, hsz⟩ := boxA w #[.bool false, .slice none 0 0, .bool false, .slice none 0 0] 42
  have h0 := h.below hb0 hh1
  obtain ⟨ad, cap, hsh, hc, hcell⟩ := h0.open
  subst hsh
  have HC := hid hcell
  have HRL := hid hrl
  have HH := hid h0
  obtain ⟨X, hX⟩ : ∃ X, fracR L = X := ⟨_, rfl⟩
  rw [hX]
  have HX := hid hX
  clear hcell h hrl h0 hX
  go_enter Tryd.func72, Tryd.ntmps72
  go_upto_block 0 with fail
  revert hb0 b0 hsz HC HH
  generalize w.alloc (.cells #[.bool false, .slice none 0 0, .bool false, .slice none 0 0] 42) = W0
  intro hb0 b0 hsz HC HH
  go_cut [4] (fun av w' => w' = W0 ∧ av = .int .i64 ((upper L).length : Nat))
  case first =>
    go_wp2
    go_loopw [4, 22] (fun u t wr => ∃ k : Nat, u = .int .i64 (L.length : Nat) ∧ t = .int .i64 k ∧ k ≤ L.length ∧ wr = W0 ∧ (∀ r, r ∈ L.take k → isBar r = false)) (fun _ t _ => L.length - (intOf t).toNat)
    case atStart => exact ⟨0, rfl, rfl, Nat.zero_le _, by simp, by simp⟩
    case round =>
      obtain ⟨k, rfl, rfl, hk, rfl, hok⟩ := hrel
      have HOK := hid hok
      clear hok
      by_cases hkl : k < L.length
      · obtain ⟨bb, off, rfl, _, _, hc1⟩ := HC.out k hkl
        obtain ⟨r, hr⟩ : ∃ r, L.getD k 0 = r := ⟨_, rfl⟩
        rw [hr] at hc1
        have Q1 := hid (bar_any r wr)
        have HR := hid hr
        have f1 : (k : Int) < (L.length : Int) := by omega
        obtain ⟨z, hz⟩ : ∃ z, isBar r = z := ⟨_, rfl⟩
        rw [hz] at Q1
        have HZ := hid hz
        clear hr hz
        go_wp2_with fail
        refine Q1.out.mono ?_
        rintro e w' ⟨rfl, rfl⟩
        cases z
        · have hok2 : ∀ r, r ∈ L.take (k + 1) → isBar r = false := by
            intro r' hr'
            rw [take_snoc L 0 k hkl, List.mem_append] at hr'
            rcases hr' with h | h
            · exact HOK.out r' h
            · simp only [List.mem_singleton] at h
              rw [h, HR.out]; exact HZ.out
          have HOK2 := hid hok2
          clear hok2
          go_wp2
          exact ⟨⟨k + 1, rfl, by go_num, by omega, trivial, HOK2.out⟩, by simp [intOf]; omega⟩
        · have HU := hid (upper_at L k hkl HOK.out (by rw [HR.out]; exact HZ.out))
          go_wp2
          go_meet
          case rel => exact ⟨rfl, by rw [HU.out]; simp; omega⟩
      · obtain rfl : k = L.length := by omega
        rw [List.take_length] at HOK
        have HU := hid (upper_all L HOK.out)
        go_wp2
        go_meet
        case rel => exact ⟨rfl, by rw [HU.out]⟩
  case rest =>
    obtain ⟨rfl, rfl⟩ := hcut
    have hnl := upper_le L
    have hut := upper_take L
    obtain ⟨n, hn⟩ : ∃ n, (upper L).length = n := ⟨_, rfl⟩
    rw [hn] at hnl hut ⊢
    have HUT := hid hut
    have HN := hid hn
    have hU : Nums .i32 lo h1 wc (.slice ad n cap) (upper L) := by rw [hut]; exact nums_pre HH.out n hnl
    have Q1 := hid (signed02_any lo h1 _ (upper L) wc hU (by omega))
    clear hut hn hU
    go_wp2_with fail
    refine Q1.out.mono ?_
    rintro e w' ⟨rfl, r7, rfl, hr7⟩
    have hr7' : Nums .i32 lo h1 wc r7 (upS L) := hr7
    obtain ⟨ad7, cap7, hsh7, _, _⟩ := hr7'.open
    have HR7 := hid hr7'
    subst hsh7
    clear hr7 hr7' Q1
    have hlit : (wc.alloc (.cells #[.int .i32 49] 21)).ownsRow wc.heap.size 21 1 (.slice (some ⟨wc.heap.size, 0, none⟩) 1 1) 1 (numsC .i32 [49]) := World.ownsRow_lit wc _ 1 (Nat.le_refl _) (by decide) rfl
    have HLIT := hid (Nums.ofOwn hlit)
    have hbW := (Below.refl wc.heap.size wc).alloc (Nat.le_refl _) (.cells #[.int .i32 49] 21)
    have hw0 : h1 ≤ wc.heap.size := by omega
    have HHW := hid (HH.out.below hbW hw0)
    have HR7W := hid (HR7.out.below hbW hw0)
    have hbF := b0.later hbW
    have hbel := hb0.trans (hbW.mono hb0.size)
    have hsW : (wc.alloc (.cells #[.int .i32 49] 21)).heap.size = wc.heap.size + 1 := by simp
    have hul : (upS L).length ≤ n := by
      have : (upS L).length ≤ (upper L).length := by unfold upS; split <;> simp
      have h9 := HN.out
      omega
    obtain ⟨W1, hW1⟩ : ∃ W1, wc.alloc (.cells #[.int .i32 49] 21) = W1 := ⟨_, rfl⟩
    rw [hW1] at HLIT HHW HR7W hbF hbel hsW
    have HSZ := hid hsz
    clear hlit hbW HC b0 hsz
    go_upto_if 44 with (fail)
    go_cut [9, 10] (fun v9 v10 w' => w' = W1 ∧ v10 = .int .i64 (digN L : Nat) ∧ ∃ lo2 hi2, hi2 ≤ W1.heap.size ∧ Nums .i32 lo2 hi2 W1 v9 (lower L))
    case first =>
      by_cases hlt : n < L.length
      · have hlow : lower L = L.drop (n + 1) := by unfold lower; rw [HN.out, if_pos hlt]
        have hdig : digN L = (upS L).length + (L.length - (n + 1)) := by unfold digN; rw [HN.out, if_pos hlt, hlow, List.length_drop]
        obtain ⟨ad', cap', hv, _, _, hne⟩ := HHW.out
        simp only [Value.slice.injEq] at hv
        obtain ⟨h1', _, h2'⟩ := hv
        subst h1'
        subst h2'
        obtain ⟨b, off, rfl, _⟩ := hne (by intro e; rw [e] at hlt; simp at hlt)
        have hdr := nums_drop HHW.out (n + 1) (by omega)
        rw [← hlow] at hdr
        have HDIG := hid hdig
        have hlt2 : (n : Int) < (L.length : Int) := by omega
        have hh1s : h1 ≤ W1.heap.size := by omega
        clear hne hW1 hlow hdig
        by_cases hcn : cap = n + 1
        · rw [if_pos hcn] at hdr
          have hL1 : L.length = n + 1 := by omega
          have HDR := hid hdr
          clear hdr
          go_wp2
          all_goals
            go_meet
            case rel => exact ⟨rfl, by rw [HDIG.out]; congr 1; try omega, _, _, hh1s, by simpa [hcn, hL1] using HDR.out⟩
        · rw [if_neg hcn] at hdr
          have HDR := hid hdr
          clear hdr
          go_wp2
          all_goals
            go_meet
            case rel => exact ⟨rfl, by rw [HDIG.out]; congr 1; try omega, _, _, hh1s, HDR.out⟩
      · have hlow : lower L = [49] := by unfold lower; rw [HN.out, if_neg hlt]
        have hdig : digN L = (upS L).length := by unfold digN; rw [HN.out, if_neg hlt]; rfl
        obtain rfl : n = L.length := by omega
        have HLOW := hid hlow
        have HDIG := hid hdig
        clear hlow hdig hW1
        go_wp2
        go_meet
        case rel => exact ⟨rfl, by rw [HDIG.out], _, _, Nat.le_refl _, by rw [HLOW.out]; exact HLIT.out⟩
    case rest =>
      obtain ⟨rfl, rfl, lo2, hi2, hhi2, hlow⟩ := hcut
      have hus : ∀ r, r ∈ upS L → r < 2097152 := by
        intro r hr
        have h9 : r ∈ upper L := by
          unfold upS at hr
          split at hr
          · exact List.mem_of_mem_tail hr
          · exact hr
        exact HRL.out r ((List.takeWhile_sublist _).subset h9)
      have hls : ∀ r, r ∈ lower L → r < 2097152 := by
        intro r hr
        unfold lower at hr
        split at hr
        · exact HRL.out r (List.mem_of_mem_drop hr)
        · simp at hr; omega
      have hll : (lower L).length ≤ 1000000000 := by
        unfold lower
        split
        · rw [List.length_drop]; omega
        · simp
      have HUS := hid hus
      have HLS := hid hls
      obtain ⟨ad9, cap9, hsh9, hc9, hcell9⟩ := hlow.open
      subst hsh9
      have HLOW := hid hlow
      have q1 := hid (all02_any _ _ _ (upS L) 10 wc HR7W.out (by omega) hus (by decide) (by decide))
      clear hus hls hlow hcell9 HH HHW HLIT HUT HR7
      go_wp2_with fail
      refine q1.out.mono ?_
      rintro e w2 ⟨hb2, hq⟩
      have hbF2 := hbF.later hb2
      have hbel2 := hbel.trans (hb2.mono hbel.size)
      have HR72 := hid (HR7W.out.below hb2 (by omega))
      have HLOW2 := hid (HLOW.out.below hb2 hhi2)
      have hs2 := hb2.size
      clear q1 hb2 hbF hbel HR7W HLOW
      by_cases hbad1 : badB (upS L) = true
      · obtain rfl : e = .returned (.bool false) := by
          rcases hq with ⟨h8, h9⟩ | ⟨_, h9⟩
          · rcases (badB_iff _).1 hbad1 with h | h
            · rw [h9, h]; rfl
            · exact absurd h8 h
          · exact h9
        have hP : (false, 0, 0, 20) = X := by rw [← HX.out]; unfold fracR; rw [if_pos hbad1]
        obtain ⟨⟨d0, d1, d2, d3⟩, g0, g1, g2, g3⟩ := hbF2.four
        have HP := hid hP
        clear hP hq hbad1
        go_wp2
        refine bodyPost_ret (v := .tuple #[.agg #[.bool false, .slice none 0 0, .bool false, .slice none 0 0], .int .i64 20]) (by simp [results, Tryd.results72, go_sem, d0, d1, d2, d3]) rfl ?_
        rw [← HP.out]
        exact ⟨(((hbel2.setCell (by simp) _).setCell (by simp) _).setCell (by simp) _).setCell (by simp) _, _, _, rfl, by rw [toL_zero]; exact Limbs.nil, by rw [toL_zero]; exact Limbs.nil⟩
      · obtain rfl : e = .returned (.bool true) := by
          rcases hq with ⟨_, h9⟩ | ⟨h8, _⟩
          · rw [h9]
            have : 0 < (upS L).length := List.length_pos_iff.2 fun h => hbad1 ((badB_iff _).2 (.inl h))
            simp [this]
          · exact absurd ((badB_iff _).2 (.inr h8)) hbad1
        have q2 := hid (all02_any _ _ _ (lower L) 10 w2 HLOW2.out hll HLS.out (by decide) (by decide))
        have HBAD1 := hid hbad1
        clear hq hbad1
        go_wp2_with fail
        refine q2.out.mono ?_
        rintro e w3 ⟨hb3, hq⟩
        have hbF3 := hbF2.later hb3
        have hbel3 := hbel2.trans (hb3.mono hbel2.size)
        have HR73 := hid (HR72.out.below hb3 (by omega))
        have HLOW3 := hid (HLOW2.out.below hb3 (by omega))
        have hs3 := hb3.size
        clear q2 hb3 hbF2 hbel2 HR72 HLOW2
        by_cases hbad2 : badB (lower L) = true
        · obtain rfl : e = .returned (.bool false) := by
            rcases hq with ⟨h8, h9⟩ | ⟨_, h9⟩
            · rcases (badB_iff _).1 hbad2 with h | h
              · rw [h9, h]; rfl
              · exact absurd h8 h
            · exact h9
          have hP : (false, 0, 0, 20) = X := by rw [← HX.out]; unfold fracR; rw [if_neg HBAD1.out, if_pos hbad2]
          obtain ⟨⟨d0, d1, d2, d3⟩, g0, g1, g2, g3⟩ := hbF3.four
          have HP := hid hP
          clear hP hq hbad2
          go_wp2
          refine bodyPost_ret (v := .tuple #[.agg #[.bool false, .slice none 0 0, .bool false, .slice none 0 0], .int .i64 20]) (by simp [results, Tryd.results72, go_sem, d0, d1, d2, d3]) rfl ?_
          rw [← HP.out]
          exact ⟨(((hbel3.setCell (by simp) _).setCell (by simp) _).setCell (by simp) _).setCell (by simp) _, _, _, rfl, by rw [toL_zero]; exact Limbs.nil, by rw [toL_zero]; exact Limbs.nil⟩
        · obtain rfl : e = .returned (.bool true) := by
            rcases hq with ⟨_, h9⟩ | ⟨h8, _⟩
            · rw [h9]
              have : 0 < (lower L).length := List.length_pos_iff.2 fun h => hbad2 ((badB_iff _).2 (.inl h))
              simp [this]
            · exact absurd ((badB_iff _).2 (.inr h8)) hbad2
          have HBAD2 := hid hbad2
          clear hq hbad2
          go_wp2
          obtain ⟨D, hD⟩ : ∃ D, lower L = D := ⟨_, rfl⟩
          rw [hD] at HLOW3 hll HLS HBAD2 hc9 ⊢
          have HD := hid hD
          obtain ⟨ad9', cap9', hv9, hcD, hcellD⟩ := HLOW3.out.open
          simp only [Value.slice.injEq] at hv9
          obtain ⟨hv9a, hv9b, hv9c⟩ := hv9
          subst hv9a
          subst hv9c
          have HCD := hid hcellD
          have HV9 := hid hv9b
          clear hcellD hv9b hD
          go_loopw [11, 64] (fun u t wr => ∃ k : Nat, u = .bool (allNought (D.take k)) ∧ t = .int .i64 k ∧ k ≤ D.length ∧ wr = w3) (fun _ t _ => D.length - (intOf t).toNat)
          case atStart => exact ⟨0, rfl, rfl, Nat.zero_le _, by simp⟩
          case round =>
            obtain ⟨k, rfl, rfl, hk, rfl⟩ := hrel
            by_cases hkl : k < D.length
            · obtain ⟨bb, off, rfl, _, _, hc1⟩ := HCD.out k hkl
              obtain ⟨r, hr⟩ : ∃ r, D.getD k 0 = r := ⟨_, rfl⟩
              have hsn := nought_snoc D k hkl
              rw [hr] at hc1 hsn
              have f1 : (k : Int) < (D.length : Int) := by omega
              obtain ⟨z, hz⟩ : ∃ z, allNought (D.take k) = z := ⟨_, rfl⟩
              rw [hz] at hsn
              try rw [hz]
              have HSN := hid hsn
              have HZ := hid hz
              clear hr hsn
              by_cases h48 : r = 48
              · subst h48
                cases z
                all_goals
                  go_wp2
                  exact ⟨⟨k + 1, by rw [HSN.out]; rfl, by go_num, by omega, trivial⟩, by simp [intOf]; omega⟩
              · have h48b : (((r : Nat) : Int) == 48) = false := by simp; omega
                have h48n : (r == 48) = false := by simpa using h48
                have HSN2 : Hid (allNought (D.take (k + 1)) = false) := by
                  unfold Hid
                  rw [HSN.out, h48n, Bool.and_false]
                clear h48n
                cases z
                all_goals
                  go_wp2
                  exact ⟨⟨k + 1, by rw [HSN2.out], by go_num, by omega, trivial⟩, by simp [intOf]; omega⟩
            · obtain rfl : k = D.length := by omega
              rw [List.take_length]
              obtain ⟨z, hz⟩ : ∃ z, allNought D = z := ⟨_, rfl⟩
              rw [hz]
              have HZ := hid hz
              clear hz
              cases z
              · have hnz : ¬ allNought D = true := by rw [HZ.out]; simp
                have HNZ := hid hnz
                clear hnz
                obtain ⟨dn, hdn⟩ : ∃ dn, digN L = dn := ⟨_, rfl⟩
                rw [hdn]
                have HDN := hid hdn
                clear hdn
                by_cases hbig : 10000 < dn
                · have hP : (false, 0, 0, 4) = X := by rw [← HX.out]; unfold fracR; rw [if_neg HBAD1.out, HD.out, if_neg HBAD2.out, if_neg HNZ.out, HDN.out, if_pos hbig]
                  obtain ⟨⟨d0, d1, d2, d3⟩, g0, g1, g2, g3⟩ := hbF3.four
                  have HP := hid hP
                  clear hP hk
                  go_wp2
                  refine bodyPost_ret (v := .tuple #[.agg #[.bool false, .slice none 0 0, .bool false, .slice none 0 0], .int .i64 4]) (by simp [results, Tryd.results72, go_sem, d0, d1, d2, d3]) rfl ?_
                  rw [← HP.out]
                  exact ⟨(((hbel3.setCell (by simp) _).setCell (by simp) _).setCell (by simp) _).setCell (by simp) _, _, _, rfl, by rw [toL_zero]; exact Limbs.nil, by rw [toL_zero]; exact Limbs.nil⟩
                · have q3 := hid (value02_any _ _ _ (upS L) 10 wr HR73.out (by omega) HUS.out (by decide) (by decide))
                  have hok1 : AllOk 10 (upS L) := Classical.byContradiction fun h => HBAD1.out ((badB_iff _).2 (.inr h))
                  have hok2 : AllOk 10 D := Classical.byContradiction fun h => HBAD2.out ((badB_iff _).2 (.inr h))
                  have HOK1 := hid hok1
                  have HOK2 := hid hok2
                  clear hok1 hok2 hk
                  go_wp2_with fail
                  refine q3.out.mono ?_
                  rintro e w4 ⟨hb4, hq4⟩
                  rcases hq4 with ⟨_, qn, rfl, hqn⟩ | ⟨h, _⟩
                  case inr => exact absurd HOK1.out h
                  have hs4 := hb4.size
                  have hbel4 := hbel3.trans (hb4.mono hbel3.size)
                  have hbF4 := hbF3.later hb4
                  have q4 := hid (value02_any _ _ _ D 10 w4 (HLOW3.out.below hb4 (by omega)) hll HLS.out (by decide) (by decide))
                  clear q3 hbF3 hb4
                  go_wp2_with fail
                  refine q4.out.mono ?_
                  rintro e w5 ⟨hb5, hq5⟩
                  rcases hq5 with ⟨_, qd, rfl, hqd⟩ | ⟨h, _⟩
                  case inr => exact absurd HOK2.out h
                  have hs5 := hb5.size
                  have hbel5 := hbel4.trans (hb5.mono hbel4.size)
                  have hbF5 := hbF4.later hb5
                  have hqn5 := hqn.below hb5 (Nat.le_refl _)
                  have hdl := ofDigits_len 10 ((upS L).map worth) (by decide) (by
                    intro d hd
                    obtain ⟨r', hr', rfl⟩ := List.mem_map.1 hd
                    exact HOK1.out r' hr')
                  rw [List.length_map] at hdl
                  obtain ⟨N, hN⟩ : ∃ N, ofDigits 10 ((upS L).map worth) = N := ⟨_, rfl⟩
                  obtain ⟨M, hM⟩ : ∃ M, ofDigits 10 (D.map worth) = M := ⟨_, rfl⟩
                  rw [hN] at hqn5 hdl
                  rw [hM] at hqd
                  obtain ⟨adn, capn, rfl⟩ := hqn5.shape
                  obtain ⟨add, capd, rfl⟩ := hqd.shape
                  have q6 := norm02_any _ _ (negative (upper L)) _ _ w5 hqn5 (by omega) (by omega)
                  rw [natOf_toL] at q6
                  obtain ⟨z, hz⟩ : ∃ z, (negative (upper L) && decide (N ≠ 0)) = z := ⟨_, rfl⟩
                  rw [hz] at q6
                  have Q6 := hid q6
                  have hP : (negative (upper L) && decide (N ≠ 0), N, M, 0) = X := by
                    rw [← HX.out]; unfold fracR; rw [if_neg HBAD1.out, HD.out, if_neg HBAD2.out, if_neg HNZ.out, HDN.out, if_neg hbig, hN, hM]
                  rw [hz] at hP
                  have HP := hid hP
                  have hF4 := hbF4.lt
                  have hFs := hbF5.lt
                  clear q6 hN hM hdl q4 hbF4 hb5 hqn hqn5 hP hz
                  go_wp2_with fail
                  refine Q6.out.mono ?_
                  rintro e w6 ⟨q, rfl, hq6, hb6⟩
                  have hbF6 := hbF5.later hb6
                  have hbel6 := hbel5.trans (hb6.mono hbel5.size)
                  have hs6 := hb6.size
                  have hqd6 := hqd.below hb6 (Nat.le_refl _)
                  obtain ⟨ad8, cap8, rfl⟩ := hq6.shape
                  obtain ⟨⟨d0, d1, d2, d3⟩, g0, g1, g2, g3⟩ := hbF6.four
                  have hk : ∀ lo9 v xs, w.heap.size < lo9 → Limbs lo9 w6.heap.size w6 v xs → ∀ (a b c d : Value), Limbs w.heap.size ((((w6.setCell ⟨w.heap.size, 0, none⟩ a).setCell ⟨w.heap.size, 1, none⟩ b).setCell ⟨w.heap.size, 2, none⟩ c).setCell ⟨w.heap.size, 3, none⟩ d).heap.size ((((w6.setCell ⟨w.heap.size, 0, none⟩ a).setCell ⟨w.heap.size, 1, none⟩ b).setCell ⟨w.heap.size, 2, none⟩ c).setCell ⟨w.heap.size, 3, none⟩ d) v xs := fun lo9 v xs hlt h a b c d =>
                    ((((h.set _ _ (.inl hlt)).set _ _ (.inl hlt)).set _ _ (.inl hlt)).set _ _ (.inl hlt)).wide (by omega) (by simp [World.setCell])
                  have HK := hid hk
                  have HQ := hid hq6
                  have HQD := hid hqd6
                  clear hk Q6 hb6 hbF6 hbF5 hq6 hqd6 hqd
                  go_wp2
                  refine bodyPost_ret (v := .tuple #[.agg #[.bool z, .slice ad8 (toL N).length cap8, .bool false, .slice add (toL M).length capd], .int .i64 0]) (by simp [results, Tryd.results72, go_sem, d0, d1, d2, d3]) rfl ?_
                  rw [← HP.out]
                  exact ⟨(((hbel6.setCell (by simp) _).setCell (by simp) _).setCell (by simp) _).setCell (by simp) _, _, _, rfl, HK.out _ _ _ (Nat.lt_of_lt_of_le hF4 hs5) HQ.out _ _ _ _, HK.out _ _ _ hF4 (HQD.out.wide (Nat.le_refl _) hs6) _ _ _ _⟩
              · have hP : (false, 0, 0, 20) = X := by rw [← HX.out]; unfold fracR; rw [if_neg HBAD1.out, HD.out, if_neg HBAD2.out, if_pos HZ.out]
                obtain ⟨⟨d0, d1, d2, d3⟩, g0, g1, g2, g3⟩ := hbF3.four
                have HP := hid hP
                clear hP hk
                go_wp2
                refine bodyPost_ret (v := .tuple #[.agg #[.bool false, .slice none 0 0, .bool false, .slice none 0 0], .int .i64 20]) (by simp [results, Tryd.results72, go_sem, d0, d1, d2, d3]) rfl ?_
                rw [← HP.out]
                exact ⟨(((hbel3.setCell (by simp) _).setCell (by simp) _).setCell (by simp) _).setCell (by simp) _, _, _, rfl, by rw [toL_zero]; exact Limbs.nil, by rw [toL_zero]; exact Limbs.nil⟩

end Go.Proofs.YtjjidmgeladicaaDoor

/- numeral's reader: zeros, next, natural, integer. -/
import Derived.Test.YtjjidmgeladicaaDoorFromBase
namespace Go.Proofs.YtjjidmgeladicaaDoor
open Go.RowKit

theorem grown_refl (w : World) (row : Option Nat) : w.grownBy w row := ⟨rfl, rfl, rfl, Nat.le_refl _, fun _ _ _ => rfl⟩
theorem grown_trans {a b c : World} {row : Option Nat} (h : a.grownBy b row) (k : b.grownBy c row) : a.grownBy c row :=
  ⟨k.os.trans h.os, k.tape.trans h.tape, k.output.trans h.output, Nat.le_trans h.size k.size, fun i hi hr => (k.block i (Nat.lt_of_lt_of_le hi h.size) hr).trans (h.block i hi hr)⟩
theorem grown_below {a b : World} {row : Option Nat} (h : Below a.heap.size a b) : a.grownBy b row := ⟨h.os, h.tape, h.output, h.size, fun i hi _ => h.block i hi⟩
theorem grown_set (w : World) (p : Addr) (v : Value) : w.grownBy (w.setCell p v) (some p.block) :=
  ⟨rfl, rfl, rfl, by simp [World.setCell], fun i _ hr => Below.heap_setCell _ _ _ _ (fun e => hr (by rw [e]))⟩
theorem below_grown {B : Nat} {a w w' : World} {g : Nat} (h : Below B a w) (hg : w.grownBy w' (some g)) (hB : B ≤ w.heap.size) (hr : B ≤ g) : Below B a w' :=
  h.grown hg hB (fun k hk => by cases hk; exact hr)
theorem nums_grown {k : IntKind} {lo hi g : Nat} {w w' : World} {v : Value} {xs : List Nat} (h : Nums k lo hi w v xs) (hg : w.grownBy w' (some g)) (h1 : hi ≤ g ∨ g < lo) (h2 : hi ≤ w.heap.size) : Nums k lo hi w' v xs :=
  h.keep fun b _ _ => hg.block b (by omega) (fun e => by cases e; omega)
theorem limbs_grown {lo hi g : Nat} {w w' : World} {v : Value} {xs : List Nat} (h : Limbs lo hi w v xs) (hg : w.grownBy w' (some g)) (h1 : hi ≤ g ∨ g < lo) (h2 : hi ≤ w.heap.size) : Limbs lo hi w' v xs :=
  h.keep fun b _ _ => hg.block b (by omega) (fun e => by cases e; omega)
theorem box_grown {g g' : Nat} {w w' : World} {T : TypeId} {cs : List Value} (h : BoxIs w g T cs) (hg : w.grownBy w' (some g')) (hne : g ≠ g') : BoxIs w' g T cs :=
  h.keep (hg.block g h.lt (fun e => by cases e; exact hne rfl))

/-- are all of them 0? -/
def allNought (L : List Nat) : Bool := L.all fun r => r == 48

set_option maxHeartbeats 400000 in
theorem zeros_any (lo hi : Nat) (v : Value) (L : List Nat) (w : World) (h : Nums .i32 lo hi w v L) (hl : L.length ≤ 1000000000) (hrl : ∀ r, r ∈ L → r < 2097152) :
    Calls Tryd.prog 68 #[v] w fun e w' => e = .returned (.bool (allNought L)) ∧ w' = w := by
  obtain ⟨ad, cap, rfl, hc, hcell⟩ := h.open
  have HC := hid hcell
  have HRL := hid hrl
  clear hcell h hrl
  go_enter Tryd.func68, Tryd.ntmps68
  go_wp2
  go_loopw [7] (fun t wr => ∃ k : Nat, t = .int .i64 k ∧ k ≤ L.length ∧ wr = w ∧ (∀ r, r ∈ L.take k → r = 48)) (fun t _ => L.length - (intOf t).toNat)
  case atStart => exact ⟨0, rfl, Nat.zero_le _, by simp, by simp⟩
  case round =>
    obtain ⟨k, rfl, hk, rfl, hok⟩ := hrel
    have HOK := hid hok
    clear hok
    by_cases hkl : k < L.length
    · obtain ⟨bb, off, rfl, _, _, hc1⟩ := HC.out k hkl
      obtain ⟨r, hr⟩ : ∃ r, L.getD k 0 = r := ⟨_, rfl⟩
      rw [hr] at hc1
      have hrb := HRL.out r (getD_rune L k r hkl hr)
      have HR := hid hr
      have f1 : (k : Int) < (L.length : Int) := by omega
      clear hr
      by_cases h48 : r = 48
      · subst h48
        have hok2 : ∀ r, r ∈ L.take (k + 1) → r = 48 := by
          intro r' hr'
          rw [take_snoc L 0 k hkl, List.mem_append] at hr'
          rcases hr' with h | h
          · exact HOK.out r' h
          · simp only [List.mem_singleton] at h
            rw [h, HR.out]
        have HOK2 := hid hok2
        clear hok2
        go_wp2
        exact ⟨⟨k + 1, by go_num, by omega, trivial, HOK2.out⟩, by simp [intOf]; omega⟩
      · have hbad : allNought L = false := by
          unfold allNought
          rw [List.all_eq_false]
          exact ⟨r, getD_rune L k r hkl HR.out, by simpa using h48⟩
        have HBAD := hid hbad
        have h48b : (((r : Nat) : Int) != 48) = true := by simp; omega
        clear hbad
        go_wp2
        go_ret
        exact ⟨by rw [HBAD.out]; rfl, rfl⟩
    · obtain rfl : k = L.length := by omega
      rw [List.take_length] at HOK
      have hgood : allNought L = true := by
        unfold allNought
        rw [List.all_eq_true]
        intro r hr
        simpa using HOK.out r hr
      have HG := hid hgood
      clear hgood
      go_wp2
      go_ret
      exact ⟨by rw [HG.out]; rfl, rfl⟩

/-- a kind's rune ahead is taken -/
def ahead (k : Nat) (L : List Nat) : Bool := match L with | [] => false | r :: _ => kindOf r == k
def behind (k : Nat) (L : List Nat) : List Nat := if ahead k L then L.tail else L

set_option maxHeartbeats 400000 in
theorem next_any (g lo hi : Nat) (v d : Value) (L : List Nat) (k : Nat) (w : World) (hb : BoxIs w g 123 [v, d]) (h : Nums .i32 lo hi w v L) (hg : hi ≤ g) (hl : L.length ≤ 1000000000) (hk : k ≤ 6) :
    Calls Tryd.prog 67 #[.pointer (some ⟨g, 0, none⟩), .int .i64 (k : Nat)] w fun e w' =>
      e = .returned (.bool (ahead k L)) ∧ ∃ v', BoxIs w' g 123 [v', d] ∧ Nums .i32 lo hi w' v' (behind k L) ∧ w.grownBy w' (some g) := by
  obtain ⟨d0, d1, g0, g1⟩ := hb.two
  have HB := hid hb
  have HH := hid h
  cases L with
  | nil =>
    obtain ⟨ad, cap, rfl, hc, hcell⟩ := h.open
    clear hcell h hb
    go_enter Tryd.func67, Tryd.ntmps67
    go_wp2
    go_ret
    exact ⟨rfl, _, HB.out, HH.out, grown_refl _ _⟩
  | cons r L =>
    obtain ⟨ad, cap, rfl, hc, hcell⟩ := h.open
    obtain ⟨b, off, rfl, _, _, hc0⟩ := hcell 0 (by simp)
    simp only [List.getD_cons_zero, Nat.add_zero] at hc0
    have Q1 := hid (what_any r w)
    have HT := hid h.tail
    have hn : ahead k (r :: L) = (kindOf r == k) := rfl
    have hbe : behind k (r :: L) = if (kindOf r == k) then L else r :: L := rfl
    rw [hn, hbe]
    clear hcell hn hbe h hb
    obtain ⟨z, hz⟩ : ∃ z, kindOf r = z := ⟨_, rfl⟩
    rw [hz] at Q1 ⊢
    clear hz
    simp only [List.length_cons] at hc hl
    obtain ⟨t, ht⟩ : ∃ t, (z == k) = t := ⟨_, rfl⟩
    rw [ht]
    have HTT := hid ht
    clear ht
    go_enter Tryd.func67, Tryd.ntmps67
    go_wp2_with fail
    refine Q1.out.mono ?_
    rintro e w' ⟨rfl, rfl⟩
    cases t
    · have hzi : (((z : Nat) : Int) == ((k : Nat) : Int)) = false := by
        have := HTT.out
        simp at this ⊢
        omega
      clear HT
      go_wp2
      go_ret
      exact ⟨rfl, _, HB.out, HH.out, grown_refl _ _⟩
    · obtain rfl : z = k := by simpa using HTT.out
      by_cases hc1 : cap = 1
      · rw [if_pos hc1] at HT
        subst hc1
        obtain rfl : L = [] := List.eq_nil_of_length_eq_zero (by omega)
        go_wp2
        all_goals
          go_ret
          exact ⟨rfl, _, HB.out.set 0 _, HT.out.set _ _ (.inr hg), grown_set _ _ _⟩
      · rw [if_neg hc1] at HT
        go_wp2
        all_goals
          go_ret
          exact ⟨rfl, _, HB.out.set 0 _, HT.out.set _ _ (.inr hg), grown_set _ _ _⟩

/-- the digits ahead, what is behind them -/
def isDg (r : Nat) : Bool := kindOf r == 1
def digs (L : List Nat) : List Nat := L.takeWhile isDg
def past (L : List Nat) : List Nat := L.dropWhile isDg

theorem isDg_iff (r : Nat) : isDg r = true ↔ 48 ≤ r ∧ r ≤ 57 := by
  unfold isDg kindOf isMinus isBar isGap isDigit
  constructor
  · intro h
    repeat' split at h
    all_goals simp_all
  · intro h
    have h1 : ∀ k, (k < 48 ∨ 57 < k) → (r == k) = false := by intro k hk; simp; omega
    simp only [h1 45 (by omega), h1 8722 (by omega), h1 47 (by omega), h1 8260 (by omega), h1 8725 (by omega), h1 32 (by omega), h1 9 (by omega), h1 160 (by omega), h1 8201 (by omega), Bool.or_self, Bool.false_eq_true, if_false]
    rw [if_neg (by omega), if_neg (by omega)]
    simp [h]

theorem worth_dg (r : Nat) (h : isDg r = true) : worth r = r - 48 ∧ worth r < 10 := by
  rw [isDg_iff] at h
  have hd : isDigit r = true := by simp [isDigit, h]
  unfold worth
  rw [if_pos hd]
  omega

theorem digs_split (L : List Nat) (k : Nat) (hk : k < L.length) (h : ∀ r, r ∈ L.take k → isDg r = true) (hn : isDg (L.getD k 0) = false) : digs L = L.take k ∧ past L = L.drop k := by
  have e : L = L.take k ++ L.drop k := (List.take_append_drop k L).symm
  have e2 : L.drop k = L.getD k 0 :: L.drop (k + 1) := by rw [List.drop_eq_getElem_cons hk]; simp [List.getD, hk]
  unfold digs past
  constructor
  · conv => lhs; rw [e, e2]
    rw [List.takeWhile_append_of_pos h, List.takeWhile_cons_of_neg (by rw [hn]; simp), List.append_nil]
  · conv => lhs; rw [e, e2]
    rw [List.dropWhile_append_of_pos h, List.dropWhile_cons_of_neg (by rw [hn]; simp), e2]

theorem digs_all (L : List Nat) (h : ∀ r, r ∈ L → isDg r = true) : digs L = L ∧ past L = [] := by
  unfold digs past
  have e : L = L ++ [] := (List.append_nil L).symm
  constructor
  · conv => lhs; rw [e]
    rw [List.takeWhile_append_of_pos h]; simp
  · conv => lhs; rw [e]
    rw [List.dropWhile_append_of_pos h]; simp

/-- the panic of a reader that gives up -/
def gaveUp (n : Int) : Ending := .panicked [{ v := .iface 128 (.agg #[.int .i64 n]), recovered := false }]

theorem grown_then {a b c : World} {row : Option Nat} (h : a.grownBy b row) (k : Below a.heap.size b c) : a.grownBy c row :=
  ⟨k.os.trans h.os, k.tape.trans h.tape, k.output.trans h.output, Nat.le_trans h.size k.size, fun i hi hr => (k.block i hi).trans (h.block i hi hr)⟩

set_option maxHeartbeats 1600000 in
theorem natural_any (g lo hi : Nat) (v : Value) (D : Nat) (L : List Nat) (w : World) (hb : BoxIs w g 123 [v, .int .i64 (D : Nat)]) (h : Nums .i32 lo hi w v L) (hg : hi ≤ g) (hl : L.length ≤ 1000000000) (hD : D ≤ 1000000000) :
    Calls Tryd.prog 69 #[.pointer (some ⟨g, 0, none⟩)] w fun e w' => w.grownBy w' (some g) ∧
      ((digs L = [] ∧ e = gaveUp 20) ∨ (digs L ≠ [] ∧ ∃ v', BoxIs w' g 123 [v', .int .i64 ((D + (digs L).length : Nat) : Nat)] ∧ Nums .i32 lo hi w' v' (past L) ∧
        ((10000 < D + (digs L).length ∧ e = .returned (.slice none 0 0)) ∨ (D + (digs L).length ≤ 10000 ∧ ∃ q, e = .returned q ∧ Limbs w.heap.size w'.heap.size w' q (toL (ofDigits 10 ((digs L).map worth))))))) := by
  have hgw := hb.lt
  go_enter Tryd.func69, Tryd.ntmps69
  go_wp2
  go_loopg [3] L.length (fun gk lv wr => ∃ (k : Nat) (v' : Value), gk = L.length - k ∧ k ≤ L.length ∧ BoxIs wr g 123 [v', .int .i64 (D : Nat)] ∧ Nums .i32 lo hi wr v' (L.drop k) ∧
      wr.ownsRow w.heap.size 96 1 lv k (u32s ((L.take k).map worth)) ∧ w.grownBy wr (some g) ∧ (∀ r, r ∈ L.take k → isDg r = true))
  case atStart => exact ⟨0, v, by omega, Nat.zero_le _, hb, by simpa using h, by simpa [u32s] using World.ownsRow_nil _ _ _ _, grown_refl _ _, by simp⟩
  case round =>
    obtain ⟨k, v', hgk, hkl, hbx, hn, hown, hgr, hok⟩ := hrel
    have HGK := hid hgk
    have HOK := hid hok
    clear hgk hok
    obtain ⟨d0, d1, g0, g1⟩ := hbx.two
    by_cases hlt : k < L.length
    · have e2 : L.drop k = L.getD k 0 :: L.drop (k + 1) := by rw [List.drop_eq_getElem_cons hlt]; simp [List.getD, hlt]
      obtain ⟨r, hr⟩ : ∃ r, L.getD k 0 = r := ⟨_, rfl⟩
      rw [hr] at e2
      rw [e2] at hn
      obtain ⟨ad, cap, rfl, hc, hcell⟩ := hn.open
      obtain ⟨b, off, rfl, _, _, hc0⟩ := hcell 0 (by simp)
      simp only [List.getD_cons_zero, Nat.add_zero] at hc0
      have Q1 := hid (what_any r wr)
      have HT := hid hn.tail
      have hlen : (L.drop (k + 1)).length = L.length - (k + 1) := by simp
      have HR := hid hr
      have HLEN := hid hlen
      have hcl : (r :: L.drop (k + 1)).length = L.length - k := by simp; omega
      have hn' := hn
      rw [hcl] at hc d0 hn' hbx
      obtain ⟨m, hm⟩ : ∃ m, L.length - k = m + 1 := ⟨L.length - k - 1, by omega⟩
      rw [hm] at hc d0 hn' hbx
      rw [← e2] at hn'
      have HN := hid hn'
      have HM := hid hm
      clear hn' hcell e2 hn hr hlen hcl hm
      obtain ⟨kd, hkd⟩ : ∃ kd, kindOf r = kd := ⟨_, rfl⟩
      rw [hkd] at Q1
      obtain ⟨t, ht⟩ : ∃ t, (kd == 1) = t := ⟨_, rfl⟩
      have hdg : isDg r = t := by unfold isDg; rw [hkd]; exact ht
      have HDG := hid hdg
      have HTT := hid ht
      clear hkd ht hdg
      go_wp2_with fail
      refine Q1.out.mono ?_
      rintro e w' ⟨rfl, rfl⟩
      cases t
      · have hzi : (((kd : Nat) : Int) == 1) = false := by
          have := HTT.out
          simp at this ⊢
          omega
        have HSP := hid (digs_split L k hlt HOK.out (by rw [HR.out]; exact HDG.out))
        have hnp : Nums .i32 lo hi wr (.slice (some ⟨b, off, none⟩) (m + 1) cap) (past L) := by
          rw [HSP.out.2]; exact HN.out
        have hgk0 := HGK.out
        clear HT Q1
        have hds := Limbs.ofOwn hown fun x hx => by
          obtain ⟨r', hr', rfl⟩ := List.mem_map.1 hx
          have := (worth_dg r' (HOK.out r' hr')).2
          omega
        have hdx : ∀ x, x ∈ (L.take k).map worth → x < 10 := by
          intro x hx
          obtain ⟨r', hr', rfl⟩ := List.mem_map.1 hx
          exact (worth_dg r' (HOK.out r' hr')).2
        have hkl9 : ((L.take k).map worth).length = k := by simp; omega
        obtain ⟨ad9, cap9, hsh⟩ := hds.shape
        rw [hkl9] at hsh
        subst hsh
        rw [← HSP.out.1] at hds hdx hkl9
        have hkT : (digs L).length = k := by simpa using hkl9
        have HDS := hid hds
        have HDX := hid hdx
        have HKT := hid hkT
        have HGR := hid hgr
        have HBX := hid hbx
        have HNP := hid hnp
        have hsz9 := hgr.size
        clear hds hdx hkl9 hkT hown hgr hbx hnp
        by_cases hk0 : k = 0
        · subst hk0
          clear hgk0
          go_wp2
          exact ⟨rfl, HGR.out, .inl ⟨List.eq_nil_of_length_eq_zero HKT.out, rfl⟩⟩
        · have hne : digs L ≠ [] := by
            intro h
            have := HKT.out
            rw [h] at this
            exact hk0 this.symm
          have HNE := hid hne
          have hsum : ((D : Int) + (k : Int)) = ((D + k : Nat) : Int) := by omega
          obtain ⟨s, hs⟩ : ∃ s, D + k = s := ⟨_, rfl⟩
          rw [hs] at hsum
          have HS := hid hs
          have hsl : s ≤ 2000000000 := by omega
          have hkp : 0 < k := by omega
          clear hs hne hgk0 hk0
          by_cases hbig : 10000 < s
          · go_wp2
            go_ret
            rw [HKT.out, HS.out]
            exact ⟨grown_trans HGR.out (grown_set _ _ _), .inr ⟨HNE.out, _, HBX.out.set 1 _, HNP.out.set _ _ (.inr hg), .inl ⟨hbig, rfl⟩⟩⟩
          · have q1 := hid (number_any _ _ _ _ 10 (wr.setCell ⟨g, 1, none⟩ (.int .i64 (s : Nat))) (HDS.out.set _ _ (.inl hgw)) (by have := HKT.out; simp; omega) (by decide) (by decide) HDX.out)
            go_wp2_with fail
            refine q1.out.mono ?_
            rintro e w1 ⟨r1, rfl, hr1, hb1⟩
            have h1 := (HBX.out.set 1 (.int .i64 (s : Nat))).later hb1
            have hsz2 : (wr.setCell ⟨g, 1, none⟩ (.int .i64 (s : Nat))).heap.size = wr.heap.size := by simp [World.setCell]
            rw [hsz2] at hb1 hr1
            have h2 := grown_then (grown_trans HGR.out (grown_set wr ⟨g, 1, none⟩ (.int .i64 (s : Nat)))) (hb1.mono hsz9)
            have h3 := (HNP.out.set ⟨g, 1, none⟩ (.int .i64 (s : Nat)) (.inr hg)).below hb1 (by omega)
            have h4 := hr1.wide hsz9 (Nat.le_refl _)
            have H1 := hid h1
            have H2 := hid h2
            have H3 := hid h3
            have H4 := hid h4
            clear h1 h2 h3 h4 hb1 hr1 q1 hsz2
            go_wp2
            go_ret
            rw [HKT.out, HS.out]
            exact ⟨H2.out, .inr ⟨HNE.out, _, H1.out, H3.out, .inr ⟨by omega, _, rfl, H4.out⟩⟩⟩
      · obtain rfl : kd = 1 := by simpa using HTT.out
        have hrr := (isDg_iff r).1 HDG.out
        have hww := (worth_dg r HDG.out).1
        have HWW := hid hww
        have hb1 : Below w.heap.size wr wr := Below.refl _ _
        have hsz := hgr.size
        have hd48 : ((r : Int) - 48) = ((r - 48 : Nat) : Int) := by omega
        obtain ⟨d, hd⟩ : ∃ d, r - 48 = d := ⟨_, rfl⟩
        rw [hd] at hd48 hww
        have hd10 : d < 10 := by omega
        have HD := hid hd
        clear hww hd
        go_wp2_with (at_builtin; go_loud (refine wpl_append1 elemU32 rfl _ _ rfl w.heap.size k 1 1 _ (u32s ((L.take k).map worth)) _ hown rfl rfl rfl (by simp [Value.oneCell']) (by omega) (by decide) (by unfold maxLen; omega) hb1 hsz ?_))
        intro g6 c6 w6 ho6 hb6 hg6
        have hbx6 := hbx.below hb6 hgw
        obtain ⟨d0', d1', g0', g1'⟩ := hbx6.two
        have HT6 := hid (HT.out.below hb6 (Nat.le_trans hg (Nat.le_of_lt hgw)))
        have hgr6 := grown_then hgr hb6
        have HO := hid ho6
        have HGR6 := hid hgr6
        have HBX6 := hid hbx6
        have hok2 : ∀ r', r' ∈ L.take (k + 1) → isDg r' = true := by
          intro r' hr'
          rw [take_snoc L 0 k hlt, List.mem_append] at hr'
          rcases hr' with h | h
          · exact HOK.out r' h
          · simp only [List.mem_singleton] at h
            rw [h, HR.out]; exact HDG.out
        have HOK2 := hid hok2
        have he : u32s ((L.take (k + 1)).map worth) = u32s (List.take k (List.map worth L)) ++ [Value.int IntKind.u32 (d : Nat)] := by
          rw [take_snoc L 0 k hlt, List.map_append, HR.out, List.map_cons, List.map_nil, HWW.out]
          simp [u32s, HD.out]
        have HE := hid he
        have hnw : Value.ownBlock (.slice (some ⟨g6, 0, none⟩) (k + 1) c6) ≠ some g := by
          intro h
          have := (ho6.lt g h).1
          omega
        clear hg6 HT hgr hb6 hbx hown Q1 ho6 hgr6 hbx6 hok2 he d0 d1 g0 g1
        by_cases hc1 : cap = 1
        · subst hc1
          rw [if_pos rfl] at HT6
          obtain rfl : m = 0 := by omega
          go_wp2
          all_goals
            go_roundg (L.length - (k + 1))
            case measure => have := HGK.out; omega
            case rel =>
              refine ⟨k + 1, _, rfl, by omega, HBX6.out.set 0 _, ?_, ?_, grown_trans HGR6.out (grown_set _ _ _), HOK2.out⟩
              · have h9 := HT6.out
                rw [HLEN.out, show L.length - (k + 1) = 0 by have := HM.out; omega] at h9
                exact h9.set ⟨g, 0, none⟩ _ (.inr hg)
              · rw [HE.out]
                exact own_setOther HO.out _ _ hnw
        · rw [if_neg hc1] at HT6
          go_wp2
          all_goals
            go_roundg (L.length - (k + 1))
            case measure => have := HGK.out; omega
            case rel =>
              refine ⟨k + 1, _, rfl, by omega, HBX6.out.set 0 _, ?_, ?_, grown_trans HGR6.out (grown_set _ _ _), HOK2.out⟩
              · have h9 := HT6.out
                rw [HLEN.out, show L.length - (k + 1) = m by have := HM.out; omega] at h9
                exact h9.set ⟨g, 0, none⟩ _ (.inr hg)
              · rw [HE.out]
                exact own_setOther HO.out _ _ hnw
    · obtain rfl : k = L.length := by omega
      have HSP : Hid (digs L = L.take L.length ∧ past L = L.drop L.length) := by
        rw [List.take_length, List.drop_length]
        rw [List.take_length] at HOK
        exact digs_all L HOK.out
      have hnp : Nums .i32 lo hi wr v' (past L) := by rw [HSP.out.2]; exact hn
      have hgk0 := HGK.out
      obtain ⟨ad, cap, rfl, hc, hcell⟩ := hn.open
      clear hcell hn
      simp only [List.length_drop, Nat.sub_self] at hc d0
      obtain ⟨k, hk⟩ : ∃ k, L.length = k := ⟨_, rfl⟩
      rw [hk] at hown HOK HSP hgk0
      simp only [List.length_drop, Nat.sub_self] at hbx hnp
      have hds := Limbs.ofOwn hown fun x hx => by
        obtain ⟨r', hr', rfl⟩ := List.mem_map.1 hx
        have := (worth_dg r' (HOK.out r' hr')).2
        omega
      have hdx : ∀ x, x ∈ (L.take k).map worth → x < 10 := by
        intro x hx
        obtain ⟨r', hr', rfl⟩ := List.mem_map.1 hx
        exact (worth_dg r' (HOK.out r' hr')).2
      have hkl9 : ((L.take k).map worth).length = k := by simp; omega
      obtain ⟨ad9, cap9, hsh⟩ := hds.shape
      rw [hkl9] at hsh
      subst hsh
      rw [← HSP.out.1] at hds hdx hkl9
      have hkT : (digs L).length = k := by simpa using hkl9
      have HDS := hid hds
      have HDX := hid hdx
      have HKT := hid hkT
      have HGR := hid hgr
      have HBX := hid hbx
      have HNP := hid hnp
      have hsz9 := hgr.size
      clear hds hdx hkl9 hkT hown hgr hbx hnp
      by_cases hk0 : k = 0
      · subst hk0
        clear hgk0
        go_wp2
        exact ⟨rfl, HGR.out, .inl ⟨List.eq_nil_of_length_eq_zero HKT.out, rfl⟩⟩
      · have hne : digs L ≠ [] := by
          intro h
          have := HKT.out
          rw [h] at this
          exact hk0 this.symm
        have HNE := hid hne
        have hsum : ((D : Int) + (k : Int)) = ((D + k : Nat) : Int) := by omega
        obtain ⟨s, hs⟩ : ∃ s, D + k = s := ⟨_, rfl⟩
        rw [hs] at hsum
        have HS := hid hs
        have hsl : s ≤ 2000000000 := by omega
        have hkp : 0 < k := by omega
        clear hs hne hgk0 hk0
        by_cases hbig : 10000 < s
        · go_wp2
          go_ret
          rw [HKT.out, HS.out]
          exact ⟨grown_trans HGR.out (grown_set _ _ _), .inr ⟨HNE.out, _, HBX.out.set 1 _, HNP.out.set _ _ (.inr hg), .inl ⟨hbig, rfl⟩⟩⟩
        · have q1 := hid (number_any _ _ _ _ 10 (wr.setCell ⟨g, 1, none⟩ (.int .i64 (s : Nat))) (HDS.out.set _ _ (.inl hgw)) (by have := HKT.out; simp; omega) (by decide) (by decide) HDX.out)
          go_wp2_with fail
          refine q1.out.mono ?_
          rintro e w1 ⟨r1, rfl, hr1, hb1⟩
          have h1 := (HBX.out.set 1 (.int .i64 (s : Nat))).later hb1
          have hsz2 : (wr.setCell ⟨g, 1, none⟩ (.int .i64 (s : Nat))).heap.size = wr.heap.size := by simp [World.setCell]
          rw [hsz2] at hb1 hr1
          have h2 := grown_then (grown_trans HGR.out (grown_set wr ⟨g, 1, none⟩ (.int .i64 (s : Nat)))) (hb1.mono hsz9)
          have h3 := (HNP.out.set ⟨g, 1, none⟩ (.int .i64 (s : Nat)) (.inr hg)).below hb1 (by omega)
          have h4 := hr1.wide hsz9 (Nat.le_refl _)
          have H1 := hid h1
          have H2 := hid h2
          have H3 := hid h3
          have H4 := hid h4
          clear h1 h2 h3 h4 hb1 hr1 q1 hsz2
          go_wp2
          go_ret
          rw [HKT.out, HS.out]
          exact ⟨H2.out, .inr ⟨HNE.out, _, H1.out, H3.out, .inr ⟨by omega, _, rfl, H4.out⟩⟩⟩

/-- what an integer's text leaves: its minus, its digits, what is behind them -/
def neg1 (L : List Nat) : Bool := ahead 2 L
def num1 (L : List Nat) : List Nat := digs (behind 2 L)
def end1 (L : List Nat) : List Nat := past (behind 2 L)

set_option maxHeartbeats 1600000 in
theorem integer_any (g lo hi : Nat) (v : Value) (L : List Nat) (w : World) (hb : BoxIs w g 123 [v, .int .i64 0]) (h : Nums .i32 lo hi w v L) (hg : hi ≤ g) (hl : L.length ≤ 1000000000) :
    Calls Tryd.prog 66 #[.pointer (some ⟨g, 0, none⟩)] w fun e w' => w.grownBy w' (some g) ∧
      ((num1 L = [] ∧ e = gaveUp 20) ∨ (num1 L ≠ [] ∧ ∃ v', BoxIs w' g 123 [v', .int .i64 ((num1 L).length : Nat)] ∧ Nums .i32 lo hi w' v' (end1 L) ∧
        ((10000 < (num1 L).length ∧ ∃ x, e = .returned (.agg #[.bool false, x]) ∧ x = .slice none 0 0) ∨ ((num1 L).length ≤ 10000 ∧ ∃ q, e = .returned (.agg #[.bool (neg1 L && decide (ofDigits 10 ((num1 L).map worth) ≠ 0)), q]) ∧ Limbs w.heap.size w'.heap.size w' q (toL (ofDigits 10 ((num1 L).map worth))))))) := by
  obtain ⟨hb0, b0, hsz⟩ := boxA w #[.bool false, .slice none 0 0] 40
  have hgw := hb.lt
  have q1 := hid (next_any g lo hi v (.int .i64 0) L 2 _ (hb.alloc (.cells #[.bool false, .slice none 0 0] 40)) (h.below hb0 (by omega)) hg hl (by decide))
  have hbl : (behind 2 L).length ≤ 1000000000 := by unfold behind; split <;> (try rw [List.length_tail]) <;> omega
  obtain ⟨T, hT⟩ : ∃ T, num1 L = T := ⟨_, rfl⟩
  obtain ⟨R, hR⟩ : ∃ R, end1 L = R := ⟨_, rfl⟩
  obtain ⟨z, hz⟩ : ∃ z, neg1 L = z := ⟨_, rfl⟩
  have hT' : digs (behind 2 L) = T := hT
  have hR' : past (behind 2 L) = R := hR
  have hz' : ahead 2 L = z := hz
  rw [hT, hR, hz]
  rw [hz'] at q1
  have HT := hid hT'
  have HR := hid hR'
  clear hT hR hz hT' hR' hz' h
  go_enter Tryd.func66, Tryd.ntmps66
  go_wp2_with fail
  refine q1.out.mono ?_
  rintro e w1 ⟨rfl, v1, hb1, hn1, hg1⟩
  have q2 := natural_any g lo hi v1 0 _ w1 hb1 hn1 hg hbl (by omega)
  rw [HT.out, HR.out] at q2
  have Q2 := hid q2
  have hbx1 := box_grown b0 hg1 (by omega)
  have hgr1 := grown_trans (grown_below (row := some g) hb0) hg1
  have hs1 := hg1.size
  rw [hsz] at hs1
  clear q1 q2 hb1 hn1 hg1 b0 hb0
  go_wp2_with fail
  refine Q2.out.mono ?_
  rintro e w2 ⟨hg2, hq⟩
  have hbx2 := box_grown hbx1 hg2 (by omega)
  have hgr2 := grown_trans hgr1 hg2
  have hs2 := hg2.size
  have HGR := hid hgr2
  obtain ⟨d0, d1, g0, g1⟩ := hbx2.two
  rcases hq with ⟨hq1, he⟩ | ⟨hq1, v2, hb2, hn2, hq2⟩
  · unfold gaveUp at he
    subst he
    clear hg2 hgr1 hgr2 hbx1 Q2
    go_wp2
    exact ⟨rfl, HGR.out, .inl ⟨hq1, rfl⟩⟩
  · rw [Nat.zero_add] at hq2 hb2
    have fin : ∀ (b : Bool) (x : Value), w.grownBy ((w2.setCell ⟨w.heap.size, 0, none⟩ (.bool b)).setCell ⟨w.heap.size, 1, none⟩ x) (some g) ∧ BoxIs ((w2.setCell ⟨w.heap.size, 0, none⟩ (.bool b)).setCell ⟨w.heap.size, 1, none⟩ x) g 123 [v2, .int .i64 (T.length : Nat)] ∧ Nums .i32 lo hi ((w2.setCell ⟨w.heap.size, 0, none⟩ (.bool b)).setCell ⟨w.heap.size, 1, none⟩ x) v2 R := by
      intro b x
      have hA : Below w.heap.size w2 ((w2.setCell ⟨w.heap.size, 0, none⟩ (.bool b)).setCell ⟨w.heap.size, 1, none⟩ x) := ((Below.refl _ _).setCell (by simp) _).setCell (by simp) _
      exact ⟨grown_then hgr2 hA, hb2.below hA hgw, hn2.below hA (by omega)⟩
    have FIN := hid fin
    clear hg2 hgr1 hgr2 hbx1 Q2 hb2 hn2 fin
    rcases hq2 with ⟨hq3, he⟩ | ⟨hq3, q, he, hq4⟩
    · subst he
      obtain ⟨f1, f2, f3⟩ := FIN.out false (.slice none 0 0)
      have F1 := hid f1
      have F2 := hid f2
      have F3 := hid f3
      clear f1 f2 f3
      cases z
      all_goals
        go_wp2
        refine bodyPost_ret (v := .agg #[.bool false, .slice none 0 0]) (by simp [results, Tryd.results66, go_sem, d0, d1]) rfl ?_
        exact ⟨F1.out, .inr ⟨hq1, _, F2.out, F3.out, .inl ⟨hq3, _, rfl, rfl⟩⟩⟩
    · subst he
      obtain ⟨ad3, cap3, rfl⟩ := hq4.shape
      have hz := toL_len_pos (ofDigits 10 (T.map worth))
      have hlim : ∀ b : Bool, Limbs w.heap.size ((w2.setCell ⟨w.heap.size, 0, none⟩ (.bool b)).setCell ⟨w.heap.size, 1, none⟩ (.slice ad3 (toL (ofDigits 10 (T.map worth))).length cap3)).heap.size ((w2.setCell ⟨w.heap.size, 0, none⟩ (.bool b)).setCell ⟨w.heap.size, 1, none⟩ (.slice ad3 (toL (ofDigits 10 (T.map worth))).length cap3)) (.slice ad3 (toL (ofDigits 10 (T.map worth))).length cap3) (toL (ofDigits 10 (T.map worth))) := by
        intro b
        exact ((hq4.set _ _ (.inl (show w.heap.size < w1.heap.size by omega))).set _ _ (.inl (show w.heap.size < w1.heap.size by omega))).wide (by omega) (by simp [World.setCell])
      have HL := hid hlim
      have HZ := hid hz
      clear hz hlim hq4
      cases z
      · obtain ⟨f1, f2, f3⟩ := FIN.out false (.slice ad3 (toL (ofDigits 10 (T.map worth))).length cap3)
        have F1 := hid f1
        have F2 := hid f2
        have F3 := hid f3
        clear f1 f2 f3
        go_wp2
        refine bodyPost_ret (v := .agg #[.bool false, .slice ad3 (toL (ofDigits 10 (T.map worth))).length cap3]) (by simp [results, Tryd.results66, go_sem, d0, d1]) rfl ?_
        exact ⟨F1.out, .inr ⟨hq1, _, F2.out, F3.out, .inr ⟨hq3, _, rfl, HL.out _⟩⟩⟩
      · obtain ⟨f1, f2, f3⟩ := FIN.out (decide (0 < (toL (ofDigits 10 (T.map worth))).length)) (.slice ad3 (toL (ofDigits 10 (T.map worth))).length cap3)
        have F1 := hid f1
        have F2 := hid f2
        have F3 := hid f3
        clear f1 f2 f3
        go_wp2
        refine bodyPost_ret (v := .agg #[.bool (decide (0 < (toL (ofDigits 10 (T.map worth))).length)), .slice ad3 (toL (ofDigits 10 (T.map worth))).length cap3]) (by simp [results, Tryd.results66, go_sem, d0, d1]) rfl ?_
        exact ⟨F1.out, .inr ⟨hq1, _, F2.out, F3.out, .inr ⟨hq3, _, by rw [HZ.out, Bool.true_and], HL.out _⟩⟩⟩
end Go.Proofs.YtjjidmgeladicaaDoor

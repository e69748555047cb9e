/- The law similelaw02.NumeralApart: its walk. -/
import Derived.Test.YtjjidmgeladicaaDoorApartSt
import Derived.Test.YtjjidmgeladicaaDoorRowTold
namespace Go.Proofs.YtjjidmgeladicaaDoor
open Go.RowKit Go.Shelf
attribute [local go_sem] Oper.semAt_some
attribute [local go_sem] eq_nilFunc

/-- a post that bears no panic: for a region that is shown not to panic -/
def CalmQ (Q : Exit → Act → World → Prop) : Exit → Act → World → Prop
  | .panic _, _, _ => False
  | e, a, w => Q e a w
theorem CalmQ.normal {Q : Exit → Act → World → Prop} {a : Act} {w : World} (h : Q .normal a w) : CalmQ Q .normal a w := h
theorem CalmQ.imp {Q : Exit → Act → World → Prop} : ∀ (e : Exit) (a : Act) (w : World), CalmQ Q e a w → Q e a w := fun e a w h => by
  cases e <;> first | exact h | exact (h : False).elim

theorem own_blk {w : World} {B : Nat} {e : TypeId} {size n : Nat} {v : Value} {xs : List Value} (h : w.ownsRow B e size v n xs) (k : Nat) (hk : v.ownBlock = some k) : ∃ c, w.heap[k]? = some (.cells c e (0, 0)) := by
  rcases h.2 with ⟨rfl, _⟩ | ⟨g, cap, cur, rfl, hb, hg, _⟩
  · cases hk
  · cases hk; exact ⟨cur, hg⟩

set_option maxRecDepth 100000 in
set_option maxHeartbeats 40000000 in
theorem apart_walk (s : ByteArray) (w : World) (hT : Lib.Utf8Tabs 0 1 w) :
    Calls Tryd.prog 4 #[.string s] w fun e w' => e = .returned (.bool true) ∧ Below w.heap.size w w' := by
  have h2 := tabs_size hT
  have QA := hid fun w => awake_any w
  have QN := hid fun n w => num_any n w
  have HT := hid hT
  clear hT
  refine (callsIn_wide (n := 3)).1 ?_
  refine callsIn_of_wp_marks Tryd.func4 rfl trivial ?_ rfl
  simp only [Tryd.ntmps4, List.size_toArray, List.length_cons, List.length_nil, Nat.reduceAdd, Nat.reduceSub, Array.replicate_succ, Array.replicate_zero, List.push_toArray, List.append_toArray, List.nil_append, List.cons_append]
  have b1 := Boxed.new w 9 (.string s)
  have b2 := Boxed.new (w.alloc (.cells #[.string s] 9)) 4 (.bool false)
  have hB := ((Below.refl w.heap.size w).alloc (Nat.le_refl _) (.cells #[.string s] 9)).alloc (Nat.le_trans (Nat.le_succ _) (by rw [World.size_alloc]; exact Nat.le_refl _)) (.cells #[.bool false] 4)
  rw [World.size_alloc] at b2
  by_cases hs : 65536 < s.size
  · have Q0 := hid fun w => long_yes s w hs
    gi_wp2_with (refine ⟨trivial, ?_⟩; gi_at_call 10; refine (callsIn_wide.2 (Q0.out _)).mono ?_; clear Q0; rintro e w' ⟨rfl, rfl⟩)
    have gre : ∀ w9, Below ((w.alloc (.cells #[.string s] 9)).alloc (.cells #[.bool false] 4)).heap.size ((w.alloc (.cells #[.string s] 9)).alloc (.cells #[.bool false] 4)) w9 → Boxed w9 (w.heap.size + 1) 4 (.bool false) := fun w9 h => (h.block _ (by simp)).trans b2
    have GRE := hid gre
    have HB := hid hB
    clear gre b1 b2 hB
    gi_wp2_with (refine ⟨trivial, ?_⟩; gi_at_call 9; refine (callsIn_wide.2 (QA.out _)).mono ?_; rintro e w9 ⟨rfl, hb9⟩; have g9 := GRE.out w9 hb9; have g9c := g9.cell; have g9f := g9.frozen)
    refine leaves_marks [] _ (w.heap.size + 2) (by have := hb9.size; simp at this ⊢; omega) List.nodup_nil (by simp) (fun W' hW' => ⟨.bool true, ?_, rfl, ?_⟩)
    · have hc5 : W'.cell? ⟨w.heap.size + 1, 0, none⟩ = some (.bool true) := (hW'.cell (p := ⟨w.heap.size + 1, 0, none⟩) (by show w.heap.size + 1 < _; omega)).trans (Boxed.set (.bool true) g9).cell
      simp [results, Tryd.f4, go_sem, hc5]
    · exact ((HB.out.trans (hb9.mono (by simp; omega))).setCell (p := ⟨w.heap.size + 1, 0, none⟩) (Nat.le_succ _) _).trans (hW'.mono (by omega))
  · have Q0 := hid fun w => long_no s w (by omega)
    have Q2 := hid fun w => words_in s w
    gi_wp2_with (refine ⟨trivial, ?_⟩; gi_at_call 10; refine (callsIn_wide.2 (Q0.out _)).mono ?_; clear Q0; rintro e w' ⟨rfl, rfl⟩)
    gi_wp2_with (refine ⟨trivial, ?_⟩; gi_at_call 8; refine (callsIn_wide.2 (Q2.out _)).mono ?_; clear Q2; rintro e w2 ⟨rfl, rfl⟩)
    gi_wp2
    obtain ⟨Wb, hWb⟩ : ∃ Wb, (((((((w.alloc (.cells #[.string s] 9)).alloc (.cells #[.bool false] 4)).alloc (.cells #[.bool true, .bool true] 34)).alloc (.cells #[.pointer (some ⟨w.heap.size + 1 + 1, 0, none⟩)] 32)).alloc (.cells #[.slice none 0 0] 35)).alloc (.cells #[.int .i64 0] 3)).alloc (.cells #[.string s] 9)) = Wb := ⟨_, rfl⟩
    have hst : ApSt s w.heap.size w.heap.size (w.heap.size + 1) (w.heap.size + 1 + 1) (w.heap.size + 1 + 1 + 1) (w.heap.size + 1 + 1 + 1 + 1) (w.heap.size + 1 + 1 + 1 + 1 + 1) (w.heap.size + 1 + 1 + 1 + 1 + 1 + 1) (goodW s []) true (lastOf []) (numsW []) Wb := by
      rw [← hWb]
      exact apst_new s w (by omega)
    have hbl : Below w.heap.size w Wb := by
      rw [← hWb]
      exact below7 w _ _ _ _ _ _ _
    have hsz : Wb.heap.size = w.heap.size + 7 := by rw [← hWb]; simp
    rw [hWb]
    clear hWb b1 b2 hB
    have hord : w.heap.size + 7 = Wb.heap.size ∧ w.heap.size ≤ w.heap.size + 1 ∧ w.heap.size ≤ w.heap.size + 1 + 1 ∧ w.heap.size ≤ w.heap.size + 1 + 1 + 1 ∧ w.heap.size ≤ w.heap.size + 1 + 1 + 1 + 1 ∧ w.heap.size ≤ w.heap.size + 1 + 1 + 1 + 1 + 1 ∧
        w.heap.size + 1 + 1 ≠ w.heap.size + 1 + 1 + 1 ∧ w.heap.size + 1 + 1 + 1 + 1 ≠ w.heap.size + 1 + 1 + 1 + 1 + 1 := ⟨by omega, by omega, by omega, by omega, by omega, by omega, by omega, by omega⟩
    revert hst hsz hbl hord
    generalize w.heap.size + 1 + 1 + 1 + 1 + 1 + 1 = bW
    generalize w.heap.size + 1 + 1 + 1 + 1 + 1 = bl
    generalize w.heap.size + 1 + 1 + 1 + 1 = bw
    generalize w.heap.size + 1 + 1 + 1 = bp
    generalize w.heap.size + 1 + 1 = bk
    generalize w.heap.size + 1 = br
    have hbs2 := h2
    revert hbs2
    generalize hbs : w.heap.size = bs
    have hbw1 : bs ≤ w.heap.size := Nat.le_of_eq hbs.symm
    have hbw2 : w.heap.size ≤ bs := Nat.le_of_eq hbs
    clear hbs
    intro hbs2 hst hbl hsz ⟨_, ho1, ho2, ho3, ho4, ho5, hne1, hne2⟩
    have hc := hst.hW.cell 0 _ rfl
    have hgT : Lib.Utf8Tabs 0 1 Wb := Tabs.below HT.out hbl (by omega)
    refine wpIn_rangeFunc_ownF rfl (by omega) (gf := 32) (lb := #[.pointer (some ⟨bW, 0, none⟩)]) rfl trivial (enters_of Tryd.func32 (by kernel_rfl) rfl)
      (words_stopsB 2 (by omega) bW bs s (by omega) Wb hst.lt.2.2.2.2.2.2 (by omega) (by omega) hc hgT) KpB.trans (kpB_b (by omega) hst.lt.2.2.2.2.2.2) (Below.refl _ _) (fun _ => rfl)
      (fun pre W => (ApSt s bs bs br bk bp bw bl bW (goodW s pre) pre.isEmpty (lastOf pre) (numsW pre) W ∧ Below bs w W) ∧ lastOf pre ≤ s.size)
      (fun c pre W => c = .ret ∧ ¬ pre <+: wordsOf s)
      (OwnFrom.and (OwnFrom.and (ApSt.own _) (ownFrom_below (by omega) (by omega))) (ownFrom_pure _ _))
      (fun c => OwnFrom.and (ownFrom_pure _ _) (ownFrom_pure _ _))
      ⟨⟨hst, hbl⟩, Nat.zero_le _⟩ (fun x => { tmps := #[Value.string s, .pointer (some ⟨bs, 0, none⟩), .pointer (some ⟨br, 0, none⟩), .pointer (some ⟨bp, 0, none⟩), .pointer (some ⟨bw, 0, none⟩), .pointer (some ⟨bl, 0, none⟩), Value.func (Fn.func 32) #[] #[Value.pointer (some ⟨bW, 0, none⟩)], .int .i64 (x.1 : Nat), .string x.2, undef, undef, undef, undef, undef, .string s, .bool false, undef, .agg #[.bool true, .bool true], .pointer (some ⟨bk, 0, none⟩), .string s, Value.func (Fn.func 32) #[] #[Value.pointer (some ⟨bW, 0, none⟩)], Value.func (Fn.func 32) #[] #[Value.pointer (some ⟨bW, 0, none⟩)], .bool false, Value.func (Fn.func 32) #[] #[Value.pointer (some ⟨bW, 0, none⟩)], .int .i64 (x.1 : Nat), .string x.2, undef, undef, undef, undef, undef, undef, undef, undef, undef, undef, undef, undef, undef, undef, undef, undef, undef, undef, undef, undef, undef, undef, undef, undef, undef, undef, undef, undef, undef, undef, undef, undef, undef, undef, undef, undef, undef, undef, undef, undef, undef, undef, undef, undef, undef, undef, undef, undef, undef, undef, undef, undef, undef, undef, undef, undef, undef, undef, undef, undef, undef, undef, undef, undef, undef, undef, undef, undef, undef, undef, undef, undef, undef, undef, undef, undef, undef, undef, undef, undef, undef, undef, undef, undef, undef, undef], defers := [] }) ?assign ?body ?done ?stop
    case assign =>
      intro l x W K hK
      dsimp only [encB2]
      gi_wp2
      exact hK
    case stop =>
      rintro D c pre W hD hpre ⟨_, hn⟩ _
      exact absurd hpre hn
    case body =>
      as_aux_lemma =>
      rintro l pre x W ⟨⟨hI, hBW⟩, hle⟩ hlen
      have hon : (numsW pre).length = pre.length := by simp [numsW]
      have hwl := wordsOf_len s
      obtain ⟨ls, lr, lk, lp, lw, ll, lW⟩ := hI.lt
      have ds := hI.hs.cell 0 _ rfl
      have dl := hI.hl.cell 0 _ rfl
      have dp := hI.hp.cell 0 _ rfl
      have fr := hI.hr.frozen 0
      have dr := hI.hr.cell 0 _ rfl
      have hret : ¬ (lastOf pre ≤ x.1 ∧ x.1 + x.2.size ≤ s.size) → ¬ pre ++ [x] <+: wordsOf s := fun h hp => h (words_at s pre x hp)
      have HRET := hid hret
      have HI := hid hI
      have HBW := hid hBW
      clear hret hI hBW
      by_cases c1 : x.1 < lastOf pre
      · have f1 : ((x.1 : Nat) : Int) < ((lastOf pre : Nat) : Int) := by omega
        gi_wp2
        exact ⟨KeepsOthers.setCell _ _ _, rfl, HRET.out (by omega)⟩
      by_cases c2 : s.size < x.1
      · have f1 : ¬ ((x.1 : Nat) : Int) < ((lastOf pre : Nat) : Int) := by omega
        have f2 : ((s.size : Nat) : Int) < ((x.1 : Nat) : Int) := by omega
        gi_wp2
        exact ⟨KeepsOthers.setCell _ _ _, rfl, HRET.out (by omega)⟩
      by_cases c3 : s.size - x.1 < x.2.size
      · have f1 : ¬ ((x.1 : Nat) : Int) < ((lastOf pre : Nat) : Int) := by omega
        have f2 : ¬ ((s.size : Nat) : Int) < ((x.1 : Nat) : Int) := by omega
        have f3 : ((s.size : Nat) : Int) - ((x.1 : Nat) : Int) < ((x.2.size : Nat) : Int) := by omega
        gi_wp2
        exact ⟨KeepsOthers.setCell _ _ _, rfl, HRET.out (by omega)⟩
      have f1 : ¬ ((x.1 : Nat) : Int) < ((lastOf pre : Nat) : Int) := by omega
      have f2 : ¬ ((s.size : Nat) : Int) < ((x.1 : Nat) : Int) := by omega
      have f3 : ¬ ((s.size : Nat) : Int) - ((x.1 : Nat) : Int) < ((x.2.size : Nat) : Int) := by omega
      have f4 : ((lastOf pre : Nat) : Int) ≤ ((x.1 : Nat) : Int) := by omega
      have f5 : ((x.1 : Nat) : Int) ≤ ((s.size : Nat) : Int) := by omega
      clear HRET
      have hin1 : x.1 + x.2.size ≤ s.size := by omega
      have QL := hid fun (w : World) (hb : BoxIs w bk 34 [.bool (goodW s pre), .bool pre.isEmpty]) => look_any (s.extract (lastOf pre) x.1) bk (goodW s pre) pre.isEmpty false w hb (by simp [ByteArray.size_extract]; omega)
      have HK := hid (HI.out.drew).hk
      obtain ⟨⟨ng, N, M, ce⟩, hy⟩ : ∃ y, fracR (runesOf x.2) = y := ⟨_, rfl⟩
      have hoku : okU (runesOf x.2) = (ce == 0) := by unfold okU; rw [hy]
      have hnum : numsW (pre ++ [x]) = numsW pre ++ [fracL (ng, N, M, ce)] := by simp [numsW, hy]
      have hgw : ((goodW s pre && okB pre.isEmpty false (runesOf (s.extract (lastOf pre) x.1))) && (ce == 0)) = goodW s (pre ++ [x]) := by rw [goodW_snoc, rb_runes, hoku]
      have QF := hid fun w => readsFracB x.2 w (by omega) ng N M ce hy
      have HNUM := hid hnum
      have HGW := hid hgw
      clear hgw hnum hoku hy
      obtain ⟨g1, hg1⟩ : ∃ g1, (goodW s pre && okB pre.isEmpty false (runesOf (s.extract (lastOf pre) x.1))) = g1 := ⟨_, rfl⟩
      rw [hg1] at HGW
      have HG1 := hid hg1
      clear hg1 f3 c1 c2 c3
      gi_upto_region 14 with (fail)
      gi_cut [] from 44 (fun w1 => ApSt s bs bs br bk bp bw bl bW g1 pre.isEmpty (lastOf pre) (numsW pre) w1 ∧ Below bs W w1 ∧ KeepsOthers W w1)
      case first =>
        gi_region_with (refine ⟨trivial, ?_⟩; gi_at_call 11; refine ((callsIn_wide.2 (QL.out _ HK.out)).inRound l).mono ?_; rintro e w1 ⟨rfl, hb1, hg1⟩)
        all_goals
          rw [HG1.out] at hb1
          have FIN := hid (show ApSt s bs bs br bk bp bw bl bW g1 pre.isEmpty (lastOf pre) (numsW pre) w1 ∧ Below bs W w1 ∧ KeepsOthers W w1 from ⟨HI.out.drew.turn_k hg1 hb1, apst_below HI.out ho2 hg1, apst_others HI.out hg1⟩)
          clear hb1 hg1
          gi_wp2
          gi_meet
          case rel => exact FIN.out
      case rest =>
        obtain ⟨hI1, hB1, hK1⟩ := hcut
        have dp1 := hI1.hp.cell 0 _ rfl
        have fk1 := hI1.hk.frozen 1
        have ck1 := hI1.hk.cell 1 _ rfl
        have hI2 : ApSt s bs bs br bk bp bw bl bW g1 false (lastOf pre) (numsW pre) (wc.setCell ⟨bk, 1, none⟩ (.bool false)) := hI1.turn_k (grownBy_setAt wc bk 1 _) (hI1.hk.set 1 _)
        have hB2 : Below bs W (wc.setCell ⟨bk, 1, none⟩ (.bool false)) := hB1.setCell (p := ⟨bk, 1, none⟩) ho2 _
        have hK2 : KeepsOthers W (wc.setCell ⟨bk, 1, none⟩ (.bool false)) := hK1.trans (KeepsOthers.setCell _ _ _)
        have HI2 := hid hI2
        have HB2 := hid hB2
        have HK2 := hid hK2
        have hlw : bs ≤ wc.heap.size := by have := hI1.lt; omega
        clear hI1 hB1 hK1 hI2 hB2 hK2
        gi_wp2_with (refine ⟨trivial, ?_⟩; gi_at_call 12; refine ((callsIn_wide.2 (QF.out _)).inRound l).mono ?_; rintro e w2 ⟨hb2, ad4, cap4, ae4, cbp4, rfl, hq, hp⟩)
        obtain ⟨hal2, bf2, hsz2⟩ := boxA w2 #[.bool ng, .slice ad4 (toL N).length cap4, .bool false, .slice ae4 (toL M).length cbp4] 42
        have hI3 := (HI2.out.later hb2).later hal2
        have hlw2 : bs ≤ w2.heap.size := Nat.le_trans hlw (by have := hb2.size; simpa [World.setCell] using this)
        have hB3 := (HB2.out.trans (hb2.mono (by simpa [World.setCell] using hlw))).alloc hlw2 (.cells #[.bool ng, .slice ad4 (toL N).length cap4, .bool false, .slice ae4 (toL M).length cbp4] 42)
        have hK3 := (HK2.out.trans (others_below hb2)).trans (others_below hal2)
        have hq3 := (hq.below hal2 (Nat.le_refl _)).wide (lo' := bs) (hi' := (w2.alloc (.cells #[.bool ng, .slice ad4 (toL N).length cap4, .bool false, .slice ae4 (toL M).length cbp4] 42)).heap.size) (by simpa [World.setCell] using hlw) (by rw [hsz2]; omega)
        have hp3 := (hp.below hal2 (Nat.le_refl _)).wide (lo' := bs) (hi' := (w2.alloc (.cells #[.bool ng, .slice ad4 (toL N).length cap4, .bool false, .slice ae4 (toL M).length cbp4] 42)).heap.size) (by simpa [World.setCell] using hlw) (by rw [hsz2]; omega)
        obtain ⟨W3, hW3⟩ : ∃ W, w2.alloc (.cells #[.bool ng, .slice ad4 (toL N).length cap4, .bool false, .slice ae4 (toL M).length cbp4] 42) = W := ⟨_, rfl⟩
        have hba : bs ≤ w2.heap.size := hlw2
        have hbk2 : bk < w2.heap.size := by
          have h1 := HI2.out.lt
          have h2 := hb2.size
          omega
        rw [hW3] at hI3 hB3 hK3 hq3 hp3 bf2 ⊢
        clear hW3 hal2 hsz2 hb2 hq hp hlw hlw2 dp1 fk1 ck1 QF HI2 HB2 HK2 dp dl ds dr fr
        revert hba hbk2 bf2
        generalize w2.heap.size = ba
        intro bf2 hba hbk2
        obtain ⟨gg, hgg⟩ : ∃ gg, (g1 && (ce == 0)) = gg := ⟨_, rfl⟩
        rw [hgg] at HGW
        have dp3 := hI3.hp.cell 0 _ rfl
        have fk3 := hI3.hk.frozen 0
        have ck3 := hI3.hk.cell 0 _ rfl
        have HI3 := hid hI3
        have HB3 := hid hB3
        have HK3 := hid hK3
        have HQ3 := hid hq3
        have HP3 := hid hp3
        have HBF := hid bf2
        clear hI3 hB3 hK3 hq3 hp3 bf2
        gi_cut [] from 58 (fun w4 => w4 = W3.drew.setCell ⟨bk, 0, none⟩ (.bool gg))
        case first =>
          cases g1
          · obtain rfl : false = gg := by simpa using hgg
            clear hgg
            gi_region_with (first | (refine ⟨trivial, ?_⟩; gi_at_call 13; refine ((callsIn_wide.2 (QN.out _ _)).inRound l).mono ?_; rintro e w5 ⟨rfl, rfl⟩) | (refine ⟨trivial, ?_⟩))
            all_goals
              gi_wp2
              gi_meet
              case rel => rfl
          · by_cases hce : ce = 0
            · obtain rfl : true = gg := by rw [← hgg, hce]; rfl
              subst hce
              clear hgg
              gi_region_with (first | (refine ⟨trivial, ?_⟩; gi_at_call 13; refine ((callsIn_wide.2 (QN.out _ _)).inRound l).mono ?_; rintro e w5 ⟨rfl, rfl⟩) | (refine ⟨trivial, ?_⟩))
              all_goals
                gi_wp2
                gi_meet
                case rel => rfl
            · have hne : (((ce : Nat) : Int) == 0) = false := by simp; omega
              obtain rfl : false = gg := by rw [← hgg]; simp; omega
              clear hgg
              gi_region_with (first | (refine ⟨trivial, ?_⟩; gi_at_call 13; refine ((callsIn_wide.2 (QN.out _ _)).inRound l).mono ?_; rintro e w5 ⟨rfl, rfl⟩) | (refine ⟨trivial, ?_⟩))
              all_goals
                gi_wp2
                gi_meet
                case rel => rfl
        case rest =>
          subst hcut
          have hI4 : ApSt s bs bs br bk bp bw bl bW gg false (lastOf pre) (numsW pre) (W3.drew.setCell ⟨bk, 0, none⟩ (.bool gg)) := HI3.out.drew.turn_k (grownBy_setAt _ bk 0 _) (HI3.out.drew.hk.set 0 _)
          have hB4 : Below bs W (W3.drew.setCell ⟨bk, 0, none⟩ (.bool gg)) := HB3.out.drew.setCell (p := ⟨bk, 0, none⟩) ho2 _
          have hK4 : KeepsOthers W (W3.drew.setCell ⟨bk, 0, none⟩ (.bool gg)) := (HK3.out.trans (KeepsOthers.drew _)).trans (KeepsOthers.setCell _ _ _)
          have hrk : ∀ k, some bk = some k → ∃ c T f, W3.drew.heap[k]? = some (.cells c T f) ∧ T ≠ 96 := fun k e => by
            cases e
            exact ⟨_, _, _, HI3.out.hk, by decide⟩
          have hs4 : W3.heap.size = (W3.drew.setCell ⟨bk, 0, none⟩ (.bool gg)).heap.size := by simp [World.setCell]
          have hB0 : 0 < bs := by omega
          have hq4 : Limbs bs (W3.drew.setCell ⟨bk, 0, none⟩ (.bool gg)).heap.size (W3.drew.setCell ⟨bk, 0, none⟩ (.bool gg)) (.slice ad4 (toL N).length cap4) (toL N) := by
            rw [← hs4]
            exact Limbs.grown (w := W3.drew) HQ3.out hB0 (grownBy_setAt _ bk 0 _) hrk
          have hp4 : Limbs bs (W3.drew.setCell ⟨bk, 0, none⟩ (.bool gg)).heap.size (W3.drew.setCell ⟨bk, 0, none⟩ (.bool gg)) (.slice ae4 (toL M).length cbp4) (toL M) := by
            rw [← hs4]
            exact Limbs.grown (w := W3.drew) HP3.out hB0 (grownBy_setAt _ bk 0 _) hrk
          have bf4 : BoxIs (W3.drew.setCell ⟨bk, 0, none⟩ (.bool gg)) ba 42 [.bool ng, .slice ad4 (toL N).length cap4, .bool false, .slice ae4 (toL M).length cbp4] := BoxIs.other (w := W3.drew) HBF.out _ _ (by show ba ≠ bk; omega)
          obtain ⟨W4, hW4⟩ : ∃ W, W3.drew.setCell ⟨bk, 0, none⟩ (.bool gg) = W := ⟨_, rfl⟩
          rw [hW4] at hI4 hB4 hK4 hq4 hp4 bf4 ⊢
          clear hW4 hrk hs4 HI3 HB3 HK3 HQ3 HP3 HBF dp3 fk3 ck3 hgg
          obtain ⟨v5, hv5, hout5⟩ := hI4.hw
          obtain ⟨ad5, cap5, rfl⟩ := hout5.shape
          have hout6 := hout5
          obtain ⟨cs, hown, hcl, hc4, hR⟩ := hout5
          obtain ⟨⟨m0, m1, m2, m3⟩, n0, n1, n2, n3⟩ := bf4.four
          have dv := hv5.cell 0 _ rfl
          have hl4 := hI4.lt
          have gl : ∀ w6, (W4.alloc (.cells #[.bool ng, .slice ad4 (toL N).length cap4, .bool false, .slice ae4 (toL M).length cbp4] 42)).grownBy w6 (Value.slice ad5 (numsW pre).length cap5).ownBlock → BoxIs w6 bw 35 [.slice ad5 (numsW pre).length cap5] ∧ BoxIs w6 bl 3 [.int .i64 (lastOf pre : Nat)] := fun w6 hg => by
            have hrr := own_type (hown.alloc (.cells #[.bool ng, .slice ad4 (toL N).length cap4, .bool false, .slice ae4 (toL M).length cbp4] 42))
            exact ⟨(hv5.alloc _).grown hg (hrr _ (by decide)), (hI4.hl.alloc _).grown hg (hrr _ (by decide))⟩
          have GL := hid gl
          have HOWN := hid hown
          have HQ := hid hq4
          have HP := hid hp4
          have HR := hid hR
          have HI4 := hid hI4
          have HB4 := hid hB4
          have HK4 := hid hK4
          have HBW2 := hid HBW.out
          have hsz4 : bs ≤ W4.heap.size := by omega
          have hle6 : pre.length ≤ 65536 := by omega
          have f6 : ((x.1 : Nat) : Int) + ((x.2.size : Nat) : Int) ≤ 65536 := by omega
          have HON := hid hon
          have HV5 := hid (hv5.alloc (.cells #[.bool ng, .slice ad4 (toL N).length cap4, .bool false, .slice ae4 (toL M).length cbp4] 42))
          have HCL := hid hcl
          have HC4 := hid hc4
          clear gl hown hq4 hp4 hR hI4 hB4 hK4 hv5 hout6 hon bf4 hl4 hcl hc4
          gi_wp2_with (gi_at_builtin; refine wpl_append1_in elemRat rfl _ _ rfl bs (numsW pre).length 1 1 _ cs.flatten #[.bool ng, .slice ad4 (toL N).length cap4, .bool false, .slice ae4 (toL M).length cbp4] HOWN.out rfl rfl rfl (by simp [Value.oneCell']) (by rw [HON.out]; omega) (by decide) (by rw [HON.out]; unfold maxLen; omega) HB4.out hsz4 ?_)
          intro g6 c6 w6 ho6 hb6 hg6
          have hal := (Below.refl W4.heap.size W4).alloc (Nat.le_refl _) (.cells #[.bool ng, .slice ad4 (toL N).length cap4, .bool false, .slice ae4 (toL M).length cbp4] 42)
          have hout := OutRow.snoc (x := (ng, toL N, false, toL M)) (by omega) HOWN.out HCL.out HC4.out HR.out HQ.out HP.out ho6 hg6
          obtain ⟨b6, l6⟩ := GL.out w6 hg6
          have hI5 := HI4.out.later hal
          have hI6 := hI5.turn_w HV5.out hg6 (fun k hk => by
            obtain ⟨c, hc⟩ := own_blk (HOWN.out.alloc _) k hk
            exact ⟨c, _, _, hc, rfl⟩) hout
          have l7 := hI6.hl
          have hI7 := hI6.turn_l (x.1 + x.2.size) (.int .i64 ((x.1 : Int) + (x.2.size : Int))) (by simp)
          have hK6 : KeepsOthers W w6 := (HK4.out.trans (others_below hal)).trans (KeepsOthers.of_grownBy hg6 (fun k o hk ho => by
            obtain ⟨c, hc⟩ := own_blk (HOWN.out.alloc _) k hk
            rw [hc] at ho
            cases ho
            rfl))
          have hB7 : Below bs W ((w6.setCell ⟨bw, 0, none⟩ (.slice (some ⟨g6, 0, none⟩) ((numsW pre).length + 1) c6)).setCell ⟨bl, 0, none⟩ (.int .i64 ((x.1 : Int) + (x.2.size : Int)))) := (hb6.setCell (p := ⟨bw, 0, none⟩) (by show bs ≤ bw; omega) _).setCell (p := ⟨bl, 0, none⟩) (by show bs ≤ bl; omega) _
          have hK7 := (hK6.trans (KeepsOthers.setCell w6 ⟨bw, 0, none⟩ (.slice (some ⟨g6, 0, none⟩) ((numsW pre).length + 1) c6))).trans (KeepsOthers.setCell _ ⟨bl, 0, none⟩ (.int .i64 ((x.1 : Int) + (x.2.size : Int))))
          have m0 := b6.cell 0 _ rfl
          have m1 := b6.frozen 0
          have k0 := l7.cell 0 _ rfl
          have k1 := l7.frozen 0
          have HI7 := hid hI7
          have HB7 := hid hB7
          have HK7 := hid hK7
          clear hout b6 l6 hI5 hI6 l7 hI7 hK6 hB7 hK7 hal ho6 hb6 hg6 dv m2 m3 n0 n1 n2 n3
          gi_wp2
          have hI8 := HI7.out
          have e1 : x.1 + x.2.size = lastOf (pre ++ [x]) := (lastOf_snoc pre x).symm
          have e2 : numsW pre ++ [(ng, toL N, false, toL M)] = numsW (pre ++ [x]) := HNUM.out.symm
          rw [e1, e2, HGW.out] at hI8
          refine ⟨HK7.out, ⟨HB7.out, hI8.hW.trans HI.out.hW.symm⟩, ⟨?_, HBW.out.trans HB7.out⟩, ?_⟩
          · have e3 : (pre ++ [x]).isEmpty = false := by simp
            rw [e3]
            exact hI8
          · rw [← e1]
            exact hin1
    case done =>
      as_aux_lemma =>
      rintro D ys W hD rfl ⟨⟨hI, hBW⟩, hle⟩ hK
      obtain ⟨ls, lr, lk, lp, lw, ll, lW⟩ := hI.lt
      have hwl := wordsOf_len s
      have hlaw := apart_words s
      obtain ⟨gd, hgd⟩ : ∃ gd, (goodW s (wordsOf s) && okB true true (rb s (lastOf (wordsOf s)) s.size)) = gd := ⟨_, rfl⟩
      obtain ⟨⟨X, nn, cf⟩, hy⟩ : ∃ y, rowOf s = y := ⟨_, rfl⟩
      have hg2 : (goodW s (wordsOf s) && okB (wordsOf s).isEmpty true (runesOf (s.extract (lastOf (wordsOf s)) s.size))) = gd := by rw [okB_last, rb_runes]; exact hgd
      have hy2 : rowR (runesOf s) = (X, nn, cf) := by rw [← rowOf_R]; exact hy
      have hrl := runesAt_len s 0
      have hl4 := rowR_len (runesOf s) (by unfold runesOf; omega)
      rw [hy2] at hl4
      rw [hgd, hy] at hlaw
      have QR := hid fun w => rowTold s w (by omega) X nn cf hy2
      have QL := hid fun (w : World) (hb : BoxIs w bk 34 [.bool (goodW s (wordsOf s)), .bool (wordsOf s).isEmpty]) => look_any (s.extract (lastOf (wordsOf s)) s.size) bk (goodW s (wordsOf s)) (wordsOf s).isEmpty true w hb (by simp [ByteArray.size_extract]; omega)
      have HG2 := hid hg2
      have HLAW := hid hlaw
      have HL4 := hid hl4
      have hon : (numsW (wordsOf s)).length ≤ 65536 := by simp [numsW]; omega
      clear hg2 hlaw hgd hy hy2 hrl hl4
      have ds := hI.hs.cell 0 _ rfl
      have dl := hI.hl.cell 0 _ rfl
      have dp := hI.hp.cell 0 _ rfl
      have HI := hid hI
      have HBW := hid hBW
      have HKD := hid hK
      have HK := hid (HI.out.drew).hk
      obtain ⟨la, hla⟩ : ∃ la, lastOf (wordsOf s) = la := ⟨_, rfl⟩
      obtain ⟨nw, hnw⟩ : ∃ nw, numsW (wordsOf s) = nw := ⟨_, rfl⟩
      obtain ⟨gw, hgw⟩ : ∃ gw, goodW s (wordsOf s) = gw := ⟨_, rfl⟩
      obtain ⟨em, hem⟩ : ∃ em, (wordsOf s).isEmpty = em := ⟨_, rfl⟩
      have hbkD : bk ≠ D := by have := hst.lt; omega
      have hbrW : br < Wb.heap.size := hst.lt.2.1
      clear hI hBW hK hst hbl hc hgT
      rw [hla] at hle dl QL HG2 HI
      rw [hnw] at HI HLAW hon
      rw [hgw] at QL HG2 HI HK
      rw [hem] at QL HG2 HI HK
      clear hla hnw hgw hem
      have f4 : ((la : Nat) : Int) ≤ ((s.size : Nat) : Int) := by omega
      have g4 : (0 : Int) ≤ ((la : Nat) : Int) := by omega
      gi_upto_region 20 with (fail)
      gi_cut [] from 83 (fun w1 => ApSt s bs bs br bk bp bw bl bW gd em la nw w1 ∧ Below bs W w1 ∧ w1.heap[D]? = some (.deferred (some [])))
      case first =>
        refine wpIn_mono (Q := CalmQ _) ?_ CalmQ.imp
        gi_region_with (refine ⟨trivial, ?_⟩; gi_at_call 11; refine (callsIn_wide.2 (QL.out _ HK.out)).mono ?_; rintro e w1 ⟨rfl, hb1, hg1⟩)
        all_goals
          refine CalmQ.normal ?_
          rw [HG2.out] at hb1
          have FIN := hid (show ApSt s bs bs br bk bp bw bl bW gd em la nw w1 ∧ Below bs W w1 ∧ w1.heap[D]? = some (.deferred (some [])) from ⟨HI.out.drew.turn_k hg1 hb1, apst_below HI.out ho2 hg1, (hg1.block D (Array.getElem?_eq_some_iff.1 HKD.out).1 (fun e => hbkD (by cases e; rfl))).trans HKD.out⟩)
          clear hb1 hg1
          gi_wp2
          gi_meet
          case rel => exact FIN.out
      case rest =>
        obtain ⟨hI1, hB1, hD1⟩ := hcut
        have ds1 := hI1.hs.cell 0 _ rfl
        have hlt1 := hI1.lt
        have HI1 := hid hI1
        have HB1 := hid hB1
        have HD1 := hid hD1
        clear hI1 hB1 hD1 ds dl dp QL HK HI HKD
        gi_wp2_with (refine ⟨trivial, ?_⟩; gi_at_call 14; refine (callsIn_wide.2 (QR.out _)).mono ?_; clear QR; rintro e w2 ⟨hb2, ad2, cap2, rfl, hx2⟩)
        have hI2 := HI1.out.later hb2
        have hB2 := HB1.out.trans (hb2.mono (by omega))
        have dp2 := hI2.hp.cell 0 _ rfl
        obtain ⟨v5, hv5, hout5⟩ := hI2.hw
        have hfr := hout5.fracs
        obtain ⟨ad5, cap5, rfl⟩ := hout5.shape
        have dw2 := hv5.cell 0 _ rfl
        have dk2 := hI2.hk.cell 0 _ rfl
        have fk2 := hI2.hk.frozen 0
        have gre : ∀ w9, Below w2.drew.heap.size w2.drew w9 → Boxed w9 br 4 (.bool false) := fun w9 h => (h.block _ (by have := hI2.lt; show br < w2.heap.size; omega)).trans hI2.hr
        have gde : ∀ w9, Below w2.drew.heap.size w2.drew w9 → w9.heap[D]? = some (.deferred (some [])) := fun w9 h => by
          have h1 := (Array.getElem?_eq_some_iff.1 HD1.out).1
          have h2 := hb2.size
          exact (h.block _ (by show D < w2.heap.size; omega)).trans ((hb2.block _ h1).trans HD1.out)
        have hszW : bs ≤ w2.heap.size := by have := hb2.size; omega
        have GRE := hid gre
        have GDE := hid gde
        have HB2 := hid hB2
        have HFR := hid hfr
        have HX2 := hid hx2
        have HSZ := hid hb2.size
        clear gre gde hB2 hfr hx2 hI2 hv5 hout5 hb2 ds1
        cases gd
        · have hcf : cf ≠ 0 := fun h => by have := HLAW.out.1.1 h; cases this
          have hne : (((cf : Nat) : Int) == 0) = false := by simp; omega
          refine wpIn_mono (Q := CalmQ _) ?_ CalmQ.imp
          first | (gi_region_with (first | (refine ⟨trivial, ?_⟩; gi_at_call 13; refine (callsIn_wide.2 (QN.out _ _)).mono ?_; rintro e w5 ⟨rfl, rfl⟩) | (refine ⟨trivial, ?_⟩; gi_at_call 9; refine (callsIn_wide.2 (QA.out _)).mono ?_; rintro e w9 ⟨rfl, hb9⟩; have g9 := GRE.out w9 hb9; have g9c := g9.cell; have g9f := g9.frozen) | (refine ⟨trivial, ?_⟩))) | fail
          all_goals
            refine CalmQ.normal ?_
            have hD9 := GDE.out w9 hb9
            gi_wp2
            have hw9 : w2.heap.size ≤ w9.heap.size := hb9.size
            have hDl := (Array.getElem?_eq_some_iff.1 HD1.out).1
            have hwc := HSZ.out
            refine leaves_marks [D] _ Wb.heap.size (by simp; omega) (by simp) (fun D' hD' => ?_) (fun W' hW' => ⟨.bool true, ?_, rfl, ?_⟩)
            · obtain rfl : D' = D := by simpa using hD'
              exact ⟨hD, ((grownBy_setCell' w9 br (.bool true)).block D' (Array.getElem?_eq_some_iff.1 hD9).1 (fun e => by cases e; omega)).trans hD9⟩
            · have hc5 : W'.cell? ⟨br, 0, none⟩ = some (.bool true) := (hW'.cell (p := ⟨br, 0, none⟩) (by show br < _; omega)).trans (Boxed.set (.bool true) g9).cell
              simp [results, Tryd.f4, go_sem, hc5]
            · exact ((((HBW.out.trans HB2.out).drew.trans (hb9.mono hszW)).setCell (p := ⟨br, 0, none⟩) ho1 (.bool true)).trans (hW'.mono (by omega))).mono hbw2
        · have hcf := HLAW.out.2 rfl
          simp only [Prod.mk.injEq] at hcf
          obtain ⟨rfl, rfl, rfl⟩ := hcf
          have QW := hid (rows_true _ _ _ _ (.slice ad2 X.length cap2) (.slice ad5 X.length cap5) X w2.drew (HX2.out.keep (fun _ _ _ => rfl)) (Nat.le_refl _) (HFR.out.keep (fun _ _ _ => rfl)) (Nat.le_refl _) HL4.out.2 (fun x hx => by have := HL4.out.1 x hx; omega))
          refine wpIn_mono (Q := CalmQ _) ?_ CalmQ.imp
          first | gi_region_with (first | (refine ⟨trivial, ?_⟩; gi_at_call 13; refine (callsIn_wide.2 (QN.out _ _)).mono ?_; rintro e w5 ⟨rfl, rfl⟩) | (refine ⟨trivial, ?_⟩; gi_at_call 15; refine (callsIn_wide.2 QW.out).mono ?_; rintro e w6 ⟨rfl, hb6⟩) | (refine ⟨trivial, ?_⟩; gi_at_call 9; refine (callsIn_wide.2 (QA.out _)).mono ?_; rintro e w9 ⟨rfl, hb9⟩; have g9 := GRE.out w9 (chain hb6 hb9); have g9c := g9.cell; have g9f := g9.frozen) | (refine ⟨trivial, ?_⟩)) | fail
          all_goals
            refine CalmQ.normal ?_
            have hD9 := GDE.out w9 (chain hb6 hb9)
            gi_wp2
            have hw9 : w2.heap.size ≤ w9.heap.size := (chain hb6 hb9).size
            have hDl := (Array.getElem?_eq_some_iff.1 HD1.out).1
            have hwc := HSZ.out
            refine leaves_marks [D] _ Wb.heap.size (by simp; omega) (by simp) (fun D' hD' => ?_) (fun W' hW' => ⟨.bool true, ?_, rfl, ?_⟩)
            · obtain rfl : D' = D := by simpa using hD'
              exact ⟨hD, ((grownBy_setCell' w9 br (.bool true)).block D' (Array.getElem?_eq_some_iff.1 hD9).1 (fun e => by cases e; omega)).trans hD9⟩
            · have hc5 : W'.cell? ⟨br, 0, none⟩ = some (.bool true) := (hW'.cell (p := ⟨br, 0, none⟩) (by show br < _; omega)).trans (Boxed.set (.bool true) g9).cell
              simp [results, Tryd.f4, go_sem, hc5]
            · exact ((((HBW.out.trans HB2.out).drew.trans ((chain hb6 hb9).mono hszW)).setCell (p := ⟨br, 0, none⟩) ho1 (.bool true)).trans (hW'.mono (by omega))).mono hbw2
end Go.Proofs.YtjjidmgeladicaaDoor

/- (*similelaw02.apart).look: what stands between two words. -/
import Derived.Test.YtjjidmgeladicaaDoorApartSeg
import Derived.Outline
namespace Go.Proofs.YtjjidmgeladicaaDoor
open Go.RowKit

theorem okRune_59 : okRune 59 = false := rfl
theorem okRune_10 : okRune 10 = false := rfl

/-- an iterator moved on is a block turned -/
theorem box_iterAt {w : World} {g k : Nat} {T : TypeId} {cs : List Value} {s : ByteArray} {pos : Nat} (h : BoxIs w g T cs) (hk : w.heap[k]? = some (.stringIter s pos)) (pos' : Nat) : BoxIs (w.iterAt k s pos') g T cs := by
  refine h.keep (Lib.iterAt_other w k g s pos' ?_)
  intro e
  subst e
  have h3 : w.heap[g]? = some (.cells cs.toArray T (0, 0)) := h
  rw [hk] at h3
  cases h3

set_option maxHeartbeats 3200000 in
theorem look_any (s : ByteArray) (bk : Nat) (good first last : Bool) (w : World) (hb : BoxIs w bk 34 [.bool good, .bool first]) (hs : s.size ≤ 400000000) :
    Calls Tryd.prog 11 #[.pointer (some ⟨bk, 0, none⟩), .string s, .bool last] w fun e w' => e = .returned (.tuple #[]) ∧
      BoxIs w' bk 34 [.bool (good && okB first last (runesOf s)), .bool first] ∧ w.grownBy w' (some bk) := by
  have hlt := hb.lt
  have hk0 := World.iter_heap w s 0
  have hb0 : BoxIs (w.iter s 0) bk 34 [.bool good, .bool first] := hb.alloc _
  have hg0 : w.grownBy (w.iter s 0) (some bk) := World.grownBy_alloc w _ _
  clear hb
  go_enter Tryd.func11, Tryd.ntmps11
  go_wp2
  obtain ⟨kb, hkk⟩ : ∃ kb, w.heap.size = kb := ⟨_, rfl⟩
  obtain ⟨w2, hww⟩ : ∃ w2, w.iter s 0 = w2 := ⟨_, rfl⟩
  rw [hkk] at hk0 hlt ⊢
  rw [hww] at hk0 hb0 hg0 ⊢
  have hkb : w.heap.size ≤ kb := by rw [hkk]; exact Nat.le_refl _
  clear hkk hww
  go_loopg [6] s.size (fun gk nv wr => ∃ (pos : Nat) (pre : List Nat) (g : Bool), gk = s.size - pos ∧ wr.heap[kb]? = some (.stringIter s pos) ∧ nv = .int .i64 (commas pre : Nat) ∧
      BoxIs wr bk 34 [.bool g, .bool first] ∧ g = (good && pre.all okRune) ∧ w.grownBy wr (some bk) ∧ runesOf s = pre ++ runesAt s pos ∧ commas pre ≤ pos ∧ pos ≤ s.size)
  case atStart => exact ⟨0, [], good, by omega, hk0, rfl, hb0, by simp, hg0, rfl, Nat.le_refl _, Nat.zero_le _⟩
  case round =>
    obtain ⟨pos, pre, g, hgk, hk, rfl, hbx, hgd, hgw, hru, hpl, hps⟩ := hrel
    have HRU := hid hru
    have HGK := hid hgk
    have HGD := hid hgd
    clear hru hgk hk0 hb0 hg0 hgd
    by_cases hp : pos < s.size
    · have hnx := fun ty => Lib.run_next_any_at (P := Tryd.prog) wr kb s pos ty hk hp
      have hw := decode_width s pos
      have hen := decode_end s pos hp
      have hrb := decode_lt s pos
      obtain ⟨rn, hrn⟩ : ∃ rn, (Utf8.decode s pos).1 = rn := ⟨_, rfl⟩
      obtain ⟨wd, hwd⟩ : ∃ wd, (Utf8.decode s pos).2 = wd := ⟨_, rfl⟩
      have hst := runesAt_step s pos hp
      rw [hrn, hwd] at hst hnx
      rw [hrn] at hrb
      rw [hwd] at hw hen
      have hk2 := Lib.iterAt_heap wr kb s pos (pos + wd) hk
      have hbx2 := box_iterAt hbx hk (pos + wd)
      have hg2 : w.grownBy (wr.iterAt kb s (pos + wd)) (some bk) :=
        ⟨hgw.os, hgw.tape, hgw.output, by rw [Lib.iterAt_size]; exact hgw.size, fun k hk hne => (Lib.iterAt_other wr kb k s (pos + wd) (by omega)).trans (hgw.block k hk hne)⟩
      have hru2 : runesOf s = (pre ++ [rn]) ++ runesAt s (pos + wd) := by rw [HRU.out, hst]; simp
      have hc2 := commas_snoc pre rn
      have hall : (pre ++ [rn]).all okRune = (pre.all okRune && okRune rn) := by simp
      obtain ⟨W, hW⟩ : ∃ W, wr.iterAt kb s (pos + wd) = W := ⟨_, rfl⟩
      rw [hW] at hk2 hbx2 hg2 hnx
      have hnb : bk ≠ kb := by omega
      have hset := fun v => (Below.heap_setCell W ⟨bk, 0, none⟩ v kb (Ne.symm hnb)).trans hk2
      have HSET := hid hset
      have hgs := fun v : Value => (⟨hg2.os, hg2.tape, hg2.output, by have := hg2.size; simpa [World.setCell] using this, fun k hk hne => (Below.heap_setCell W ⟨bk, 0, none⟩ v k (fun e => hne (by rw [e]))).trans (hg2.block k hk hne)⟩ : w.grownBy (W.setCell ⟨bk, 0, none⟩ v) (some bk))
      have HGS := hid hgs
      have HBX := hid fun v => hbx2.set 0 v
      obtain ⟨c0, c1, f0, f1⟩ := hbx2.two
      have HRU2 := hid hru2
      have HC2 := hid hc2
      have HALL := hid hall
      clear hst hrn hwd hk2 hbx hgw hW hbx2 hg2 hru2 hc2 hall hset hgs hk
      cases g
      · by_cases c44 : rn = 44
        · subst c44
          go_wp2
          go_roundg (s.size - (pos + wd))
          case measure => have := HGK.out; omega
          case rel => exact ⟨pos + wd, pre ++ [44], false, rfl, HSET.out _, by rw [HC2.out]; go_num, HBX.out _, by rw [HALL.out, ← Bool.and_assoc, ← HGD.out]; rfl, HGS.out _, HRU2.out, by rw [HC2.out]; simp; omega, hen⟩
        · have n44 : ((rn : Int) == 44) = false := by simp; omega
          go_wp2
          go_roundg (s.size - (pos + wd))
          case measure => have := HGK.out; omega
          case rel => exact ⟨pos + wd, pre ++ [rn], false, rfl, HSET.out _, by rw [HC2.out, if_neg c44]; rfl, HBX.out _, by rw [HALL.out, ← Bool.and_assoc, ← HGD.out]; rfl, HGS.out _, HRU2.out, by rw [HC2.out, if_neg c44]; omega, hen⟩
      · by_cases c44 : rn = 44
        · subst c44
          go_wp2
          go_roundg (s.size - (pos + wd))
          case measure => have := HGK.out; omega
          case rel => exact ⟨pos + wd, pre ++ [44], true, rfl, HSET.out _, by rw [HC2.out]; go_num, HBX.out _, by rw [HALL.out, ← Bool.and_assoc, ← HGD.out]; rfl, HGS.out _, HRU2.out, by rw [HC2.out]; simp; omega, hen⟩
        · have n44 : ((rn : Int) == 44) = false := by simp; omega
          by_cases c59 : rn = 59
          · subst c59
            go_wp2
            go_roundg (s.size - (pos + wd))
            case measure => have := HGK.out; omega
            case rel => exact ⟨pos + wd, pre ++ [59], false, rfl, HSET.out _, by rw [HC2.out, if_neg c44]; rfl, HBX.out _, by rw [HALL.out, okRune_59, Bool.and_false, Bool.and_false], HGS.out _, HRU2.out, by rw [HC2.out, if_neg c44]; omega, hen⟩
          · have n59 : ((rn : Int) != 59) = true := by simp; omega
            by_cases c10 : rn = 10
            · subst c10
              go_wp2
              go_roundg (s.size - (pos + wd))
              case measure => have := HGK.out; omega
              case rel => exact ⟨pos + wd, pre ++ [10], false, rfl, HSET.out _, by rw [HC2.out, if_neg c44]; rfl, HBX.out _, by rw [HALL.out, okRune_10, Bool.and_false, Bool.and_false], HGS.out _, HRU2.out, by rw [HC2.out, if_neg c44]; omega, hen⟩
            · have n10 : ((rn : Int) != 10) = true := by simp; omega
              have hok : okRune rn = true := by simp [okRune, c59, c10]
              have HOK := hid hok
              clear hok
              go_wp2
              go_roundg (s.size - (pos + wd))
              case measure => have := HGK.out; omega
              case rel => exact ⟨pos + wd, pre ++ [rn], true, rfl, HSET.out _, by rw [HC2.out, if_neg c44]; rfl, HBX.out _, by rw [HALL.out, ← Bool.and_assoc, ← HGD.out, HOK.out]; rfl, HGS.out _, HRU2.out, by rw [HC2.out, if_neg c44]; omega, hen⟩
    · have hnx := fun ty => Lib.run_next_end_at (P := Tryd.prog) wr kb s pos ty hk hp
      have he := runesAt_end s pos hp
      have hR : runesOf s = pre := by rw [HRU.out, he, List.append_nil]
      have hgs := fun v : Value => (⟨hgw.os, hgw.tape, hgw.output, by have := hgw.size; simpa [World.setCell] using this, fun k hk hne => (Below.heap_setCell wr ⟨bk, 0, none⟩ v k (fun e => hne (by rw [e]))).trans (hgw.block k hk hne)⟩ : w.grownBy (wr.setCell ⟨bk, 0, none⟩ v) (some bk))
      have HGS := hid hgs
      have HBX := hid fun v => hbx.set 0 v
      have HR := hid hR
      obtain ⟨c0, c1, f0, f1⟩ := hbx.two
      obtain ⟨n, hn⟩ : ∃ n, commas pre = n := ⟨_, rfl⟩
      rw [hn] at hpl ⊢
      have hfin : (good && okB first last pre) = (g && (n == 0 || (n == 1 && !first && !last))) := by
        rw [HGD.out, okB, hn]
        generalize pre.all okRune = z
        cases good <;> cases z <;> simp
      have HF := hid hfin
      clear he hR hgs hbx hgw hfin hn hk
      cases g
      · go_wp2
        go_end0
        refine ⟨rfl, ?_, HGS.out _⟩; rw [HR.out, HF.out]; exact HBX.out _
      · match n with
        | 0 =>
          go_wp2
          go_end0
          refine ⟨rfl, ?_, HGS.out _⟩; rw [HR.out, HF.out]; exact HBX.out _
        | 1 =>
          cases first <;> cases last
          all_goals
            go_wp2
            go_end0
            refine ⟨rfl, ?_, HGS.out _⟩; rw [HR.out, HF.out]; exact HBX.out _
        | n + 2 =>
          have m0 : (((n + 2 : Nat) : Int) == 0) = false := by simp; omega
          have m1 : (((n + 2 : Nat) : Int) == 1) = false := by simp; omega
          go_wp2
          go_end0
          refine ⟨rfl, ?_, HGS.out _⟩; rw [HR.out, HF.out]; exact HBX.out _
end Go.Proofs.YtjjidmgeladicaaDoor

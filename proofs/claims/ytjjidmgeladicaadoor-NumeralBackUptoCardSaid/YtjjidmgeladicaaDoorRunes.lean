/- numeral.runes, simileref02.Runes: the runes of a text. -/
import Derived.Test.YtjjidmgeladicaaDoorText
namespace Go.Proofs.YtjjidmgeladicaaDoor
open Go.RowKit

theorem elemRunes : Elem Tryd.prog 88 21 (.int .i32 0) 1 4 :=
  ⟨Tryd.underlying88, by kernel_rfl, rfl, by decide⟩

theorem iterAt_own {w : World} {B : Nat} {e : TypeId} {size n : Nat} {v : Value} {xs : List Value} (h : w.ownsRow B e size v n xs) {k : Nat} {s : ByteArray} {pos : Nat} (hk : w.heap[k]? = some (.stringIter s pos)) (pos' : Nat) :
    (w.iterAt k s pos').ownsRow B e size v n xs := by
  refine ⟨h.1, ?_⟩
  rcases h.2 with hn | ⟨g, cap, cur, rfl, hbg, hgg, rest⟩
  · exact .inl hn
  · refine .inr ⟨g, cap, cur, rfl, hbg, ?_, rest⟩
    rw [Lib.iterAt_other w k g s pos' (by intro e; subst e; rw [hgg] at hk; cases hk)]
    exact hgg

theorem grown_iter {w w' : World} {row : Option Nat} {k : Nat} {s : ByteArray} {pos : Nat} (hg : w.grownBy w' row) (hk : w.heap[k]? = some (.stringIter s pos)) (hr : ∀ g, row = some g → ∃ c T f, w.heap[g]? = some (.cells c T f)) :
    w'.heap[k]? = some (.stringIter s pos) := by
  rw [hg.block k (Array.getElem?_eq_some_iff.1 hk).1 ?_, hk]
  intro e
  obtain ⟨c, T, f, h⟩ := hr k e.symm
  rw [hk] at h
  cases h

theorem own_kind {w : World} {B : Nat} {e : TypeId} {size n : Nat} {v : Value} {xs : List Value} (h : w.ownsRow B e size v n xs) : ∀ g, v.ownBlock = some g → ∃ c T f, w.heap[g]? = some (.cells c T f) := by
  intro g hg
  rcases h.2 with ⟨rfl, _⟩ | ⟨g', cap, cur, rfl, _, hgg, _⟩
  · simp [Value.ownBlock] at hg
  · simp [Value.ownBlock] at hg
    subst hg
    exact ⟨_, _, _, hgg⟩

set_option maxHeartbeats 800000 in
theorem runes_any (s : ByteArray) (w : World) (hs : s.size ≤ 17592186044416) :
    Calls Tryd.prog 65 #[.string s] w fun e w' => ∃ r, e = .returned r ∧ Nums .i32 w.heap.size w'.heap.size w' r (runesOf s) ∧ Below w.heap.size w w' := by
  go_enter Tryd.func65, Tryd.ntmps65
  go_wp2_with (at_make; refine wpl_make elemRunes rfl _ _ rfl w.heap.size _ _ _ _ 0 s.size rfl rfl rfl rfl (Nat.zero_le _) (by omega) (by unfold maxLen; omega) (Below.refl _ _) (Nat.le_refl _) ?_)
  intro w1 ho1 hb1 _
  go_wp2
  have hk0 := World.iter_heap w1 s 0
  have ho2 : (w1.iter s 0).ownsRow w.heap.size 21 1 (.slice (some ⟨w.heap.size, 0, none⟩) 0 s.size) 0 (numsC .i32 []) := ho1.alloc _
  have hb2 : Below w.heap.size w (w1.iter s 0) := hb1.alloc hb1.size _
  have hkb : w.heap.size ≤ w1.heap.size := hb1.size
  revert hk0 ho2 hb2 hkb
  generalize w1.iter s 0 = w2
  generalize w1.heap.size = kb
  intro hk0 ho2 hb2 hkb
  go_loopg [3] s.size (fun gk lv wr => ∃ (pos : Nat) (pre : List Nat) (g c : Nat), gk = s.size - pos ∧ wr.heap[kb]? = some (.stringIter s pos) ∧ lv = .slice (some ⟨g, 0, none⟩) pre.length c ∧
      wr.ownsRow w.heap.size 21 1 (.slice (some ⟨g, 0, none⟩) pre.length c) pre.length (numsC .i32 pre) ∧ Below w.heap.size w wr ∧ runesOf s = pre ++ runesAt s pos ∧ pre.length ≤ pos)
  case atStart => exact ⟨0, [], w.heap.size, s.size, by omega, hk0, rfl, ho2, hb2, rfl, Nat.le_refl _⟩
  case round =>
    obtain ⟨pos, pre, g, c, hgk, hk, rfl, hown, hbel, hru, hpl⟩ := hrel
    have HRU := hid hru
    have HGK := hid hgk
    clear hru hgk ho1 hb1 hk0 ho2 hb2
    by_cases hp : pos < s.size
    · have hnx := fun ty => Lib.run_next_any_at (P := Tryd.prog) wr kb s pos ty hk hp
      have hw := decode_width s pos
      obtain ⟨rn, hrn⟩ : ∃ rn, (Utf8.decode s pos).1 = rn := ⟨_, rfl⟩
      obtain ⟨wd, hwd⟩ : ∃ wd, (Utf8.decode s pos).2 = wd := ⟨_, rfl⟩
      have hst := runesAt_step s pos hp
      rw [hrn, hwd] at hst hnx
      rw [hwd] at hw
      have hown2 := iterAt_own hown hk (pos + wd)
      have hk2 := Lib.iterAt_heap wr kb s pos (pos + wd) hk
      have hbel2 := Lib.below_iterAt hbel hkb s (pos + wd)
      have HST := hid hst
      have HK := hid hk2
      have hml : pre.length + 1 ≤ 17592186044416 := by omega
      clear hst hrn hwd hk2 hown hk hbel
      go_wp2_with (at_builtin; go_loud (refine wpl_append1 elemRunes rfl _ _ rfl w.heap.size pre.length 1 1 _ (numsC .i32 pre) _ hown2 rfl rfl rfl (by simp [Value.oneCell']) (by omega) (by decide) (by unfold maxLen; omega) hbel2 hbel2.size ?_))
      intro g6 c6 w6 ho6 hb6 hg6
      have hk6 : w6.heap[kb]? = some (.stringIter s (pos + wd)) := by
        refine grown_iter hg6 ?_ ?_
        · rw [Below.heap_alloc _ _ _ (Array.getElem?_eq_some_iff.1 HK.out).1]; exact HK.out
        · exact own_kind (hown2.alloc _)
      have HK6 := hid hk6
      clear hk6 hg6 hnx hown2
      go_wp2
      go_roundg (s.size - (pos + wd))
      case measure => have := HGK.out; omega
      case rel =>
        refine ⟨pos + wd, pre ++ [rn], g6, c6, rfl, HK6.out, by simp, ?_, hb6, by rw [HRU.out, HST.out]; simp, by simp; omega⟩
        simpa [numsC] using ho6
    · have hnx := fun ty => Lib.run_next_end_at (P := Tryd.prog) wr kb s pos ty hk hp
      have he := runesAt_end s pos hp
      have HE := hid he
      clear he
      go_wp2
      go_ret
      rw [HRU.out, HE.out, List.append_nil]
      exact ⟨_, rfl, Nums.ofOwn hown, hbel⟩
set_option maxHeartbeats 800000 in
theorem runes02_any (s : ByteArray) (w : World) (hs : s.size ≤ 17592186044416) :
    Calls Tryd.prog 41 #[.string s] w fun e w' => ∃ r, e = .returned r ∧ Nums .i32 w.heap.size w'.heap.size w' r (runesOf s) ∧ Below w.heap.size w w' := by
  go_enter Tryd.func41, Tryd.ntmps41
  go_wp2
  have hk0 := World.iter_heap w s 0
  have ho2 : (w.iter s 0).ownsRow w.heap.size 21 1 (.slice none 0 0) 0 (numsC .i32 []) := World.ownsRow_nil _ _ _ _
  have hb2 : Below w.heap.size w (w.iter s 0) := (Below.refl _ _).alloc (Nat.le_refl _) _
  obtain ⟨kb, hkk⟩ : ∃ kb, w.heap.size = kb := ⟨_, rfl⟩
  obtain ⟨w2, hww⟩ : ∃ w2, w.iter s 0 = w2 := ⟨_, rfl⟩
  rw [hkk] at hk0 ⊢
  rw [hww] at hk0 ho2 hb2 ⊢
  have HKK := hid hkk
  have HWW := hid hww
  have hkb : w.heap.size ≤ kb := by rw [hkk]; exact Nat.le_refl _
  clear hkk hww
  go_loopg [3] s.size (fun gk lv wr => ∃ (pos : Nat) (pre : List Nat), gk = s.size - pos ∧ wr.heap[kb]? = some (.stringIter s pos) ∧
      wr.ownsRow w.heap.size 21 1 lv pre.length (numsC .i32 pre) ∧ Below w.heap.size w wr ∧ runesOf s = pre ++ runesAt s pos ∧ pre.length ≤ pos)
  case atStart => exact ⟨0, [], by omega, hk0, ho2, hb2, rfl, Nat.le_refl _⟩
  case round =>
    obtain ⟨pos, pre, hgk, hk, hown, hbel, hru, hpl⟩ := hrel
    have HRU := hid hru
    have HGK := hid hgk
    clear hru hgk hk0 ho2 hb2
    by_cases hp : pos < s.size
    · have hnx := fun ty => Lib.run_next_any_at (P := Tryd.prog) wr kb s pos ty hk hp
      have hw := decode_width s pos
      obtain ⟨rn, hrn⟩ : ∃ rn, (Utf8.decode s pos).1 = rn := ⟨_, rfl⟩
      obtain ⟨wd, hwd⟩ : ∃ wd, (Utf8.decode s pos).2 = wd := ⟨_, rfl⟩
      have hst := runesAt_step s pos hp
      rw [hrn, hwd] at hst hnx
      rw [hwd] at hw
      have hown2 := iterAt_own hown hk (pos + wd)
      have hk2 := Lib.iterAt_heap wr kb s pos (pos + wd) hk
      have hbel2 := Lib.below_iterAt hbel hkb s (pos + wd)
      have HST := hid hst
      have HK := hid hk2
      have hml : pre.length + 1 ≤ 17592186044416 := by omega
      clear hst hrn hwd hk2 hown hk hbel
      go_wp2_with (at_builtin; go_loud (refine wpl_append1 elemRunes rfl _ _ rfl w.heap.size pre.length 1 1 _ (numsC .i32 pre) _ hown2 rfl rfl rfl (by simp [Value.oneCell']) (by omega) (by decide) (by unfold maxLen; omega) hbel2 hbel2.size ?_))
      intro g6 c6 w6 ho6 hb6 hg6
      have hk6 : w6.heap[kb]? = some (.stringIter s (pos + wd)) := by
        refine grown_iter hg6 ?_ ?_
        · rw [Below.heap_alloc _ _ _ (Array.getElem?_eq_some_iff.1 HK.out).1]; exact HK.out
        · exact own_kind (hown2.alloc _)
      have HK6 := hid hk6
      clear hk6 hg6 hnx hown2
      go_wp2
      go_roundg (s.size - (pos + wd))
      case measure => have := HGK.out; omega
      case rel =>
        refine ⟨pos + wd, pre ++ [rn], rfl, HK6.out, ?_, hb6, by rw [HRU.out, HST.out]; simp, by simp; omega⟩
        simpa [numsC] using ho6
    · have hnx := fun ty => Lib.run_next_end_at (P := Tryd.prog) wr kb s pos ty hk hp
      have he := runesAt_end s pos hp
      have HE := hid he
      clear he
      go_wp2
      go_ret
      rw [HRU.out, HE.out, List.append_nil]
      exact ⟨_, rfl, Nums.ofOwn hown, hbel⟩
end Go.Proofs.YtjjidmgeladicaaDoor

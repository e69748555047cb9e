/- Limbs written over, as NumeralRows does it: what keeps. -/
import Derived.Test.YtjjidmgeladicaaDoorMatOwn
import Derived.Test.YtjjidmgeladicaaDoorLaw2
namespace Go.Proofs.YtjjidmgeladicaaDoor
open Go.RowKit

/-- free blocks keep their type and their size -/
def KeepsRows (w w' : World) : Prop := ∀ (b : Nat) (row : Array Value) (T : TypeId), w.heap[b]? = some (.cells row T (0, 0)) → ∃ row', w'.heap[b]? = some (.cells row' T (0, 0)) ∧ row'.size = row.size

theorem KeepsRows.refl (w : World) : KeepsRows w w := fun _ row _ h => ⟨row, h, rfl⟩
theorem KeepsRows.trans {a b c : World} (h : KeepsRows a b) (k : KeepsRows b c) : KeepsRows a c := fun g row T hg => by
  obtain ⟨r1, h1, h2⟩ := h g row T hg
  obtain ⟨r2, h3, h4⟩ := k g r1 T h1
  exact ⟨r2, h3, h4.trans h2⟩
theorem KeepsRows.below {w w' : World} (h : Below w.heap.size w w') : KeepsRows w w' := fun g row _ hg =>
  ⟨row, (h.block g (Array.getElem?_eq_some_iff.1 hg).1).trans hg, rfl⟩
theorem KeepsRows.alloc (w : World) (o : Obj) : KeepsRows w (w.alloc o) := KeepsRows.below ((Below.refl _ _).alloc (Nat.le_refl _) o)
theorem KeepsRows.setCell (w : World) (b i : Nat) (v : Value) : KeepsRows w (w.setCell ⟨b, i, none⟩ v) := fun g row T hg => by
  by_cases hb : g = b
  · subst hb
    exact ⟨_, heap_setCell_same w g i row T v hg, by simp⟩
  · exact ⟨row, (Below.heap_setCell w ⟨b, i, none⟩ v g hb).trans hg, rfl⟩

theorem Loose.rows {S : Nat → Prop} {w w' : World} {v : Value} (h : Loose S w v) (hk : KeepsRows w w') : Loose S w' v := by
  obtain ⟨ad, n, cap, hv, hc, hm, hn⟩ := h
  refine ⟨ad, n, cap, hv, hc, hm, fun h => ?_⟩
  obtain ⟨b, off, row, T, ha, hs, hb, hz⟩ := hn h
  obtain ⟨row', h1, h2⟩ := hk b row T hb
  exact ⟨b, off, row', T, ha, hs, h1, by omega⟩

theorem Limbs.looseT {S : Nat → Prop} {lo hi : Nat} {w : World} {v : Value} {xs : List Nat} (h : Limbs lo hi w v xs) (h0 : 0 < lo) (hS : ∀ b row, lo ≤ b → b < hi → w.heap[b]? = some (.cells row 96 (0, 0)) → S b) (hl : xs.length ≤ 140737488355328) : Loose S w v := by
  obtain ⟨ad, cap, hv, hc, hn, hx, hne⟩ := h
  refine ⟨ad, xs.length, cap, hv, hc, hl, fun hp => ?_⟩
  obtain ⟨b, off, ha, hlb, hbh, hcell, hu⟩ := hne (by intro e; subst e; simp at hp)
  obtain ⟨row, hb⟩ := hu h0
  refine ⟨b, off, row, _, ha, hS b row hlb hbh hb, hb, ?_⟩
  have := hcell (xs.length - 1) (by omega)
  rw [cell_of_row w b _ row _ (0, 0) hb] at this
  have := (Array.getElem?_eq_some_iff.1 this).1
  omega

set_option maxHeartbeats 1600000 in
theorem spoil_keep (S : Nat → Prop) (g cap : Nat) (vs : List (Bool × Value)) (w : World) (hr : IntRow w g vs) (hgS : ¬ S g) (hg : g < w.heap.size) (hl : ∀ p, p ∈ vs → Loose S w p.2) (hn : vs.length ≤ 1000) (hSw : ∀ b, S b → b < w.heap.size) :
    Calls Tryd.prog 19 #[.slice (some ⟨g, 0, none⟩) vs.length cap] w fun e w' => e = .returned (.tuple #[]) ∧ Spoiled S w w' ∧ KeepsRows w w' := by
  have HR := hid hr
  clear hr
  go_enter Tryd.func19, Tryd.ntmps19
  go_wp2
  go_loopw [7] (fun t wr => ∃ k : Nat, t = .int .i64 k ∧ k ≤ vs.length ∧ Spoiled S w wr ∧ (∀ p, p ∈ vs → Loose S wr p.2) ∧ KeepsRows w wr) (fun t _ => vs.length - (intOf t).toNat)
  case atStart => exact ⟨0, rfl, Nat.zero_le _, Spoiled.refl _ _, hl, KeepsRows.refl _⟩
  case round =>
    obtain ⟨k, rfl, hk, hsp, hll, hkr⟩ := hrel
    have HKR := hid hkr
    clear hkr
    have HSP := hid hsp
    have HLL := hid hll
    have hge := hsp.block g hg hgS
    have hrow := HR.out.keep hge
    have hsz := hsp.size
    clear hsp hll hge hl
    by_cases hkl : k < vs.length
    · obtain ⟨c0, c1⟩ := hrow k hkl
      obtain ⟨⟨ng, v⟩, hp⟩ : ∃ p, vs.getD k (false, .slice none 0 0) = p := ⟨_, rfl⟩
      rw [hp] at c0 c1
      have hmem : (ng, v) ∈ vs := by
        rw [← hp, List.getD_eq_getElem?_getD, List.getElem?_eq_getElem hkl]
        exact List.getElem_mem hkl
      have hlo := HLL.out _ hmem
      obtain ⟨ad, n, cp, rfl, hnc, hn2, hop⟩ := hlo.open
      clear hop
      have HLO := hid hlo
      dsimp only at c0 c1
      have f1 : (k : Int) < (vs.length : Int) := by omega
      clear hp hlo hrow
      go_wp2
      obtain ⟨_, b0, hs0⟩ := boxA wr #[.bool ng, .slice ad n cp] 40
      have HSP1 := hid (HSP.out.alloc (.cells #[.bool ng, .slice ad n cp] 40))
      have HLL1 : Hid (∀ p, p ∈ vs → Loose S (wr.alloc (.cells #[.bool ng, .slice ad n cp] 40)) p.2) := fun p hp => (HLL.out p hp).keep fun b _ hb => Below.heap_alloc _ _ _ hb
      have HKR1 := hid (HKR.out.trans (KeepsRows.alloc wr (.cells #[.bool ng, .slice ad n cp] 40)))
      revert b0 HSP1 HLL1 HKR1 hs0
      generalize wr.alloc (.cells #[.bool ng, .slice ad n cp] 40) = w1
      intro b0 hs0 HSP1 HLL1 HKR1
      clear hs0 HSP HLL HKR c0 c1
      obtain ⟨gx, hgx⟩ : ∃ gx, wr.heap.size = gx := ⟨_, rfl⟩
      rw [hgx] at b0 hsz ⊢
      clear hgx
      go_loopw [14] (fun t wr => ∃ j : Nat, t = .int .i64 j ∧ j ≤ n ∧ Spoiled S w wr ∧ (∀ p, p ∈ vs → Loose S wr p.2) ∧ BoxIs wr gx 40 [.bool ng, .slice ad n cp] ∧ KeepsRows w wr) (fun t _ => n - (intOf t).toNat)
      case atStart => exact ⟨0, rfl, Nat.zero_le _, HSP1.out, HLL1.out, b0, HKR1.out⟩
      case round =>
        obtain ⟨j, rfl, hj, hsp2, hll2, bx, hkr2⟩ := hrel
        have HKR2 := hid hkr2
        clear hkr2
        have HSP2 := hid hsp2
        have HLL2 := hid hll2
        have BX := hid bx
        obtain ⟨d0, d1, g0, g1⟩ := bx.two
        clear hsp2 hll2 bx b0 HSP1 HLL1 HKR1
        by_cases hjn : j < n
        · obtain ⟨ad', n', cp', hsh, _, _, hcell⟩ := (HLL2.out _ hmem).open
          simp only [Value.slice.injEq] at hsh
          obtain ⟨rfl, rfl, rfl⟩ := hsh
          obtain ⟨b, off, rfl, hSb, u, hu, hf⟩ := hcell j hjn
          have f2 : (j : Int) < (n : Int) := by omega
          have hbw := hSw b hSb
          have HSP3 := hid (HSP2.out.setIn ⟨b, off + j, none⟩ (.int .u32 7) hSb)
          have HLL3 := hid fun p hp => (HLL2.out p hp).set b (off + j) (.int .u32 7)
          have BX3 := hid (BX.out.other ⟨b, off + j, none⟩ (.int .u32 7) (by simp; omega))
          have HKR3 := hid (HKR2.out.trans (KeepsRows.setCell wr b (off + j) (.int .u32 7)))
          clear hcell HSP2 HLL2 BX HKR2
          go_wp2
          go_roundw
          case rel => exact ⟨j + 1, by go_num, by omega, HSP3.out, HLL3.out, BX3.out, HKR3.out⟩
          case measure => simp [intOf]; omega
        · obtain rfl : j = n := by omega
          go_wp2
          go_roundw
          case rel => exact ⟨k + 1, by go_num, by omega, HSP2.out, HLL2.out, HKR2.out⟩
          case measure => simp [intOf]; omega
    · obtain rfl : k = vs.length := by omega
      go_wp2
      go_end0
      exact ⟨rfl, HSP.out, HKR.out⟩

end Go.Proofs.YtjjidmgeladicaaDoor

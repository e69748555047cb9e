/- strings.Builder at this program: WriteByte, WriteString. -/
import Derived.Test.YtoijfckollafhaaGreatBuild
import Derived.Lib.AppendStr
namespace Go.Proofs.YtoijfckollafhaaGreat
open Go.RowKit

theorem elemU8b : Elem Tryz.prog 246 5 (.int .u8 0) 1 1 :=
  ⟨Tryz.underlying246, by kernel_rfl, rfl, by decide⟩

set_option maxHeartbeats 4000000 in
set_option maxRecDepth 100000 in
theorem writeByte_any (B b : Nat) (bs : List Value) (c : Nat) (w : World) (h : Lib.IsBuilder 248 5 B b bs w) (hlen : bs.length + 4 ≤ 140737488355328) (hBw : B ≤ w.heap.size) :
    Calls Tryz.prog 196 #[.pointer (some ⟨b, 0, none⟩), .int .u8 (c : Nat)] w fun e w' => (∃ v, e = .returned v) ∧ Lib.BuilderAt 248 5 B b (.pointer (some ⟨b, 0, none⟩)) (bs ++ [.int .u8 (c : Nat)]) w' ∧ Below B w w' := by
  have q1 := hid (check_any B b bs w h)
  have hBb : B ≤ b := by rcases h with h | h <;> exact h.1
  clear h
  go_enter Tryz.func196, Tryz.ntmps196
  go_wp2_with fail
  refine q1.out.mono ?_
  rintro e w1 ⟨rfl, h1, hg1⟩
  have hb1 : Below B w w1 := below_grown (Below.refl _ _) hg1 hBw hBb
  obtain ⟨hB, v, hbk, hown, hne⟩ := h1
  have c0 : w1.cell? ⟨b, 0, none⟩ = some (.pointer (some ⟨b, 0, none⟩)) := by rw [Lib.cell_of_heap hbk]; rfl
  have c1 : w1.cell? ⟨b, 1, none⟩ = some v := by rw [Lib.cell_of_heap hbk]; rfl
  have hBw1 : B ≤ w1.heap.size := Nat.le_trans hBw hb1.size
  have HBK := hid hbk
  have HOWN := hid hown
  have HNE := hid hne
  clear q1 hg1 hbk hown hne
  go_wp2_with (at_builtin; go_loud (refine wpl_append1 elemU8b rfl _ _ rfl B bs.length 1 1 v bs #[.int .u8 (c : Nat)] HOWN.out rfl rfl rfl (by simp [Value.oneCell']) (by omega) (by decide) (by unfold maxLen; omega) hb1 hBw1 ?_))
  intro g6 c6 w2 ho6 hb6 hgrow
  have hlt : b < w1.heap.size := (Array.getElem?_eq_some_iff.1 HBK.out).1
  have hb2 : w2.heap[b]? = some (.cells #[.pointer (some ⟨b, 0, none⟩), v] 248 (0, 0)) := by
    rw [hgrow.block b (by simp; omega) (fun e => HNE.out e.symm), Lib.alloc_old w1 _ b hlt]
    exact HBK.out
  have d0 : w2.cell? ⟨b, 0, none⟩ = some (.pointer (some ⟨b, 0, none⟩)) := by rw [Lib.cell_of_heap hb2]; rfl
  have d1 : w2.cell? ⟨b, 1, none⟩ = some v := by rw [Lib.cell_of_heap hb2]; rfl
  have f1 : w2.frozen? ⟨b, 1, none⟩ = false := Lib.frozen_of_heap hb2 1
  have hBF : Lib.BuilderAt 248 5 B b (.pointer (some ⟨b, 0, none⟩)) (bs ++ [.int .u8 (c : Nat)]) (w2.setCell ⟨b, 1, none⟩ (.slice (some ⟨g6, 0, none⟩) (bs.length + 1) c6)) :=
    Lib.BuilderAt.put (T := 248) (e := 5) hBb hb2 (bs' := bs ++ [.int .u8 (c : Nat)]) (by simpa using ho6) (by decide)
  have hBe : Below B w (w2.setCell ⟨b, 1, none⟩ (.slice (some ⟨g6, 0, none⟩) (bs.length + 1) c6)) := hb6.setCell (p := ⟨b, 1, none⟩) hBb _
  have HBF := hid hBF
  have HBE := hid hBe
  clear hBF hBe hgrow ho6 HOWN HBK HNE hb1 hb6 hb2
  go_wp2
  go_ret
  exact ⟨⟨_, rfl⟩, HBF.out, HBE.out⟩

theorem elemU8_row : (Tryz.prog.info? 5).map (fun i => (i.zero, i.size, i.bytes)) = some (some (.int .u8 0), 1, 1) := by kernel_rfl

set_option maxHeartbeats 4000000 in
set_option maxRecDepth 100000 in
theorem writeStr_any (B b : Nat) (bs : List Value) (s : ByteArray) (w : World) (h : Lib.IsBuilder 248 5 B b bs w) (hlen : bs.length + s.size ≤ 140737488355328) (hBw : B ≤ w.heap.size) :
    Calls Tryz.prog 197 #[.pointer (some ⟨b, 0, none⟩), .string s] w fun e w' => (∃ v, e = .returned v) ∧ Lib.BuilderAt 248 5 B b (.pointer (some ⟨b, 0, none⟩)) (bs ++ Lib.strCells s) w' ∧ Below B w w' := by
  have q1 := hid (check_any B b bs w h)
  have hBb : B ≤ b := by rcases h with h | h <;> exact h.1
  clear h
  obtain ⟨i8, hi8, hz8, hs8, hb8⟩ := info_parts elemU8_row
  have HI := hid hi8
  have HZ := hid hz8
  have HS8 := hid hs8
  have HB8 := hid hb8
  have hml : bs.length + s.size ≤ maxLen := by unfold maxLen; omega
  have HML := hid hml
  clear hi8 hz8 hs8 hb8 hml
  go_enter Tryz.func197, Tryz.ntmps197
  go_wp2_with fail
  refine q1.out.mono ?_
  rintro e w1 ⟨rfl, h1, hg1⟩
  have hb1 : Below B w w1 := below_grown (Below.refl _ _) hg1 hBw hBb
  obtain ⟨hB, v, hbk, hown, hne⟩ := h1
  have c0 : w1.cell? ⟨b, 0, none⟩ = some (.pointer (some ⟨b, 0, none⟩)) := by rw [Lib.cell_of_heap hbk]; rfl
  have c1 : w1.cell? ⟨b, 1, none⟩ = some v := by rw [Lib.cell_of_heap hbk]; rfl
  have hBw1 : B ≤ w1.heap.size := Nat.le_trans hBw hb1.size
  have HBK := hid hbk
  have HOWN := hid hown
  have HNE := hid hne
  clear q1 hg1 hbk hown hne
  go_wp2_with (at_builtin; go_loud (refine Lib.wpList_append_own_string _ rfl _ _ _ _ rfl B 5 i8 Tryz.underlying246 Tryz.underlying9 HI.out HZ.out HS8.out HB8.out v bs.length bs rfl HOWN.out s rfl HML.out hlen hBw1 ?_))
  intro v6 w2 ho6 hgrow _
  have hlt : b < w1.heap.size := (Array.getElem?_eq_some_iff.1 HBK.out).1
  have hb6 : Below B w w2 := hb1.grown hgrow hBw1 (fun k hk => (HOWN.out.lt k hk).1)
  have hb2 : w2.heap[b]? = some (.cells #[.pointer (some ⟨b, 0, none⟩), v] 248 (0, 0)) := by
    rw [hgrow.block b hlt (fun e => HNE.out e.symm)]
    exact HBK.out
  obtain ⟨ao, cap, rfl⟩ := own_shape ho6
  have d0 : w2.cell? ⟨b, 0, none⟩ = some (.pointer (some ⟨b, 0, none⟩)) := by rw [Lib.cell_of_heap hb2]; rfl
  have d1 : w2.cell? ⟨b, 1, none⟩ = some v := by rw [Lib.cell_of_heap hb2]; rfl
  have f1 : w2.frozen? ⟨b, 1, none⟩ = false := Lib.frozen_of_heap hb2 1
  have hl9 : (bs ++ Lib.strCells s).length = bs.length + s.size := ho6.1.trans (Nat.mul_one _)
  have hBF : Lib.BuilderAt 248 5 B b (.pointer (some ⟨b, 0, none⟩)) (bs ++ Lib.strCells s) (w2.setCell ⟨b, 1, none⟩ (.slice ao (bs.length + s.size) cap)) :=
    Lib.BuilderAt.put (T := 248) (e := 5) hBb hb2 (bs' := bs ++ Lib.strCells s) (by rw [hl9]; exact ho6) (by decide)
  have hBe : Below B w (w2.setCell ⟨b, 1, none⟩ (.slice ao (bs.length + s.size) cap)) := hb6.setCell (p := ⟨b, 1, none⟩) hBb _
  have HBF := hid hBF
  have HBE := hid hBe
  clear hBF hBe hgrow ho6 HOWN HBK HNE hb1 hb6 hb2 hl9
  go_wp2
  go_ret2
  exact ⟨⟨_, rfl⟩, HBF.out, HBE.out⟩
end Go.Proofs.YtoijfckollafhaaGreat

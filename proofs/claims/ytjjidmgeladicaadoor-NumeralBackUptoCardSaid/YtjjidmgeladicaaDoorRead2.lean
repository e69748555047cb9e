/- numeral's reader: what is deferred. -/
import Derived.Test.YtjjidmgeladicaaDoorRead1
import Derived.Defers
import Derived.Recover
namespace Go.Proofs.YtjjidmgeladicaaDoor
open Go.RowKit

theorem assert_wrong (W : World) (v : Value) : (Instr.typeAssert (.iface 128 v) 20 128 true).run Tryd.prog W = .ok (.tuple #[v, .bool true]) W := by kernel_rfl

set_option maxRecDepth 10000 in
theorem caught_panicking (p : Addr) (x n : Int) (older : List PanicEntry) (w : World) (hc : w.cell? p = some (.int .i64 x)) (hz : w.frozen? p = false) (hb : p.block < w.heap.size) :
    CallsD Tryd.prog 64 #[.pointer (some p)] (.panicking ({ v := .iface 128 (.agg #[.int .i64 n]), recovered := false } :: older)) w fun e u' w' =>
      e = .returned (.tuple #[]) ∧ u' = .panicking ({ v := .iface 128 (.agg #[.int .i64 n]), recovered := true } :: older) ∧ w' = (w.alloc (.cells #[.int .i64 n] 128)).setCell p (.int .i64 n) := by
  have hk : (w.alloc (.cells #[.int .i64 n] 128)).heap[p.block]? = w.heap[p.block]? := Below.heap_alloc _ _ _ hb
  have hc2 : (w.alloc (.cells #[.int .i64 n] 128)).cell? p = some (.int .i64 x) := (World.cell?_of_block hk).trans hc
  have hz2 : (w.alloc (.cells #[.int .i64 n] 128)).frozen? p = false := (World.frozen?_of_block hk).trans hz
  refine callsD_of_wpS Tryd.func64 rfl fun c₀ cs hu => ?_
  apply wpS_seq
  apply wpS_region
  simp [wpOpsS, go_sem, recoverD, hu, Tryd.ntmps64, Exit.thenS]
  apply wpS_seq
  apply wpS_region
  simp [wpOpsS, go_sem, Exit.thenS]
  refine wpS_cond (t := true) (by simp [Act.eval, Array.replicate]) ?_
  simp only [if_true]
  apply wpS_seq
  apply wpS_region
  simp [wpOpsS, go_sem, assert_wrong, Exit.thenS]
  apply wpS_seq
  apply wpS_seq
  apply wpS_region
  simp [wpOpsS, go_sem, Exit.thenS]
  refine wpS_cond (t := false) (by simp [Act.eval, Array.replicate]) ?_
  simp only [Bool.false_eq_true, if_false]
  refine wpS_of_wp (wp_skip ?_)
  apply wpS_region
  simp [wpOpsS, go_sem, hc2, hz2, bodyPostS, results, Tryd.results64]

theorem caught_idle (p : Addr) (w : World) :
    CallsD Tryd.prog 64 #[.pointer (some p)] .returning w fun e u' w' => e = .returned (.tuple #[]) ∧ u' = .returning ∧ w' = w := by
  refine callsD_of_wpS Tryd.func64 rfl fun c₀ cs hu => ?_
  apply wpS_seq
  apply wpS_region
  simp [wpOpsS, go_sem, recoverD, hu, Tryd.ntmps64, Exit.thenS]
  apply wpS_seq
  apply wpS_region
  simp [wpOpsS, go_sem, Exit.thenS]
  refine wpS_cond (t := false) (by simp [Act.eval, Array.replicate]) ?_
  simp only [Bool.false_eq_true, if_false]
  refine wpS_of_wp (wp_skip ?_)
  cases c₀
  simp_all [bodyPostS, results, Tryd.results64]

/-- the first deferred call: the number is wiped out where there is an error -/
theorem wiped_any (a b : Nat) (x y u v : Value) (n : Int) (u0 : FrameMode) (w : World) (ha : BoxIs w a 43 [.int .i64 n]) (hb : BoxIs w b 42 [x, y, u, v]) :
    CallsD Tryd.prog 63 #[.pointer (some ⟨a, 0, none⟩), .pointer (some ⟨b, 0, none⟩)] u0 w fun e u' w' => u' = u0 ∧ e = .returned (.tuple #[]) ∧
      w' = if n = 0 then w else ((((w.setCell ⟨b, 0, none⟩ (.bool false)).setCell ⟨b, 1, none⟩ (.slice none 0 0)).setCell ⟨b, 2, none⟩ (.bool false)).setCell ⟨b, 3, none⟩ (.slice none 0 0)) := by
  obtain ⟨c0, f0⟩ := ha.one
  obtain ⟨⟨d0, d1, d2, d3⟩, g0, g1, g2, g3⟩ := hb.four
  refine (callsD_of_wp Tryd.func63 rfl (R := fun e w' => e = .returned (.tuple #[]) ∧
      w' = if n = 0 then w else ((((w.setCell ⟨b, 0, none⟩ (.bool false)).setCell ⟨b, 1, none⟩ (.slice none 0 0)).setCell ⟨b, 2, none⟩ (.bool false)).setCell ⟨b, 3, none⟩ (.slice none 0 0))) ?_)
  simp only [Tryd.ntmps63]
  by_cases hn : n = 0
  · subst hn
    go_wp2
    go_end0
    exact ⟨rfl, rfl⟩
  · have hn2 : (n != 0) = true := by simp [hn]
    rw [if_neg hn]
    go_wp2
    go_end0
    exact ⟨rfl, rfl⟩
end Go.Proofs.YtjjidmgeladicaaDoor

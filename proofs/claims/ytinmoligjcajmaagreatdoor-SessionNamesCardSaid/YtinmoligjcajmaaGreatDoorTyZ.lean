/- The program's tie, in parts. -/
import Derived.Test.YtinmoligjcajmaaGreatDoorTy1
import Derived.Test.YtinmoligjcajmaaGreatDoorTy2
import Derived.Test.YtinmoligjcajmaaGreatDoorTy3
import Derived.Test.YtinmoligjcajmaaGreatDoorTy4
import Derived.Test.YtinmoligjcajmaaGreatDoorTy5
import Derived.Test.YtinmoligjcajmaaGreatDoorTy6
import Derived.Test.YtinmoligjcajmaaGreatDoorTy7
import Derived.Test.YtinmoligjcajmaaGreatDoorTy8
import Derived.Test.YtinmoligjcajmaaGreatDoorTy9
namespace Go.Proofs.YtinmoligjcajmaaGreatDoor
open Go
theorem tTie : Tryz.prog.laidByTextLater tLaid [.data, .data, .data, .data] true := Program.laidByTextLater_by_run 400 8 tw1 tw2 tw3 tk tg tn td t1 t2
theorem sessionNames_tied : Rows.sessionNamesRow.laidByTextAt .later Tryz.pinned [.pinned, .data, .data, .data, .data] true :=
  OpenClaim.laidByTextAt_pinned rfl rfl tTie rfl rfl rfl rfl (fun y hy _e => by
    simp only [Rows.sessionNamesRow, List.zip_cons_cons, List.zip_nil_right, List.mem_cons, List.mem_nil_iff, or_false] at hy
    rcases hy with rfl | rfl | rfl | rfl | rfl
    · exact ⟨pin_first, by kernel_rfl⟩
    · cases _e
    · cases _e
    · cases _e
    · cases _e) tFits
theorem sessionReads_tied : Rows.sessionReadsRow.laidByTextAt .later Tryz.pinned [.pinned, .data, .data, .data, .data] true :=
  OpenClaim.laidByTextAt_pinned rfl rfl tTie rfl rfl rfl rfl (fun y hy _e => by
    simp only [Rows.sessionReadsRow, List.zip_cons_cons, List.zip_nil_right, List.mem_cons, List.mem_nil_iff, or_false] at hy
    rcases hy with rfl | rfl | rfl | rfl | rfl
    · exact ⟨pin_first, by kernel_rfl⟩
    · cases _e
    · cases _e
    · cases _e
    · cases _e) tFits
theorem sessionChecks_tied : Rows.sessionChecksRow.laidByTextAt .later Tryz.pinned [.pinned, .data, .data, .data, .data] true :=
  OpenClaim.laidByTextAt_pinned rfl rfl tTie rfl rfl rfl rfl (fun y hy _e => by
    simp only [Rows.sessionChecksRow, List.zip_cons_cons, List.zip_nil_right, List.mem_cons, List.mem_nil_iff, or_false] at hy
    rcases hy with rfl | rfl | rfl | rfl | rfl
    · exact ⟨pin_first, by kernel_rfl⟩
    · cases _e
    · cases _e
    · cases _e
    · cases _e) tFits

end Go.Proofs.YtinmoligjcajmaaGreatDoor

/-
  The library's table of powers of ten, out of what a row lists.
-/
import Derived.Test.YtajgjccnhippcaaGreatDoorDW
import Derived.Test.YtajgjccnhippcaaGreatDoorW
import Derived.LaidSub
import Derived.MakeChecks
import Derived.Lib.LaidTab
namespace Go.Proofs.YtajgjccnhippcaaGreatDoor
open Go.RowKit

theorem TabW.of_laid {w : World} {l : List (String × DataW Unit)} (h : laidMetH Tryz.prog l w) (e : l.filter (fun x => x.1 == "internal/strconv.uint64pow10") = [("internal/strconv.uint64pow10", Lib.tabData .u64 Lib.pow10Tab)]) : TabW w := by
  have h2 := laidMetH.filter (fun x => x.1 == "internal/strconv.uint64pow10") h
  rw [e, MakeChecks.laidMetH_plain _ _ _ (by kernel_rfl)] at h2
  exact Lib.tabIs_of_head (g := 3) (by kernel_rfl) (by kernel_rfl) Tryz.underlying243 Tryz.underlying67 (by kernel_rfl) (by kernel_rfl) h2

end Go.Proofs.YtajgjccnhippcaaGreatDoor

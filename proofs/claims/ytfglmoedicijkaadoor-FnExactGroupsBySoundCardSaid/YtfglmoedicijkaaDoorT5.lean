/-
  Marks in slices of strings, read back.
-/
import Derived.Test.YtfglmoedicijkaaDoorT4
import Derived.Deep.RegionHeld3
import Derived.Deep.RegionWith
import Derived.Deep.DrawnRows
namespace Go.Proofs.YtfglmoedicijkaaDoor
open Go.RowKit

attribute [local go_sem ↓] Go.wp_at_zero Go.wp_at_succ

end Go.Proofs.YtfglmoedicijkaaDoor

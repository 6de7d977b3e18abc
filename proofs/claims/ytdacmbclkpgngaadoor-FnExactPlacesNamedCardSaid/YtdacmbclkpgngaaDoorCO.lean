/-
  The codes of the places that meet a test.
-/
import Derived.Test.YtdacmbclkpgngaaDoorCR
import Derived.Test.YtdacmbclkpgngaaDoorRTC
import Derived.Test.YtdacmbclkpgngaaDoorPK
namespace Go.Proofs.YtdacmbclkpgngaaDoor
open Go.RowKit
attribute [local go_sem ↓] Go.wp_at_zero Go.wp_at_succ

end Go.Proofs.YtdacmbclkpgngaaDoor

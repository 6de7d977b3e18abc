/-
  Short texts of small letters: the reference's test.
-/
import Derived.Test.YtgbfihjimbpgnaaDoorS
namespace Go.Proofs.YtgbfihjimbpgnaaDoor
open Go.RowKit

end Go.Proofs.YtgbfihjimbpgnaaDoor

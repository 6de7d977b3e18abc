/-
  Short texts of small letters: the reference's test.
-/
import Derived.Test.YtkljdmdlmhdpiaaDoorS
namespace Go.Proofs.YtkljdmdlmhdpiaaDoor
open Go.RowKit

end Go.Proofs.YtkljdmdlmhdpiaaDoor

/-
  One blank.
-/
import Derived.Test.YthdinjdbblppdaaDoorY2
namespace Go.Proofs.YthdinjdbblppdaaDoor
open Go.RowKit

def blank : ByteArray := ⟨#[32]⟩

end Go.Proofs.YthdinjdbblppdaaDoor

/-
  One blank.
-/
import Derived.Test.YtfglmoedicijkaaDoorY2
namespace Go.Proofs.YtfglmoedicijkaaDoor
open Go.RowKit

def blank : ByteArray := ⟨#[32]⟩

end Go.Proofs.YtfglmoedicijkaaDoor

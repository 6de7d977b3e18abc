/-
  One blank.
-/
import Derived.Test.YtfglmoedicijkaaGreatDoorY2
namespace Go.Proofs.YtfglmoedicijkaaGreatDoor
open Go.RowKit

def blank : ByteArray := ⟨#[32]⟩

end Go.Proofs.YtfglmoedicijkaaGreatDoor

/-
  One blank.
-/
import Derived.Test.YteencdgaldhanaaGreatDoorY2
namespace Go.Proofs.YteencdgaldhanaaGreatDoor
open Go.RowKit

def blank : ByteArray := ⟨#[32]⟩

end Go.Proofs.YteencdgaldhanaaGreatDoor

/-
  One blank.
-/
import Derived.Test.YtdicjpkcgeofjaaGreatDoorY2
namespace Go.Proofs.YtdicjpkcgeofjaaGreatDoor
open Go.RowKit

def blank : ByteArray := ⟨#[32]⟩

end Go.Proofs.YtdicjpkcgeofjaaGreatDoor

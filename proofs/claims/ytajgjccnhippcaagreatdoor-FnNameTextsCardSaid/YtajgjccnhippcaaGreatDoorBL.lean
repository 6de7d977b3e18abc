/-
  One blank.
-/
import Derived.Test.YtajgjccnhippcaaGreatDoorY2
namespace Go.Proofs.YtajgjccnhippcaaGreatDoor
open Go.RowKit

def blank : ByteArray := ⟨#[32]⟩

end Go.Proofs.YtajgjccnhippcaaGreatDoor

/-
  One blank.
-/
import Derived.Test.YtjelmidkkpchkaaGreatDoorY2
namespace Go.Proofs.YtjelmidkkpchkaaGreatDoor
open Go.RowKit

def blank : ByteArray := ⟨#[32]⟩

end Go.Proofs.YtjelmidkkpchkaaGreatDoor

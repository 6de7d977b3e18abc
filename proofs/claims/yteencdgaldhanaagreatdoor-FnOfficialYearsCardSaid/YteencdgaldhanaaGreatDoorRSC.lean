/-
  A text and a code, handed back.
-/
import Derived.Test.YteencdgaldhanaaGreatDoorM0
namespace Go.Proofs.YteencdgaldhanaaGreatDoor
open Go.RowKit

/-- A text and a code. -/
def RetSC (w : World) (s : ByteArray) (code : Int) (e : Ending) (w' : World) : Prop := e = .returned (.tuple #[.string s, .int .i64 code]) ∧ Ext w w'

end Go.Proofs.YteencdgaldhanaaGreatDoor

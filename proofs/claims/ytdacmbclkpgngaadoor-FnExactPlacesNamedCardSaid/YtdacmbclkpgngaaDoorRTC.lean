/-
  A list of texts and a code, handed back.
-/
import Derived.Test.YtdacmbclkpgngaaDoorOR
namespace Go.Proofs.YtdacmbclkpgngaaDoor
open Go.RowKit

/-- A list of texts and a code. -/
def RetTC (w : World) (ss : List ByteArray) (code : Int) (e : Ending) (w' : World) : Prop := ∃ v, e = .returned (.tuple #[v, .int .i64 code]) ∧ ∃ a n c, v = .slice a n c ∧ n ≤ 1048576 ∧ OwnS w' w.heap.size a n c ss ∧ Ext w w'
theorem RetTC.nil {w : World} {code : Int} {w' : World} (h : Ext w w') : RetTC w [] code (.returned (.tuple #[.slice none 0 0, .int .i64 code])) w' := ⟨_, rfl, none, 0, 0, rfl, by decide, ⟨OwnG.isNil _ _ _ _, by simp⟩, h⟩

end Go.Proofs.YtdacmbclkpgngaaDoor

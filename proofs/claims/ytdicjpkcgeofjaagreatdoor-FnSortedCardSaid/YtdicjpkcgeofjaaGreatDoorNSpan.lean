/-
  Span: how it lies; the statements' own helpers on such values.
-/
import Derived.Test.YtdicjpkcgeofjaaGreatDoorS
import Derived.StillTailTactics
namespace Go.Proofs.YtdicjpkcgeofjaaGreatDoor
open Go.RowKit

theorem box_keptG {w w1 : World} {cs : Array Value} {t : TypeId} (h : Ext (w.alloc (.cells cs t)) w1) (k : Nat) : w1.cell? ⟨w.heap.size, k, none⟩ = cs[k]? := by
  rw [Below.cell h (p := ⟨w.heap.size, k, none⟩) (by simp)]
  simp [World.cell?_alloc_at]
theorem box_frozen {w w1 : World} {cs : Array Value} {t : TypeId} (h : Ext (w.alloc (.cells cs t)) w1) (k : Nat) : w1.frozen? ⟨w.heap.size, k, none⟩ = false := by
  rw [Below.frozen h (p := ⟨w.heap.size, k, none⟩) (by simp)]
  simp

structure SpanV where
  from_ : Int
  to_ : Int
def valSpan (x : SpanV) : Value := .agg #[.int .i64 x.from_, .int .i64 x.to_]

end Go.Proofs.YtdicjpkcgeofjaaGreatDoor

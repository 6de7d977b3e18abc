/-
  Span: how it lies; the statements' own helpers on such values.
-/
import Derived.Test.YteencdgaldhanaaGreatDoorM0
import Derived.StillTailTactics
namespace Go.Proofs.YteencdgaldhanaaGreatDoor
open Go.RowKit

theorem box_keptG {w w1 : World} {cs : Array Value} {t : TypeId} (h : Ext (w.alloc (.cells cs t)) w1) (k : Nat) : w1.cell? ⟨w.heap.size, k, none⟩ = cs[k]? := by
  rw [Below.cell h (p := ⟨w.heap.size, k, none⟩) (by simp)]
  simp [World.cell?_alloc_at]
theorem box_frozen {w w1 : World} {cs : Array Value} {t : TypeId} (h : Ext (w.alloc (.cells cs t)) w1) (k : Nat) : w1.frozen? ⟨w.heap.size, k, none⟩ = false := by
  rw [Below.frozen h (p := ⟨w.heap.size, k, none⟩) (by simp)]
  simp

structure SpanV where
  from_ : Int
  to_ : Int
def valSpan (x : SpanV) : Value := .agg #[.int .i64 x.from_, .int .i64 x.to_]

set_option maxHeartbeats 400000 in
theorem toSpan_any (x : SpanV) (w : World) :
    Calls Tryz.prog 81 #[valSpan x] w fun e w' => e = .returned (valSpan x) ∧ Ext w w' := by
  obtain ⟨v0, v1⟩ := x
  simp only [valSpan]
  go_enter Tryz.func81, Tryz.ntmps81
  go_wp2
  exact bodyPost_ret (v := .agg #[.int .i64 v0, .int .i64 v1]) (by simp [results, Tryz.results81, go_sem]) rfl ⟨rfl, by repeat (first | exact Ext.refl _ | apply Ext.alloc)⟩

set_option maxHeartbeats 400000 in
theorem eqSpan_same (x : SpanV) (w : World) :
    Calls Tryz.prog 48 #[valSpan x, valSpan x] w fun e w' => e = .returned (.bool true) ∧ Ext w w' := by
  obtain ⟨v0, v1⟩ := x
  simp only [valSpan]
  go_enter Tryz.func48, Tryz.ntmps48
  go_wp2
  go_ret
  exact ⟨rfl, by repeat (first | exact Ext.refl _ | apply Ext.alloc)⟩

end Go.Proofs.YteencdgaldhanaaGreatDoor

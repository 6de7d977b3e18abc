/-
  A name equals itself, by Go's own comparison.
-/
import Derived.Test.YteencdgaldhanaaGreatDoorNName
namespace Go.Proofs.YteencdgaldhanaaGreatDoor
open Go.RowKit

theorem Tryz.sameSpan_op (f : Nat) (x3 x4 : Int) (w : World) :
    (Op.equalIn (f + 2) 60 (.agg #[.int .i64 x3, .int .i64 x4]) (.agg #[.int .i64 x3, .int .i64 x4])).run Tryz.prog w = .ok true w := by
  have u3 := Tryz.underlying2
  have a3 := Tryz.isAgg2
  have z3 := Tryz.sizeOf2
  have hS : Tryz.prog.underlying 60 = some (.struct (Tryz.prog.fieldsOf 60)) := by kernel_rfl
  have hp : Tryz.prog.stoodInHeld 60 = false := by kernel_rfl
  rw [run_equalIn_agg w (f + 1) 60 _ _ hS hp]
  simp only [Program.fieldsOf, Tryz.underlying60]
  go_simp

@[go_sem ↓ high] theorem Tryz.sameName_op (x0 x1 : ByteArray) (x2 x3 x4 : Int) (w : World) :
    (Op.equalIn 10000 62 (.agg #[.string x0, .string x1, .int .i64 x2, .int .i64 x3, .int .i64 x4]) (.agg #[.string x0, .string x1, .int .i64 x2, .int .i64 x3, .int .i64 x4])).run Tryz.prog w = .ok true w := by
  have u3 := Tryz.underlying2
  have a3 := Tryz.isAgg2
  have z3 := Tryz.sizeOf2
  have u4 := Tryz.underlying9
  have a4 := Tryz.isAgg9
  have z4 := Tryz.sizeOf9
  have a5 := Tryz.isAgg60
  have z5 := Tryz.sizeOf60
  have hS : Tryz.prog.underlying 62 = some (.struct (Tryz.prog.fieldsOf 62)) := by kernel_rfl
  have hp : Tryz.prog.stoodInHeld 62 = false := by kernel_rfl
  have hz := Tryz.sameSpan_op 9997 x3 x4 w
  rw [show (10000 : Nat) = 9999 + 1 from rfl, run_equalIn_agg w 9999 62 _ _ hS hp]
  simp only [Program.fieldsOf, Tryz.underlying62]
  go_simp
theorem Tryz.eqGuardName : Tryz.prog.eqGuardType Tryz.prog.depth 62 = false := by kernel_rfl

end Go.Proofs.YteencdgaldhanaaGreatDoor

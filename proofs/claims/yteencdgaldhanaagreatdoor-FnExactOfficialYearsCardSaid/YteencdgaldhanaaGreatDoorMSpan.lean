/-
  Span: such a value that came in.
-/
import Derived.Test.YteencdgaldhanaaGreatDoorNSpan
import Derived.Test.YteencdgaldhanaaGreatDoorW5
namespace Go.Proofs.YteencdgaldhanaaGreatDoor
open Go.ChangeShapes Go.WideShapes Go.ChangeAt Go.RowKit

theorem list_Span {α : Type} {cs : List α} (h : cs.length = 2) : ∃ c0 c1, cs = [c0, c1] := by
  match cs, h with
  | [c0, c1], _ => exact ⟨c0, c1, rfl⟩
theorem open_cellsSpan {H : Type} {enc : TypeId × Value → H} {w : World} {spare : Nat → Bool} {held : Bool} {fuel : Nat} {cs : List Value} {x : DataW H × List MemPlace} (h : DataW.trod enc Tryz.prog w 0 spare held fuel 72 cs = some x) :
    ∃ v0 v1 : Int, cs = [.int .i64 v0, .int .i64 v1] := by
  obtain ⟨xs, n, _, _, hl, hlen, hf⟩ := DataW.trod_struct Tryz.underlying72 h
  have hC : Tryz.prog.cellsOf 72 = 2 := by kernel_rfl
  have hI : Tryz.prog.cellsOf 2 = 1 := by kernel_rfl
  rw [hC] at hl
  obtain ⟨c0, c1, rfl⟩ := list_Span hl
  have ex : ∀ i, i < 2 → ∃ y, xs[i]? = some y := fun i hi => ⟨_, List.getElem?_eq_getElem (Nat.lt_of_lt_of_eq hi (hlen.trans rfl).symm)⟩
  obtain ⟨y0, hy0⟩ := ex 0 (by decide)
  have t0 : DataW.trod enc Tryz.prog w 0 spare held n 2 (List.take (Tryz.prog.cellsOf 2) (List.drop 0 [c0, c1])) = some y0 := (hf 0 _ rfl).trans hy0
  simp only [hI, List.drop_zero, List.take_succ_cons, List.take_zero] at t0
  obtain ⟨y1, hy1⟩ := ex 1 (by decide)
  have t1 : DataW.trod enc Tryz.prog w 0 spare held n 2 (List.take (Tryz.prog.cellsOf 2) (List.drop 1 [c0, c1])) = some y1 := (hf 1 _ rfl).trans hy1
  simp only [hI, List.drop_succ_cons, List.drop_zero, List.take_succ_cons, List.take_zero] at t1
  obtain ⟨v0, hv0, _, _⟩ := DataW.trod_int Tryz.underlying2 t0
  obtain rfl := List.singleton_inj.1 hv0
  obtain ⟨v1, hv1, _, _⟩ := DataW.trod_int Tryz.underlying2 t1
  obtain rfl := List.singleton_inj.1 hv1
  exact ⟨v0, v1, rfl⟩

end Go.Proofs.YteencdgaldhanaaGreatDoor

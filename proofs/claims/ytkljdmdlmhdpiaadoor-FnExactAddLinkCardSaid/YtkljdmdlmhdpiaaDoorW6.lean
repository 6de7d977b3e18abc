/-
  Places of what came in (for a seat without slices of ints).
-/
import Derived.Test.YtkljdmdlmhdpiaaDoorW
namespace Go.Proofs.YtkljdmdlmhdpiaaDoor
open Go.ChangeShapes Go.WideShapes Go.ChangeAt

theorem trod_lt {H : Type} {enc : TypeId × Value → H} {w : World} {spare : Nat → Bool} {held : Bool} {t : TypeId} {v : Value} {d : DataW H} {p : List MemPlace} (h : DataW.Trod enc Tryd.prog w 0 spare held t v d p) : ∀ x ∈ p, x.block < w.heap.size := by
  obtain ⟨m, hm⟩ := h
  exact DataW.trod_lt m _ _ _ hm

end Go.Proofs.YtkljdmdlmhdpiaaDoor

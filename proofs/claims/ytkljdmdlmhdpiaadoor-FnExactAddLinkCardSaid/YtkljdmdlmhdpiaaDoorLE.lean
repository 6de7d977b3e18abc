/-
  EndLinks on both sides.
-/
import Derived.Test.YtkljdmdlmhdpiaaDoorLM
namespace Go.Proofs.YtkljdmdlmhdpiaaDoor
open Go.RowKit

/-- A list of links and a code. -/
def RetLinkC (w : World) (xs : List LinkV) (code : Int) (e : Ending) (w' : World) : Prop := ∃ v, e = .returned (.tuple #[v, .int .i64 code]) ∧ ∃ a n c, v = .slice a n c ∧ n ≤ 1048576 ∧ OwnLink w' w.heap.size a n c xs ∧ Ext w w'
theorem RetLinkC.nil {w : World} {code : Int} {w' : World} (h : Ext w w') : RetLinkC w [] code (.returned (.tuple #[.slice none 0 0, .int .i64 code])) w' := ⟨_, rfl, none, 0, 0, rfl, by decide, ⟨OwnG.isNil _ _ _ _, by simp⟩, h⟩
def endOne (s : ByteArray) (y : Int) (x : LinkV) : LinkV := if x.child = s ∨ x.parent = s then ⟨x.child, x.parent, x.from_, min x.to_ (y - 1)⟩ else x
def endL (xs : List LinkV) (s : ByteArray) (y : Int) : List LinkV := (xs.map (endOne s y)).filter fun x => decide (x.from_ ≤ x.to_)
theorem endL_step {xs : List LinkV} {s : ByteArray} {y : Int} {k : Nat} (hk : k < xs.length) : endL (xs.take (k + 1)) s y = endL (xs.take k) s y ++ (if (endOne s y (nthLink xs k)).from_ ≤ (endOne s y (nthLink xs k)).to_ then [endOne s y (nthLink xs k)] else []) := by
  rw [List.take_succ_eq_append_getElem hk, endL, endL, List.map_append, List.filter_append, ← nthLink_eq hk]
  by_cases h : (endOne s y (nthLink xs k)).from_ ≤ (endOne s y (nthLink xs k)).to_ <;> simp [h]
theorem endL_len (xs : List LinkV) (s : ByteArray) (y : Int) : (endL xs s y).length ≤ xs.length := by
  rw [endL]
  exact Nat.le_trans (List.length_filter_le _ _) (by simp)
theorem endOne_ok {x : LinkV} (s : ByteArray) (y : Int) (h : okLink x) : okLink (endOne s y x) := by
  rw [endOne]
  split
  · exact h
  · exact h
theorem endL_ok {xs : List LinkV} (s : ByteArray) (y : Int) (h : ∀ x ∈ xs, okLink x) : ∀ x ∈ endL xs s y, okLink x := fun x hx => by
  rw [endL, List.mem_filter] at hx
  obtain ⟨z, hz, rfl⟩ := List.mem_map.1 hx.1
  exact endOne_ok s y (h z hz)
theorem end_hit {x : LinkV} {s : ByteArray} {y : Int} (h : x.child = s ∨ x.parent = s) : endOne s y x = ⟨x.child, x.parent, x.from_, min x.to_ (y - 1)⟩ := if_pos h
theorem end_miss {x : LinkV} {s : ByteArray} {y : Int} (h : ¬ (x.child = s ∨ x.parent = s)) : endOne s y x = x := if_neg h

end Go.Proofs.YtkljdmdlmhdpiaaDoor

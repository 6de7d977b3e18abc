/-
  Answers with codes, indices that a test selects: the words that both kinds of seats use.
-/
import Derived.Test.YtfglmoedicijkaaGreatDoorA
namespace Go.Proofs.YtfglmoedicijkaaGreatDoor
open Go.RowKit

def selN (n : Nat) (p : Nat → Bool) : List Int := ((List.range n).filter p).map fun (i : Nat) => (i : Int)
theorem selN_yes {k : Nat} {p : Nat → Bool} (h : p k = true) : selN (k + 1) p = selN k p ++ [(k : Int)] := by
  simp [selN, List.range_succ, h]
theorem selN_no {k : Nat} {p : Nat → Bool} (h : p k = false) : selN (k + 1) p = selN k p := by
  simp [selN, List.range_succ, h]
theorem selN_len (k : Nat) (p : Nat → Bool) : (selN k p).length ≤ k := by
  rw [selN, List.length_map]
  exact Nat.le_trans (List.length_filter_le _ _) (by simp)
def OwnV (w : World) (B : Nat) (v : Value) (zs : List Int) : Prop := ∃ a n c, v = .slice a n c ∧ OwnI w B a n c zs
theorem OwnV.isNil (w : World) (B : Nat) : OwnV w B (.slice none 0 0) [] := ⟨_, _, _, rfl, OwnI.isNil w B, by decide⟩
theorem OwnV.lit0 (w : World) {B : Nat} (hB : B ≤ w.heap.size) : OwnV (w.alloc (.cells #[] 2)) B (.slice (some ⟨w.heap.size, 0, none⟩) 0 0) [] := ⟨_, _, _, rfl, OwnI.lit0 w hB, by decide⟩
/-- A list and a code. -/
def RetLC (w : World) (zs : List Int) (code : Int) (e : Ending) (w' : World) : Prop := ∃ v, e = .returned (.tuple #[v, .int .i64 code]) ∧ NewI w w' zs v
def RetBC (w : World) (b : Bool) (code : Int) (e : Ending) (w' : World) : Prop := e = .returned (.tuple #[.bool b, .int .i64 code]) ∧ Ext w w'
def RetIC (w : World) (z : Int) (code : Int) (e : Ending) (w' : World) : Prop := e = .returned (.tuple #[.int .i64 z, .int .i64 code]) ∧ Ext w w'
theorem NewI.nil (w w' : World) (h : Ext w w') : NewI w w' [] (.slice none 0 0) := ⟨none, 0, 0, rfl, ⟨OwnI.isNil _ _, by decide⟩, h⟩
theorem NewI.pre {w0 w w' : World} {zs : List Int} {v : Value} (h0 : Ext w0 w) (h : NewI w w' zs v) : NewI w0 w' zs v := by
  obtain ⟨a, n, c, rfl, ho, hx⟩ := h
  exact ⟨a, n, c, rfl, ho.mono h0.size, h0.trans hx⟩

end Go.Proofs.YtfglmoedicijkaaGreatDoor

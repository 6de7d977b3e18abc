/-
  What the frames of statements on strings use.
-/
import Derived.Test.YtfglmoedicijkaaDoorW
import Derived.Test.YtfglmoedicijkaaDoorT3
import Derived.SliceStrings
namespace Go.Proofs.YtfglmoedicijkaaDoor
open Go.ChangeShapes Go.WideShapes Go.ChangeAt Go.RowKit

section
variable {H : Type} {enc : TypeId × Value → H} {w : World} {spare : Nat → Bool} {held : Bool} {a : Option Addr} {n c : Nat} {d : DataW H} {p : List MemPlace} {t : TypeId} {v : Value}

theorem flat_layS (ss : List ByteArray) : ss.flatMap layS.cells = ss.map Value.string := by
  induction ss with
  | nil => rfl
  | cons s ss ih => rw [List.flatMap_cons, ih]; rfl
theorem open_inS (h : DataW.Trod enc Tryd.prog w 0 spare held 23 (.slice a n c) d p) : ∃ ss, InS w a n ss ∧ n ≤ c := by
  obtain ⟨fuel, hf⟩ := h
  rcases open_strings Tryd.underlying23 Tryd.underlying9 (by kernel_rfl) hf with ⟨hcs, _⟩ | ⟨x, l, c', ss, hcs, _, hl, hm, hz, _, hcell, hwz⟩
  · simp [Value.cells] at hcs
    obtain ⟨rfl, rfl, rfl⟩ := hcs
    exact ⟨[], ⟨rfl, by omega, .inl rfl, by simp⟩, Nat.le_refl _⟩
  · simp [Value.cells] at hcs
    obtain ⟨rfl, rfl, rfl⟩ := hcs
    have hln : n ≤ ss.length := by rw [hz]; split <;> omega
    have hmx : maxLen = 9223372036854775807 := rfl
    refine ⟨ss.take n, ⟨by simp; omega, by omega, ?_, fun s hs => by have := hwz s (List.mem_of_mem_take hs); omega⟩, hl⟩
    rw [flat_layS]
    refine rd_of_cells fun i u hu => ?_
    have hi := (List.getElem?_eq_some_iff.1 hu).1
    simp at hi
    rw [hcell i (by omega)]
    simp [List.getElem?_take, show i < ss.length by omega] at hu
    simp [hu.2, show i < ss.length by omega]
end
end Go.Proofs.YtfglmoedicijkaaDoor

/-
  DoSoundAlike and MatchSounds on both sides.
-/
import Derived.Test.YtfglmoedicijkaaDoorSO2
namespace Go.Proofs.YtfglmoedicijkaaDoor
open Go.RowKit

theorem RdS.one (w : World) (x : ByteArray) (hx : x.size ≤ 1073741824) (e : TypeId) : RdS (w.alloc (.cells #[.string x] e)) (some ⟨w.heap.size, 0, none⟩) 1 [x] := ⟨RdG.new1 layS w x _ rfl e, by simpa using hx⟩
theorem RdS.two (w : World) (x y : ByteArray) (hx : x.size ≤ 1073741824) (hy : y.size ≤ 1073741824) (e : TypeId) : RdS (w.alloc (.cells #[.string x, .string y] e)) (some ⟨w.heap.size, 0, none⟩) 2 [x, y] := by
  refine ⟨⟨rfl, by decide, .inr ⟨_, _, rfl, by simp, fun j u hu => ?_⟩⟩, fun s hs => ?_⟩
  · match j, hu with
    | 0, hu => simpa [layS, World.cell?_alloc_at] using hu
    | 1, hu => simpa [layS, World.cell?_alloc_at] using hu
  · simp only [List.mem_cons, List.mem_nil_iff, or_false] at hs
    rcases hs with rfl | rfl
    · exact hx
    · exact hy
def alB (t : List Int) (a b : ByteArray) : Bool := if codeS t [a] b = 0 then (soundT t a).toList == (soundT t b).toList else false

/-! Words that sound like a word. -/
def msP (t : List Int) (ls : List ByteArray) (s : ByteArray) (i : Nat) : Bool := (soundT t (nthS ls i)).toList == (soundT t s).toList
def msL (t : List Int) (ls : List ByteArray) (s : ByteArray) : List Int := if codeS t ls s = 0 then selN ls.length (msP t ls s) else []

end Go.Proofs.YtfglmoedicijkaaDoor

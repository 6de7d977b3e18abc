/-
  What every statement's frame uses: an argument that came in, as the walks take it.
-/
import Derived.Test.YtfglmoedicijkaaGreatDoorB
import Derived.ProofKit
import Derived.OpenShut
import Derived.ShutString
import Derived.ChangeOld
import Derived.Below
namespace Go.Proofs.YtfglmoedicijkaaGreatDoor
open Go.ChangeShapes Go.WideShapes Go.ChangeAt Go.RowKit
open Go.ChangeMaps (open_string shut_string)

theorem own : ownKnob Tryz.prog.godebug = none := by kernel_rfl
theorem laidOut : laidOutB Tryz.prog = true := by kernel_rfl

/-- Cells from an address on, as 'Rd' has them. -/
theorem rd_of_cells {w : World} {x : Addr} {xs : List Value} (h : ∀ i u, xs[i]? = some u → w.cell? (x.add i) = some u) : Rd w (some x) xs := by
  cases xs with
  | nil => exact .inl rfl
  | cons v vs =>
    have h0 := h 0 v rfl
    obtain ⟨b, o, s⟩ := x
    have hs : s = none := by simpa [Addr.add] using World.cell?_spot h0
    subst hs
    refine .inr ⟨b, o, rfl, ?_, fun j u hu => ?_⟩
    · have := World.block_lt_of_cell? w _ h0
      simpa [Addr.add] using this
    · have := h j u hu
      rwa [Addr.add_lit] at this

/-- A slice of ints that came in: n elements, read as zs; how many is not bounded. -/
def InI (w : World) (a : Option Addr) (n : Nat) (zs : List Int) : Prop := zs.length = n ∧ Rd w a (zs.map (Value.int .i64))
theorem InI.rdI {w : World} {a : Option Addr} {n : Nat} {zs : List Int} (h : InI w a n zs) (hn : n ≤ 4294967296) : RdI w a n zs := ⟨h.1, hn, h.2⟩

section
variable {H : Type} {enc : TypeId × Value → H} {w : World} {spare : Nat → Bool} {held : Bool} {a : Option Addr} {n c : Nat} {d : DataW H} {p : List MemPlace} {t : TypeId} {v : Value}

theorem open_inI (h : DataW.Trod enc Tryz.prog w 0 spare held 24 (.slice a n c) d p) : ∃ zs, InI w a n zs := by
  obtain ⟨fuel, hf⟩ := h
  rcases open_ints Tryz.underlying24 Tryz.underlying2 (by kernel_rfl) hf with ⟨hcs, _⟩ | ⟨x, l, c', zs, hcs, _, hl, hm, hz, _, hcell, hwz⟩
  · simp [Value.cells] at hcs
    obtain ⟨rfl, rfl, rfl⟩ := hcs
    exact ⟨[], rfl, .inl rfl⟩
  · simp [Value.cells] at hcs
    obtain ⟨rfl, rfl, rfl⟩ := hcs
    have hln : n ≤ zs.length := by rw [hz]; split <;> omega
    refine ⟨zs.take n, by simp; omega, rd_of_cells fun i u hu => ?_⟩
    have hi := (List.getElem?_eq_some_iff.1 hu).1
    simp at hi
    rw [hcell i (by omega)]
    simp [List.getElem?_take, show i < zs.length by omega] at hu
    simp [hu.2, show i < zs.length by omega]
theorem trod_lt (h : DataW.Trod enc Tryz.prog w 0 spare held t v d p) : ∀ x ∈ p, x.block < w.heap.size := by
  obtain ⟨m, hm⟩ := h
  exact DataW.trod_lt m _ _ _ hm
end
end Go.Proofs.YtfglmoedicijkaaGreatDoor

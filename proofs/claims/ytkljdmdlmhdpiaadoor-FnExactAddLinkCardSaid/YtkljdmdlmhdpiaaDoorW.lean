/-
  What every statement's frame uses: an argument that came in, as the walks take it.
-/
import Derived.Test.YtkljdmdlmhdpiaaDoorB
import Derived.ProofKit
import Derived.OpenShut
import Derived.ShutString
import Derived.ChangeOld
import Derived.Below
namespace Go.Proofs.YtkljdmdlmhdpiaaDoor
open Go.ChangeShapes Go.WideShapes Go.ChangeAt Go.RowKit
open Go.ChangeMaps (open_string shut_string)

theorem own : ownKnob Tryd.prog.godebug = none := by kernel_rfl
theorem laidOut : laidOutB Tryd.prog = true := by kernel_rfl

/-- Cells from an address on, as 'Rd' has them. -/
theorem rd_of_cells {w : World} {x : Addr} {xs : List Value} (h : ∀ i u, xs[i]? = some u → w.cell? (x.add i) = some u) : Rd w (some x) xs := by
  cases xs with
  | nil => exact .inl rfl
  | cons v vs =>
    have h0 := h 0 v rfl
    obtain ⟨b, o, s⟩ := x
    have hs : s = none := by simpa [Addr.add] using World.cell?_spot h0
    subst hs
    refine .inr ⟨b, o, rfl, ?_, fun j u hu => ?_⟩
    · have := World.block_lt_of_cell? w _ h0
      simpa [Addr.add] using this
    · have := h j u hu
      rwa [Addr.add_lit] at this

/-- A slice of ints that came in: n elements, read as zs; how many is not bounded. -/
def InI (w : World) (a : Option Addr) (n : Nat) (zs : List Int) : Prop := zs.length = n ∧ Rd w a (zs.map (Value.int .i64))
theorem InI.rdI {w : World} {a : Option Addr} {n : Nat} {zs : List Int} (h : InI w a n zs) (hn : n ≤ 4294967296) : RdI w a n zs := ⟨h.1, hn, h.2⟩

section
variable {H : Type} {enc : TypeId × Value → H} {w : World} {spare : Nat → Bool} {held : Bool} {a : Option Addr} {n c : Nat} {d : DataW H} {p : List MemPlace} {t : TypeId} {v : Value}
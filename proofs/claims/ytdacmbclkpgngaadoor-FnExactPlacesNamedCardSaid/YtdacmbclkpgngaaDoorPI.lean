/-
  PlacesIn on both sides.
-/
import Derived.Test.YtdacmbclkpgngaaDoorCO
namespace Go.Proofs.YtdacmbclkpgngaaDoor
open Go.RowKit
attribute [local go_sem ↓] Go.wp_at_zero Go.wp_at_succ

def HoldsInt (w : World) (b : Nat) (y : Int) : Prop := b < w.heap.size ∧ w.cell? ⟨b, 0, none⟩ = some (.int .i64 y)
theorem HoldsInt.ext {w w' : World} {b : Nat} {y : Int} (h : HoldsInt w b y) (x : Ext w w') : HoldsInt w' b y := ⟨Nat.lt_of_lt_of_le h.1 x.size, (Below.cell x (p := ⟨b, 0, none⟩) h.1).trans h.2⟩
def inP (y : Int) (x : PlaceV) : Bool := inB y x.from_ x.to_

def inL (xs : List PlaceV) (y : Int) : List ByteArray := if codeP xs true y = 0 then pickL (inP y) PlaceV.code xs xs.length else []

end Go.Proofs.YtdacmbclkpgngaaDoor

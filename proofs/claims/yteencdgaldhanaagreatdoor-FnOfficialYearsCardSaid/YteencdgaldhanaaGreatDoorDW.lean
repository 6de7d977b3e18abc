/-
  Numbers in decimal: the program's and the reference's functions.
-/
import Derived.Test.YteencdgaldhanaaGreatDoorSPT
import Derived.Test.YteencdgaldhanaaGreatDoorT4
import Derived.Test.YteencdgaldhanaaGreatDoorM0
import Derived.Test.YteencdgaldhanaaGreatDoorShelf
import Derived.Lib.AppendIntMem
import Derived.Deep.RegionWith
namespace Go.Proofs.YteencdgaldhanaaGreatDoor
open Go.RowKit

def decB (u : Nat) : ByteArray := ⟨(Lib.decDigits u).toArray⟩
def itoaB (n : Int) : ByteArray := ⟨(Lib.itoa n).toArray⟩
theorem dec_len20 {u : Nat} (h : u ≤ 9223372036854775808) : (Lib.decDigits u).length ≤ 20 := dec_len (k := 19) (by omega)
theorem decB_size {u : Nat} (h : u ≤ 9223372036854775808) : (decB u).size ≤ 20 := by
  have : (decB u).size = (Lib.decDigits u).length := List.size_toArray
  rw [this]; exact dec_len20 h
theorem itoaB_size {n : Int} (h0 : -9223372036854775808 ≤ n) (h1 : n ≤ 9223372036854775807) : (itoaB n).size ≤ 21 := by
  have : (itoaB n).size = (Lib.itoa n).length := List.size_toArray
  rw [this]
  by_cases h : n < 0
  · rw [itoa_minus h, List.length_cons]
    have := dec_len20 (u := n.natAbs) (by omega)
    omega
  · rw [itoa_pos (by omega)]
    have := dec_len20 (u := n.toNat) (by omega)
    omega
theorem decB_big {u : Nat} (h : ¬ u < 10) : decB u = decB (u / 10) ++ ⟨#[UInt8.ofNat (48 + u % 10)]⟩ := by
  refine eqS.1 ?_
  rw [ByteArray.data_append, Array.toList_append]
  exact dec_big h
theorem itoaB_pos {n : Int} (h : 0 ≤ n) : itoaB n = decB n.toNat := by rw [itoaB, itoa_pos h]; rfl
theorem itoaB_neg {n : Int} (h : n < 0) : itoaB n = ⟨#[45]⟩ ++ decB n.natAbs := by
  refine eqS.1 ?_
  rw [ByteArray.data_append, Array.toList_append]
  exact itoa_minus h
/-- The library's table of powers of ten. -/
def TabW (w : World) : Prop := Lib.TabIs Tryz.prog w "internal/strconv.uint64pow10" .u64 Lib.pow10Tab
theorem TabW.ext {w w' : World} (h : TabW w) (x : Ext w w') : TabW w' := Lib.tabBelow_of_tabIs h w' x

/-- The same, somewhat later. -/
theorem conv1x {W1 W2 : World} {x : Int} (h : Ext (W1.alloc (.cells #[.int .u8 x] 5)) W2) : (convert 34 9 (.slice (some ⟨W1.heap.size, 0, none⟩) 1 1)).run Tryz.prog W2 = .ok (.string ⟨[UInt8.ofNat x.toNat].toArray⟩) W2 := by
  have hc : W2.cell? ⟨W1.heap.size, 0, none⟩ = some (.int .u8 x) := by
    rw [Below.cell h (p := ⟨W1.heap.size, 0, none⟩) (by simp)]
    simp [World.cell?_alloc_at]
  rw [run_convert_bytes_string _ _ _ _ _ _ _ Tryz.underlying34 Tryz.underlying5 Tryz.underlying9]
  rw [run_bytesToString _ _ _ _ [x] ?_]
  · rfl
  · simp [loadCells, loadCellsFrom, hc, go_sem]

end Go.Proofs.YteencdgaldhanaaGreatDoor

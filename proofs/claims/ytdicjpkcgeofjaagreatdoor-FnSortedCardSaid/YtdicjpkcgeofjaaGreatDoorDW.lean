/-
  Numbers in decimal: the program's and the reference's functions.
-/
import Derived.Test.YtdicjpkcgeofjaaGreatDoorM0
import Derived.Test.YtdicjpkcgeofjaaGreatDoorT4
import Derived.Test.YtdicjpkcgeofjaaGreatDoorS
import Derived.Test.YtdicjpkcgeofjaaGreatDoorShelf
import Derived.Lib.AppendIntMem
import Derived.Deep.RegionWith
namespace Go.Proofs.YtdicjpkcgeofjaaGreatDoor
open Go.RowKit

def decB (u : Nat) : ByteArray := ⟨(Lib.decDigits u).toArray⟩
def itoaB (n : Int) : ByteArray := ⟨(Lib.itoa n).toArray⟩
theorem dec_len20 {u : Nat} (h : u ≤ 9223372036854775808) : (Lib.decDigits u).length ≤ 20 := dec_len (k := 19) (by omega)
theorem decB_size {u : Nat} (h : u ≤ 9223372036854775808) : (decB u).size ≤ 20 := by
  have : (decB u).size = (Lib.decDigits u).length := List.size_toArray
  rw [this]; exact dec_len20 h
theorem itoaB_size {n : Int} (h0 : -9223372036854775808 ≤ n) (h1 : n ≤ 9223372036854775807) : (itoaB n).size ≤ 21 := by
  have : (itoaB n).size = (Lib.itoa n).length := List.size_toArray
  rw [this]
  by_cases h : n < 0
  · rw [itoa_minus h, List.length_cons]
    have := dec_len20 (u := n.natAbs) (by omega)
    omega
  · rw [itoa_pos (by omega)]
    have := dec_len20 (u := n.toNat) (by omega)
    omega
theorem decB_big {u : Nat} (h : ¬ u < 10) : decB u = decB (u / 10) ++ ⟨#[UInt8.ofNat (48 + u % 10)]⟩ := by
  refine eqS.1 ?_
  rw [ByteArray.data_append, Array.toList_append]
  exact dec_big h
theorem itoaB_pos {n : Int} (h : 0 ≤ n) : itoaB n = decB n.toNat := by rw [itoaB, itoa_pos h]; rfl
theorem itoaB_neg {n : Int} (h : n < 0) : itoaB n = ⟨#[45]⟩ ++ decB n.natAbs := by
  refine eqS.1 ?_
  rw [ByteArray.data_append, Array.toList_append]
  exact itoa_minus h
/-- The library's table of powers of ten. -/
def TabW (w : World) : Prop := Lib.TabIs Tryz.prog w "internal/strconv.uint64pow10" .u64 Lib.pow10Tab
theorem TabW.ext {w w' : World} (h : TabW w) (x : Ext w w') : TabW w' := Lib.tabBelow_of_tabIs h w' x

theorem decimalN_any (n : Int) (w : World) (h0 : -9223372036854775808 ≤ n) (h1 : n ≤ 9223372036854775807) (ht : TabW w) :
    Calls Tryz.prog 35 #[.int .i64 n] w fun e w' => e = .returned (.string (itoaB n)) ∧ Ext w w' := by
  go_enter Tryz.func35, Tryz.ntmps35
  go_wp2_with fail
  refine (Tryz.strconv_FormatInt_10 n h0 h1 _ ht).mono ?_
  rintro e w1 ⟨rfl, k, os, rfl⟩
  go_wp2
  go_ret
  exact ⟨rfl, Lib.below_grow _ _ (Nat.le_refl _) k os⟩

/-- The same, somewhat later. -/
theorem conv1x {W1 W2 : World} {x : Int} (h : Ext (W1.alloc (.cells #[.int .u8 x] 5)) W2) : (convert 22 9 (.slice (some ⟨W1.heap.size, 0, none⟩) 1 1)).run Tryz.prog W2 = .ok (.string ⟨[UInt8.ofNat x.toNat].toArray⟩) W2 := by
  have hc : W2.cell? ⟨W1.heap.size, 0, none⟩ = some (.int .u8 x) := by
    rw [Below.cell h (p := ⟨W1.heap.size, 0, none⟩) (by simp)]
    simp [World.cell?_alloc_at]
  rw [run_convert_bytes_string _ _ _ _ _ _ _ Tryz.underlying22 Tryz.underlying5 Tryz.underlying9]
  rw [run_bytesToString _ _ _ _ [x] ?_]
  · rfl
  · simp [loadCells, loadCellsFrom, hc, go_sem]

set_option maxRecDepth 100000 in
set_option maxHeartbeats 1000000 in
theorem l01DecN_any (u : Nat) : ∀ (w : World), u ≤ 1000000000000000 → 
    Calls Tryz.prog 37 #[.int .i64 u] w fun e w' => e = .returned (.string (decB u)) ∧ Ext w w' := by
  induction u using Nat.strongRecOn with
  | _ u ih =>
    intro w hu
    by_cases h : u < 10
    · have hcv := conv1 w (48 + (u : Int))
      have hk : (u : Int) < 10 := by omega
      have HD := Lib.hid (show decB u = ⟨#[UInt8.ofNat (48 + u)]⟩ by rw [decB, dec_small h])
      clear ih
      go_enter Tryz.func37, Tryz.ntmps37
      go_wp2
      go_ret
      exact ⟨by rw [HD.out]; rfl, (Ext.refl _).alloc _⟩
    · obtain ⟨q, hq⟩ : ∃ q, q = u / 10 := ⟨_, rfl⟩
      obtain ⟨r, hr⟩ : ∃ r, r = u % 10 := ⟨_, rfl⟩
      have IH := Lib.hid (ih (u / 10) (by omega))
      have HD := Lib.hid (decB_big h)
      have hz := decB_size (u := u / 10) (by omega)
      rw [← hq] at IH HD hz
      rw [← hr] at HD
      have hr10 : (r : Int) < 10 := by omega
      have e1 : IntKind.i64.wrap ((u : Int) / 10) = (q : Int) := (IntWalk.i64_in _ (by omega)).trans (by omega)
      have e2 : (u : Int).tmod 10 = (r : Int) := by rw [Int.tmod_eq_emod_of_nonneg (by omega)]; omega
      have e3 : IntKind.i64.wrap (48 + (r : Int)) = 48 + (r : Int) := IntWalk.i64_in _ (by omega)
      have e4 : IntKind.u8.wrap (48 + (r : Int)) = 48 + (r : Int) := IntWalk.u8_in _ (by omega)
      have hcv := fun w => conv1 w (48 + (r : Int))
      have hcd := conv1x (W1 := w) (x := 48 + (r : Int)) (Ext.refl _).drew
      have HQ := Lib.hid hq
      have hqs : q ≤ 1000000000000000 := by omega
      have hk : (10 : Int) ≤ u := by omega
      clear ih hq hr h hu
      go_enter Tryz.func37, Tryz.ntmps37
      go_wp2
      go_region_with (go_at_call 37; refine (IH.out _ hqs).mono ?_; rintro e w1 ⟨rfl, x1⟩; first | (have hcz := conv1x ((Ext.refl _).drew.trans x1)) | skip)
      all_goals
        go_wp2
        go_ret
        refine ⟨by rw [HD.out]; simp [Act.put], ?_⟩
        first
          | exact ((Ext.refl _).drew.trans x1).alloc _
          | exact (((Ext.refl _).alloc _).drew).trans x1

end Go.Proofs.YtdicjpkcgeofjaaGreatDoor

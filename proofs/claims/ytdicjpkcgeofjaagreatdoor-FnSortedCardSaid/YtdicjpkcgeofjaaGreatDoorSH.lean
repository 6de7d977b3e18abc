/-
  Spellings without the letters that are ignored: the closure, the search.
-/
import Derived.Test.YtdicjpkcgeofjaaGreatDoorSF
import Derived.Test.YtdicjpkcgeofjaaGreatDoorFP
namespace Go.Proofs.YtdicjpkcgeofjaaGreatDoor
open Go.RowKit

/-- A box that holds a sorter. -/
def HoldsX (w : World) (b : Nat) (x y : Value) : Prop := b < w.heap.size ∧ w.cell? ⟨b, 0, none⟩ = some x ∧ w.cell? ⟨b, 1, none⟩ = some y
theorem HoldsX.ext {w w' : World} {b : Nat} {x y : Value} (h : HoldsX w b x y) (e : Ext w w') : HoldsX w' b x y :=
  ⟨Nat.lt_of_lt_of_le h.1 e.size, (Below.cell e (p := ⟨b, 0, none⟩) h.1).trans h.2.1, (Below.cell e (p := ⟨b, 1, none⟩) h.1).trans h.2.2⟩

theorem lessClosure_any (z : Int) (b : Nat) (x : Value) (a2 : Option Addr) (m c2 : Nat) (ig : List Int) (w : World) (h : HoldsX w b x (.slice a2 m c2)) (hr2 : RdI w a2 m ig) :
    Calls Tryz.prog 74 #[.int .i64 z, .pointer (some ⟨b, 0, none⟩)] w fun e w' => e = .returned (.bool (hasI ig z)) ∧ w = w' := by
  obtain ⟨g0, g1, g2⟩ := h
  go_enter Tryz.func74, Tryz.ntmps74
  go_wp2_with (go_at_call 75; refine (slContains_int64_any _ _ _ _ _ _ hr2).mono ?_; rintro e w' ⟨rfl, rfl⟩)
  go_ret
  exact ⟨rfl, rfl⟩

set_option maxRecDepth 100000 in
set_option maxHeartbeats 400000 in
theorem idxIgn_any (a : Option Addr) (n c : Nat) (zs : List Int) (b : Nat) (x : Value) (a2 : Option Addr) (m c2 : Nat) (ig : List Int) (w : World) (hr : RdI w a n zs) (h : HoldsX w b x (.slice a2 m c2)) (hr2 : RdI w a2 m ig) :
    Calls Tryz.prog 104 #[.slice a n c, .func (.func 74) #[] #[.pointer (some ⟨b, 0, none⟩)]] w fun e w' => e = .returned (.int .i64 (idxP (hasI ig) zs)) ∧ w = w' := by
  have hm := hr.le
  have hln := hr.len
  go_enter Tryz.func104, Tryz.ntmps104
  go_wp2
  go_loopw [8] (fun i wr => ∃ k : Nat, k ≤ n ∧ i = .int .i64 k ∧ (∀ j (hj : j < zs.length), j < k → hasI ig zs[j] = false) ∧ w = wr) (fun i _ => n - (intOf i).toNat)
  case atStart => exact ⟨0, Nat.zero_le _, rfl, fun j _ h => by omega, rfl⟩
  case round =>
    obtain ⟨k, hk, rfl, hall, rfl⟩ := hrel
    have HA := Lib.hid hall
    clear hall
    by_cases hlt : k < n
    · obtain ⟨p, o, rfl, hbl, hA⟩ := hr.at (by omega)
      have hc0 := hA k hlt
      clear hA
      have hki : (k : Int) < n := by omega
      have hget : zs[k]'(by omega) = nth zs k := (nth_eq (by omega)).symm
      cases hp : hasI ig (nth zs k)
      · have HP := Lib.hid (And.intro hp hget)
        clear hp hget
        go_wp2_with (first | (go_at_call 74; refine (lessClosure_any _ _ _ _ _ _ _ _ h hr2).mono ?_; rintro e w1 ⟨rfl, rfl⟩; rw [HP.out.1]))
        go_roundw
        case rel =>
          refine ⟨k + 1, by omega, by go_num, fun j hj hjk => ?_, trivial⟩
          by_cases e : j = k
          · subst e; rw [HP.out.2]; exact HP.out.1
          · exact HA.out j hj (by omega)
        case measure => simp [intOf]; omega
      · have HP := Lib.hid (And.intro hp hget)
        clear hp hget
        go_wp2_with (first | (go_at_call 74; refine (lessClosure_any _ _ _ _ _ _ _ _ h hr2).mono ?_; rintro e w1 ⟨rfl, rfl⟩; rw [HP.out.1]))
        go_ret
        exact ⟨ret_int (idxP_at (by omega) (by rw [HP.out.2]; exact HP.out.1) HA.out).symm, rfl⟩
    · obtain rfl : k = n := by omega
      go_wp2
      go_ret
      exact ⟨ret_int (idxP_none (fun j hj => HA.out j hj (by omega))).symm, rfl⟩

end Go.Proofs.YtdicjpkcgeofjaaGreatDoor

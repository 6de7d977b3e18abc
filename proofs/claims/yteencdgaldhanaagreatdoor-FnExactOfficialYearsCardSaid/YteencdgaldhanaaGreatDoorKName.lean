/-
  Name: marks in slices of such values.
-/
import Derived.Test.YteencdgaldhanaaGreatDoorNName
import Derived.Test.YteencdgaldhanaaGreatDoorT5
namespace Go.Proofs.YteencdgaldhanaaGreatDoor
open Go.RowKit
attribute [local go_sem ↓] Go.wp_at_zero Go.wp_at_succ

def markName (k : Int) : NameV := ⟨markT (k).toNat, markT (k + 1).toNat, k + 1 + 1, k + 1 + 1 + 1, k + 1 + 1 + 1 + 1⟩
def marksName (k : Int) (n : Nat) : List NameV := (List.range n).map fun (i : Nat) => markName (k + 5 * (i : Int))
theorem marksName_len (k : Int) (n : Nat) : (marksName k n).length = n := by simp [marksName]
theorem marksName_get (k : Int) (n i : Nat) (h : i < n) : nthName (marksName k n) i = markName (k + 5 * (i : Int)) := by simp [nthName, marksName, h]
theorem marksName_small (k : Int) (n : Nat) (hk : k ≤ 4294967296) (hn : n ≤ 1048576) : ∀ s ∈ marksName k n, okName s := by
  intro s hs
  simp only [marksName, List.mem_map, List.mem_range] at hs
  obtain ⟨i, hi, rfl⟩ := hs
  exact ⟨markT_size _ (by omega), markT_size _ (by omega)⟩
theorem marksName_set (xs : List NameV) (k : Int) (n t : Nat) (hn : xs.length = n) (h : t < n) :
    ((((((marksName k t ++ xs.drop t).flatMap layName.cells).set (t * 5) (.string (markT (k + 5 * (t : Int)).toNat))).set (t * 5 + 1) (.string (markT (k + 5 * (t : Int) + 1).toNat))).set (t * 5 + 2) (.int .i64 (k + 5 * (t : Int) + 1 + 1))).set (t * 5 + 3) (.int .i64 (k + 5 * (t : Int) + 1 + 1 + 1))).set (t * 5 + 4) (.int .i64 (k + 5 * (t : Int) + 1 + 1 + 1 + 1)) = (marksName k (t + 1) ++ xs.drop (t + 1)).flatMap layName.cells := by
  subst hn
  rw [List.drop_eq_getElem_cons h, List.flatMap_append, List.flatMap_cons]
  have hl : ((marksName k t).flatMap layName.cells).length = t * 5 := by rw [flat_len, marksName_len]; rfl
  repeat rw [List.set_append_right _ _ (by omega), hl]
  simp only [marksName, List.range_succ, List.map_append, List.flatMap_append, List.append_assoc]
  simp [layName, markName]

set_option maxRecDepth 100000 in
set_option maxHeartbeats 1000000 in
theorem markNameS_any (B : Nat) (a : Option Addr) (n c : Nat) (k : Int) (xs : List NameV) (w : World) (hr : OwnName w B a n c xs) (hk0 : 0 < k) (hk1 : k ≤ 1073741824) (hn : n ≤ 1048576) :
    Calls Tryz.prog 12 #[.slice a n c, .int .i64 k] w fun e w' => e = .returned (.int .i64 (k + 5 * (n : Int))) ∧ OwnName w' B a n c (marksName k n) ∧ Wrote w w' a := by
  have hm := hr.1.2
  go_enter Tryz.func12, Tryz.ntmps12
  go_wp2
  go_loopw [1, 5] (fun u i wr => ∃ t : Nat, t ≤ n ∧ i = .int .i64 t ∧ u = .int .i64 (k + 5 * (t : Int)) ∧ OwnG layName 62 wr B a n c (marksName k t ++ xs.drop t) ∧ Wrote w wr a) (fun _ i _ => n - (intOf i).toNat)
  case atStart => exact ⟨0, Nat.zero_le _, rfl, by simp, by simpa [marksName] using hr.1, Wrote.refl _ _⟩
  case round =>
    obtain ⟨t, ht, rfl, rfl, ho, hw⟩ := hrel
    by_cases hlt : t < n
    · obtain ⟨g, rfl⟩ : ∃ g, a = some ⟨g, 0, none⟩ := by
        rcases own_addr ho.1 with rfl | h
        · have := ho.rd.isNone.1; omega
        · exact h
      have hti : (t : Int) < n := by omega
      have ht0 : (0 : Int) ≤ t := by omega
      have own0 : wr.ownsRow B 62 5 (.slice (some ⟨g, 0, none⟩) n c) n _ := ho.1
      go_wp2_with fail
      refine (markText_int _ _ (by omega) (by omega)).mono ?_
      rintro e w0 ⟨rfl, hx0⟩
      have ow0 := own_ext own0 hx0
      have hf0 := ow0.frozenAt (t * 5)
      obtain ⟨u0, hu0⟩ := own_oldG ow0 (t * 5) (by omega)
      have own1 := (ow0.stored (t * 5) (.string (markT (k + 5 * (t : Int)).toNat))).1
      have hw1 := ((hw.more hx0).setCell (t * 5) (.string (markT (k + 5 * (t : Int)).toNat)))
      go_wp2_with fail
      refine (markText_int _ _ (by omega) (by omega)).mono ?_
      rintro e w1 ⟨rfl, hx1⟩
      have ow1 := own_ext own1 hx1
      have hf1 := ow1.frozenAt (t * 5 + 1)
      obtain ⟨u1, hu1⟩ := own_oldG ow1 (t * 5 + 1) (by omega)
      have hf2 := ow1.frozenAt (t * 5 + 2)
      obtain ⟨u2, hu2⟩ := own_oldG ow1 (t * 5 + 2) (by omega)
      have hf3 := ow1.frozenAt (t * 5 + 3)
      obtain ⟨u3, hu3⟩ := own_oldG ow1 (t * 5 + 3) (by omega)
      have hf4 := ow1.frozenAt (t * 5 + 4)
      obtain ⟨u4, hu4⟩ := own_oldG ow1 (t * 5 + 4) (by omega)
      have own2 := (ow1.stored (t * 5 + 1) (.string (markT (k + 5 * (t : Int) + 1).toNat))).1
      have own3 := (own2.stored (t * 5 + 2) (.int .i64 (k + 5 * (t : Int) + 1 + 1))).1
      have own4 := (own3.stored (t * 5 + 3) (.int .i64 (k + 5 * (t : Int) + 1 + 1 + 1))).1
      have own5 := (own4.stored (t * 5 + 4) (.int .i64 (k + 5 * (t : Int) + 1 + 1 + 1 + 1))).1
      have hw5 := (((((hw1.more hx1).setCell (t * 5 + 1) (.string (markT (k + 5 * (t : Int) + 1).toNat))).setCell (t * 5 + 2) (.int .i64 (k + 5 * (t : Int) + 1 + 1))).setCell (t * 5 + 3) (.int .i64 (k + 5 * (t : Int) + 1 + 1 + 1))).setCell (t * 5 + 4) (.int .i64 (k + 5 * (t : Int) + 1 + 1 + 1 + 1)))
      have hse := marksName_set xs k n t hr.1.rd.len hlt
      rw [hse] at own5
      have HS := Lib.hid (And.intro (show OwnG layName 62 _ _ _ _ _ _ from ⟨own5, hm⟩) hw5)
      clear own5 hse ho hw
      go_wp2
      go_roundw
      case rel => exact ⟨t + 1, by omega, by go_num, by go_num, by simpa using HS.out.1, by simpa using HS.out.2⟩
      case measure => simp [intOf]; omega
    · obtain rfl : t = n := by omega
      have HS := Lib.hid (And.intro ho hw)
      clear ho hw
      go_wp2
      go_ret
      refine ⟨rfl, ⟨?_, marksName_small _ _ (by omega) (by omega)⟩, HS.out.2⟩
      have h := HS.out.1
      rwa [List.drop_of_length_le (by rw [hr.1.rd.len]; exact Nat.le_refl _), List.append_nil] at h

end Go.Proofs.YteencdgaldhanaaGreatDoor

/-
  Link: marks in slices of such values.
-/
import Derived.Test.YtkljdmdlmhdpiaaDoorNLink
import Derived.Test.YtkljdmdlmhdpiaaDoorT5
namespace Go.Proofs.YtkljdmdlmhdpiaaDoor
open Go.RowKit
attribute [local go_sem ↓] Go.wp_at_zero Go.wp_at_succ

def markLink (k : Int) : LinkV := ⟨markT (k).toNat, markT (k + 1).toNat, k + 1 + 1, k + 1 + 1 + 1⟩
def marksLink (k : Int) (n : Nat) : List LinkV := (List.range n).map fun (i : Nat) => markLink (k + 4 * (i : Int))
theorem marksLink_len (k : Int) (n : Nat) : (marksLink k n).length = n := by simp [marksLink]
theorem marksLink_get (k : Int) (n i : Nat) (h : i < n) : nthLink (marksLink k n) i = markLink (k + 4 * (i : Int)) := by simp [nthLink, marksLink, h]
theorem marksLink_small (k : Int) (n : Nat) (hk : k ≤ 4294967296) (hn : n ≤ 1048576) : ∀ s ∈ marksLink k n, okLink s := by
  intro s hs
  simp only [marksLink, List.mem_map, List.mem_range] at hs
  obtain ⟨i, hi, rfl⟩ := hs
  exact ⟨markT_size _ (by omega), markT_size _ (by omega)⟩
theorem marksLink_set (xs : List LinkV) (k : Int) (n t : Nat) (hn : xs.length = n) (h : t < n) :
    (((((marksLink k t ++ xs.drop t).flatMap layLink.cells).set (t * 4) (.string (markT (k + 4 * (t : Int)).toNat))).set (t * 4 + 1) (.string (markT (k + 4 * (t : Int) + 1).toNat))).set (t * 4 + 2) (.int .i64 (k + 4 * (t : Int) + 1 + 1))).set (t * 4 + 3) (.int .i64 (k + 4 * (t : Int) + 1 + 1 + 1)) = (marksLink k (t + 1) ++ xs.drop (t + 1)).flatMap layLink.cells := by
  subst hn
  rw [List.drop_eq_getElem_cons h, List.flatMap_append, List.flatMap_cons]
  have hl : ((marksLink k t).flatMap layLink.cells).length = t * 4 := by rw [flat_len, marksLink_len]; rfl
  repeat rw [List.set_append_right _ _ (by omega), hl]
  simp only [marksLink, List.range_succ, List.map_append, List.flatMap_append, List.append_assoc]
  simp [layLink, markLink]

set_option maxRecDepth 100000 in
set_option maxHeartbeats 1000000 in
theorem markLinkS_any (B : Nat) (a : Option Addr) (n c : Nat) (k : Int) (xs : List LinkV) (w : World) (hr : OwnLink w B a n c xs) (hk0 : 0 < k) (hk1 : k ≤ 1048576) (hn : n ≤ 1048576) :
    Calls Tryd.prog 12 #[.slice a n c, .int .i64 k] w fun e w' => e = .returned (.int .i64 (k + 4 * (n : Int))) ∧ OwnLink w' B a n c (marksLink k n) ∧ Wrote w w' a := by
  have hm := hr.1.2
  go_enter Tryd.func12, Tryd.ntmps12
  go_wp2
  go_loopw [1, 5] (fun u i wr => ∃ t : Nat, t ≤ n ∧ i = .int .i64 t ∧ u = .int .i64 (k + 4 * (t : Int)) ∧ OwnG layLink 35 wr B a n c (marksLink k t ++ xs.drop t) ∧ Wrote w wr a) (fun _ i _ => n - (intOf i).toNat)
  case atStart => exact ⟨0, Nat.zero_le _, rfl, by simp, by simpa [marksLink] using hr.1, Wrote.refl _ _⟩
  case round =>
    obtain ⟨t, ht, rfl, rfl, ho, hw⟩ := hrel
    by_cases hlt : t < n
    · obtain ⟨g, rfl⟩ : ∃ g, a = some ⟨g, 0, none⟩ := by
        rcases own_addr ho.1 with rfl | h
        · have := ho.rd.isNone.1; omega
        · exact h
      have hti : (t : Int) < n := by omega
      have ht0 : (0 : Int) ≤ t := by omega
      have own0 : wr.ownsRow B 35 4 (.slice (some ⟨g, 0, none⟩) n c) n _ := ho.1
      go_wp2_with fail
      refine (markText_int _ _ (by omega) (by omega)).mono ?_
      rintro e w0 ⟨rfl, hx0⟩
      have ow0 := own_ext own0 hx0
      have hf0 := ow0.frozenAt (t * 4)
      obtain ⟨u0, hu0⟩ := own_oldG ow0 (t * 4) (by omega)
      have own1 := (ow0.stored (t * 4) (.string (markT (k + 4 * (t : Int)).toNat))).1
      have hw1 := ((hw.more hx0).setCell (t * 4) (.string (markT (k + 4 * (t : Int)).toNat)))
      go_wp2_with fail
      refine (markText_int _ _ (by omega) (by omega)).mono ?_
      rintro e w1 ⟨rfl, hx1⟩
      have ow1 := own_ext own1 hx1
      have hf1 := ow1.frozenAt (t * 4 + 1)
      obtain ⟨u1, hu1⟩ := own_oldG ow1 (t * 4 + 1) (by omega)
      have hf2 := ow1.frozenAt (t * 4 + 2)
      obtain ⟨u2, hu2⟩ := own_oldG ow1 (t * 4 + 2) (by omega)
      have hf3 := ow1.frozenAt (t * 4 + 3)
      obtain ⟨u3, hu3⟩ := own_oldG ow1 (t * 4 + 3) (by omega)
      have own2 := (ow1.stored (t * 4 + 1) (.string (markT (k + 4 * (t : Int) + 1).toNat))).1
      have own3 := (own2.stored (t * 4 + 2) (.int .i64 (k + 4 * (t : Int) + 1 + 1))).1
      have own4 := (own3.stored (t * 4 + 3) (.int .i64 (k + 4 * (t : Int) + 1 + 1 + 1))).1
      have hw4 := ((((hw1.more hx1).setCell (t * 4 + 1) (.string (markT (k + 4 * (t : Int) + 1).toNat))).setCell (t * 4 + 2) (.int .i64 (k + 4 * (t : Int) + 1 + 1))).setCell (t * 4 + 3) (.int .i64 (k + 4 * (t : Int) + 1 + 1 + 1)))
      have hse := marksLink_set xs k n t hr.1.rd.len hlt
      rw [hse] at own4
      have HS := Lib.hid (And.intro (show OwnG layLink 35 _ _ _ _ _ _ from ⟨own4, hm⟩) hw4)
      clear own4 hse ho hw
      go_wp2
      go_roundw
      case rel => exact ⟨t + 1, by omega, by go_num, by go_num, by simpa using HS.out.1, by simpa using HS.out.2⟩
      case measure => simp [intOf]; omega
    · obtain rfl : t = n := by omega
      have HS := Lib.hid (And.intro ho hw)
      clear ho hw
      go_wp2
      go_ret
      refine ⟨rfl, ⟨?_, marksLink_small _ _ (by omega) (by omega)⟩, HS.out.2⟩
      have h := HS.out.1
      rwa [List.drop_of_length_le (by rw [hr.1.rd.len]; exact Nat.le_refl _), List.append_nil] at h

set_option maxRecDepth 100000 in
set_option maxHeartbeats 1000000 in
theorem heldLinkS_marks (a : Option Addr) (n c : Nat) (k : Int) (w : World) (hr : RdLink w a n (marksLink k n)) (hk0 : 0 < k) (hk1 : k ≤ 1048576) (hn : n ≤ 1048576) :
    Calls Tryd.prog 13 #[.slice a n c, .int .i64 k] w fun e w' => e = .returned (.int .i64 (k + 4 * (n : Int))) ∧ Ext w w' := by
  have hm := hr.le
  go_enter Tryd.func13, Tryd.ntmps13
  go_wp2
  go_loopw [1, 5] (fun u i wr => ∃ t : Nat, t ≤ n ∧ i = .int .i64 t ∧ u = .int .i64 (k + 4 * (t : Int)) ∧ Ext w wr) (fun _ i _ => n - (intOf i).toNat)
  case atStart => exact ⟨0, Nat.zero_le _, rfl, by simp, Ext.refl _⟩
  case round =>
    obtain ⟨t, ht, rfl, rfl, hx⟩ := hrel
    by_cases hlt : t < n
    · obtain ⟨b, o, rfl, hbl, hc⟩ := (hr.ext hx).at (by omega)
      obtain ⟨hc0, hc1, hc2, hc3⟩ := hc t hlt
      rw [marksLink_get k n t hlt] at hc0 hc1 hc2 hc3
      simp only [markLink] at hc0 hc1 hc2 hc3
      clear hc
      have hti : (t : Int) < n := by omega
      have ht0 : (0 : Int) ≤ t := by omega
      go_wp2
      go_region_held3 (fun w' => w'.cell? ⟨b, o + t * 4, none⟩ = some (.string (markT (k + 4 * (t : Int)).toNat))) (go_keep) (first | (go_at_call 26; refine (markText_int _ _ (by omega) (by omega)).mono ?_; rintro e w0 ⟨rfl, hx0⟩; have d0_0 := (Below.cell ((Ext.refl _).drew.trans hx0) (p := ⟨b, o + t * 4, none⟩) (hbl)).trans hc0; have d0_1 := (Below.cell ((Ext.refl _).drew.trans hx0) (p := ⟨b, o + t * 4 + 1, none⟩) (hbl)).trans hc1; have d0_2 := (Below.cell ((Ext.refl _).drew.trans hx0) (p := ⟨b, o + t * 4 + 2, none⟩) (hbl)).trans hc2; have d0_3 := (Below.cell ((Ext.refl _).drew.trans hx0) (p := ⟨b, o + t * 4 + 3, none⟩) (hbl)).trans hc3; have hb0 := Nat.lt_of_lt_of_le (hbl) ((Ext.refl _).drew.trans hx0).size))
      go_wp2
      go_region_held3 (fun w' => w'.cell? ⟨b, o + t * 4 + 1, none⟩ = some (.string (markT (k + 4 * (t : Int) + 1).toNat))) (go_keep) (first | (go_at_call 26; refine (markText_int _ _ (by omega) (by omega)).mono ?_; rintro e w1 ⟨rfl, hx1⟩; have d1_1 := (Below.cell ((Ext.refl _).drew.trans hx1) (p := ⟨b, o + t * 4 + 1, none⟩) hb0).trans d0_1; have d1_2 := (Below.cell ((Ext.refl _).drew.trans hx1) (p := ⟨b, o + t * 4 + 2, none⟩) hb0).trans d0_2; have d1_3 := (Below.cell ((Ext.refl _).drew.trans hx1) (p := ⟨b, o + t * 4 + 3, none⟩) hb0).trans d0_3; have hb1 := Nat.lt_of_lt_of_le hb0 ((Ext.refl _).drew.trans hx1).size))
      go_wp2
      go_roundw
      case rel => exact ⟨t + 1, by omega, by go_num, by go_num, ((hx.trans ((Ext.refl _).drew.trans hx0)).trans ((Ext.refl _).drew.trans hx1))⟩
      case measure => simp [intOf]; omega
    · obtain rfl : t = n := by omega
      go_wp2
      go_ret
      exact ⟨rfl, hx⟩

end Go.Proofs.YtkljdmdlmhdpiaaDoor

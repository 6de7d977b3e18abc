/-
  The statements' helper on lists of lists: two that read alike.
-/
import Derived.Test.YtfglmoedicijkaaGreatDoorGG
import Derived.Test.YtfglmoedicijkaaGreatDoorTK
import Derived.Deep.RegionHeld3
import Derived.Test.YtfglmoedicijkaaGreatDoorW2
namespace Go.Proofs.YtfglmoedicijkaaGreatDoor
open Go.RowKit

set_option maxRecDepth 100000 in
set_option maxHeartbeats 1000000 in
theorem likeTables_same (a b : Option Addr) (n c c' : Nat) (zss : List (List Int)) (w : World) (ha : RdGr w a n zss) (hb : RdGr w b n zss) :
    Calls Tryz.prog 21 #[.slice a n c, .slice b n c'] w fun e w' => e = .returned (.bool true) ∧ Ext w w' := by
  have hm := ha.le
  have hln := ha.len
  go_enter Tryz.func21, Tryz.ntmps21
  go_wp2
  go_loopw [5] (fun i wr => ∃ k : Nat, k ≤ n ∧ i = .int .i64 k ∧ Ext w wr) (fun i _ => n - (intOf i).toNat)
  case atStart => exact ⟨0, Nat.zero_le _, rfl, Ext.refl _⟩
  case round =>
    obtain ⟨k, hk, rfl, hx⟩ := hrel
    by_cases hlt : k < n
    · obtain ⟨b1, o1, rfl, hbl1, hA⟩ := (ha.ext hx).at (by omega)
      obtain ⟨b2, o2, rfl, hbl2, hB⟩ := (hb.ext hx).at (by omega)
      obtain ⟨p1, q1, hc1, hr1⟩ := hA k _ (List.getElem?_eq_getElem (by omega))
      obtain ⟨p2, q2, hc2, hr2⟩ := hB k _ (List.getElem?_eq_getElem (by omega))
      have HR := Lib.hid (And.intro hr1 hr2)
      clear hA hB hr1 hr2
      have hki : (k : Int) < n := by omega
      go_wp2
      refine wp_region_held_drew (S := Ext wr) (by kernel_rfl) (Ext.refl _).drew (fun hHeld => ?_)
      generalize hwd : World.drew _ = wd at hHeld ⊢
      clear hwd
      refine takeYesH 0 17 ?v1 rfl rfl (by kernel_rfl) (by kernel_rfl) (by kernel_rfl) (fun _ _ _ _ h => h) (by kernel_rfl) hHeld ?y1 ?r1
      case y1 => intro wq hq; go_simp; first | done | with_reducible rfl
      simp only [Act.put, List.setIfInBounds_toArray, List.set_cons_zero, List.set_cons_succ]
      refine takeYesH 1 18 ?v2 rfl rfl (by kernel_rfl) (by kernel_rfl) (by kernel_rfl) (fun _ _ _ _ h => h) (by kernel_rfl) hHeld ?y2 ?r2
      case y2 => intro wq hq; go_simp; first | done | with_reducible rfl
      simp only [Act.put, List.setIfInBounds_toArray, List.set_cons_zero, List.set_cons_succ]
      refine takeYesH 2 19 ?v3 rfl rfl (by kernel_rfl) (by kernel_rfl) (by kernel_rfl) (fun _ _ _ _ h => h) (by kernel_rfl) hHeld ?y3 ?r3
      case y3 => intro wq hq; go_simp; first | done | with_reducible rfl
      simp only [Act.put, List.setIfInBounds_toArray, List.set_cons_zero, List.set_cons_succ]
      refine takeYesH 3 20 ?v4 rfl rfl (by kernel_rfl) (by kernel_rfl) (by kernel_rfl) (fun _ _ _ _ h => h) (by kernel_rfl) hHeld ?y4 ?r4
      case y4 =>
        intro wq hq
        have z1 := (Below.cell hq (p := ⟨b1, o1 + k, none⟩) hbl1).trans hc1
        have z2 := (Below.cell hq (p := ⟨b2, o2 + k, none⟩) hbl2).trans hc2
        go_simp
        first | done | with_reducible rfl
      simp only [Act.put, List.setIfInBounds_toArray, List.set_cons_zero, List.set_cons_succ]
      refine takeYesH 4 21 ?v5 rfl rfl (by kernel_rfl) (by kernel_rfl) (by kernel_rfl) (fun _ _ _ _ h => h) (by kernel_rfl) hHeld ?y5 ?r5
      case y5 => intro wq hq; go_simp; first | done | with_reducible rfl
      simp only [Act.put, List.setIfInBounds_toArray, List.set_cons_zero, List.set_cons_succ]
      refine takeYesH 5 22 ?v6 rfl rfl (by kernel_rfl) (by kernel_rfl) (by kernel_rfl) (fun _ _ _ _ h => h) (by kernel_rfl) hHeld ?y6 ?r6
      case y6 => intro wq hq; go_simp; first | done | with_reducible rfl
      simp only [Act.put, List.setIfInBounds_toArray, List.set_cons_zero, List.set_cons_succ]
      refine takeYesH 6 23 ?v7 rfl rfl (by kernel_rfl) (by kernel_rfl) (by kernel_rfl) (fun _ _ _ _ h => h) (by kernel_rfl) hHeld ?y7 ?r7
      case y7 => intro wq hq; go_simp; first | done | with_reducible rfl
      simp only [Act.put, List.setIfInBounds_toArray, List.set_cons_zero, List.set_cons_succ]
      refine takeYesH 7 24 ?v8 rfl rfl (by kernel_rfl) (by kernel_rfl) (by kernel_rfl) (fun _ _ _ _ h => h) (by kernel_rfl) hHeld ?y8 ?r8
      case y8 =>
        intro wq hq
        have z1 := (Below.cell hq (p := ⟨b1, o1 + k, none⟩) hbl1).trans hc1
        have z2 := (Below.cell hq (p := ⟨b2, o2 + k, none⟩) hbl2).trans hc2
        go_simp
        first | done | with_reducible rfl
      simp only [Act.put, List.setIfInBounds_toArray, List.set_cons_zero, List.set_cons_succ]
      refine wpAnyH_ready (rs := [8]) (by kernel_rfl) (by simp) ?_
      refine AllReadyH.cons rfl (fun K hK => ?_) AllReadyH.nil
      go_simp
      refine (likeInts_same _ _ _ _ _ _ _ (HR.out.1.ext hHeld) (HR.out.2.ext hHeld)).mono ?_
      rintro e w1 ⟨rfl, hs⟩
      go_wp2_with fail
      refine hK.out _ _ (hHeld.trans hs.ext) (fun hHeld => ?_)
      clear hK K
      try simp only [Act.put, List.setIfInBounds_toArray, List.set_cons_zero, List.set_cons_succ]
      refine takeYesH 9 26 ?v9 rfl rfl (by kernel_rfl) (by kernel_rfl) (by kernel_rfl) (fun _ _ _ _ h => h) (by kernel_rfl) hHeld ?y9 ?r9
      case y9 => intro wq hq; go_simp; first | done | with_reducible rfl
      simp only [Act.put, List.setIfInBounds_toArray, List.set_cons_zero, List.set_cons_succ]
      refine wpAnyH_done (by kernel_rfl) ?_ _
      go_wp2
      refine ⟨⟨k + 1, by omega, by go_num, hx.trans hHeld⟩, ?_⟩
      simp only [intOf]
      omega
    · obtain rfl : k = n := by omega
      go_wp2
      go_ret
      exact ⟨rfl, hx⟩

end Go.Proofs.YtfglmoedicijkaaGreatDoor

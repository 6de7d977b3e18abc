/-
  The walk of the reference's IsEndingTable.
-/
import Derived.Test.YtfglmoedicijkaaGreatDoorNT
import Derived.Test.YtfglmoedicijkaaGreatDoorNL
namespace Go.Proofs.YtfglmoedicijkaaGreatDoor
open Go.RowKit

set_option maxRecDepth 100000 in
set_option maxHeartbeats 1000000 in
theorem specIsEndingTable_any (a : Option Addr) (n c : Nat) (xs : List EndingV) (w : World) (hr : RdEnding w a n xs) :
    Calls Tryz.prog 35 #[.slice a n c] w fun e w' => e = .returned (.bool (tableE xs)) ∧ Ext w w' := by
  have hm := hr.le
  go_enter Tryz.func35, Tryz.ntmps35
  go_wp2
  go_loopw [3] (fun i wr => ∃ k : Nat, k ≤ n ∧ i = .int .i64 k ∧ (∀ j, j < k → endB (nthEnding xs j) = true ∧ hasE (xs.take j) (nthEnding xs j) = false) ∧ Ext w wr) (fun i _ => n - (intOf i).toNat)
  case atStart => exact ⟨0, Nat.zero_le _, rfl, by simp, Ext.refl _⟩
  case round =>
    obtain ⟨k, hk, rfl, hall, hx⟩ := hrel
    have HA := Lib.hid hall
    clear hall
    by_cases hlt : k < n
    · obtain ⟨b, o, rfl, hbl, hA⟩ := (hr.ext hx).at (by omega)
      obtain ⟨hc0, hc1, hc2⟩ := hA k hlt
      obtain ⟨hk0, hk1⟩ := hr.ok hlt
      have hln := hr.len
      have hki : (k : Int) < n := by omega
      cases h0 : smallB (nthEnding xs k).old 0 6
      · have HH := Lib.hid h0
        clear h0 hA
        go_wp2_with (first | (go_at_call 68; refine (l03Lower_any _ _ _ _ (by omega)).mono ?_; rintro e w' ⟨rfl, rfl⟩; rw [HH.out]))
        go_ret
        exact ⟨ret_bool (by rw [tableE, firstsE_bad (k := k) (by omega) (.inl (by rw [endB, HH.out]; rfl))]; rfl), hx.alloc _⟩
      cases h1 : smallB (nthEnding xs k).new 0 6
      · have HH := Lib.hid (And.intro h0 h1)
        clear h0 h1 hA
        go_wp2_with (first | (go_at_call 68; refine (l03Lower_any _ _ _ _ (by omega)).mono ?_; rintro e w' ⟨rfl, rfl⟩; first | rw [HH.out.1] | rw [HH.out.2]))
        go_ret
        exact ⟨ret_bool (by rw [tableE, firstsE_bad (k := k) (by omega) (.inl (by rw [endB, HH.out.1, HH.out.2]; rfl))]; rfl), hx.alloc _⟩
      cases h2 : (nthEnding xs k).old.toList == (nthEnding xs k).new.toList
      · cases h3 : inB (nthEnding xs k).kase 1 9
        · have HH := Lib.hid (And.intro h0 (And.intro h1 (And.intro h2 h3)))
          clear h0 h1 h3 hA
          go_wp2_with (first | (go_at_call 68; refine (l03Lower_any _ _ _ _ (by omega)).mono ?_; rintro e w' ⟨rfl, rfl⟩; first | rw [HH.out.1] | rw [HH.out.2.1]) | (go_at_call 56; refine (l01In_any _ _ _ _).mono ?_; rintro e w' ⟨rfl, rfl⟩; rw [HH.out.2.2.2]))
          go_ret
          exact ⟨ret_bool (by rw [tableE, firstsE_bad (k := k) (by omega) (.inl (by rw [endB, HH.out.1, HH.out.2.1, HH.out.2.2.1, HH.out.2.2.2]; rfl))]; rfl), hx.alloc _⟩
        · have HH := Lib.hid (And.intro h0 (And.intro h1 (And.intro h2 h3)))
          clear h0 h1 h3
          have hend : endB (nthEnding xs k) = true := by rw [endB, HH.out.1, HH.out.2.1, HH.out.2.2.1, HH.out.2.2.2]; rfl
          have HE := Lib.hid hend
          have HC := Lib.hid hA
          clear hend hA
          go_wp2_with (first | (go_at_call 68; refine (l03Lower_any _ _ _ _ (by omega)).mono ?_; rintro e w' ⟨rfl, rfl⟩; first | rw [HH.out.1] | rw [HH.out.2.1]) | (go_at_call 56; refine (l01In_any _ _ _ _).mono ?_; rintro e w' ⟨rfl, rfl⟩; rw [HH.out.2.2.2]))
          go_loopw [5] (fun i wi => ∃ m : Nat, m ≤ k ∧ i = .int .i64 m ∧ (∀ j, j < m → nthEnding xs j ≠ nthEnding xs k) ∧ Ext (wr.alloc (.cells #[.string (nthEnding xs k).old, .string (nthEnding xs k).new, .int .i64 (nthEnding xs k).kase] 75)) wi) (fun i _ => k - (intOf i).toNat)
          case atStart => exact ⟨0, Nat.zero_le _, rfl, by simp, Ext.refl _⟩
          case round =>
            obtain ⟨m, hm2, rfl, hall2, hxi⟩ := hrel
            have HB := Lib.hid hall2
            clear hall2
            by_cases hltm : m < k
            · obtain ⟨hd0, hd1, hd2⟩ := HC.out m (by omega)
              have hp := ((Ext.refl _).alloc _).trans hxi
              have he0 := (Below.cell hp (p := ⟨b, o + m * 3, none⟩) hbl).trans hd0
              have he1 := (Below.cell hp (p := ⟨b, o + m * 3 + 1, none⟩) hbl).trans hd1
              have he2 := (Below.cell hp (p := ⟨b, o + m * 3 + 2, none⟩) hbl).trans hd2
              have b0 := box_kept hxi 0
              have b1 := box_kept hxi 1
              have b2 := box_kept hxi 2
              have hmi : (m : Int) < n := by omega
              have hg := Tryz.eqGuardEnding
              clear hd0 hd1 hd2 hc0 hc1 hc2 hp
              cases hb : eqEndB (nthEnding xs m) (nthEnding xs k)
              · have HQ := Lib.hid hb
                go_wp2
                go_still_tail 5, (by kernel_rfl)
                go_wp2
                go_roundw
                case rel =>
                  refine ⟨m + 1, by omega, by go_num, fun j hj => ?_, hxi.drew⟩
                  by_cases e : j = m
                  · rw [e]; intro h2; rw [h2, eqEndB_iff.2 rfl] at hb; cases hb
                  · exact HB.out j (by omega)
                case measure => simp [intOf]; omega
              · have HQ := Lib.hid hb
                go_wp2
                go_still_tail 5, (by kernel_rfl)
                go_wp2
                go_ret
                refine ⟨ret_bool ?_, (hx.alloc _).trans hxi.drew⟩
                rw [tableE, firstsE_bad (k := k) (by omega) (.inr (hasE_at (k := m) (by simp; omega) (by rw [nthEnding_eq (by simp; omega), List.getElem_take, ← nthEnding_eq (by omega)]; exact eqEndB_iff.1 HQ.out)))]
                rfl
            · obtain rfl : m = k := by omega
              go_wp2
              go_roundw
              case rel =>
                refine ⟨m + 1, by omega, by go_num, fun j hj => ?_, (hx.alloc _).trans hxi⟩
                by_cases e : j = m
                · rw [e]
                  refine ⟨HE.out, hasE_none fun i hi => ?_⟩
                  have hi' : i < m := by simp at hi; omega
                  rw [nthEnding_eq hi, List.getElem_take, ← nthEnding_eq (by omega)]
                  exact HB.out i hi'
                · exact HA.out j (by omega)
              case measure => simp [intOf]; omega
      · have HH := Lib.hid (And.intro h0 (And.intro h1 h2))
        clear h0 h1 hA
        go_wp2_with (first | (go_at_call 68; refine (l03Lower_any _ _ _ _ (by omega)).mono ?_; rintro e w' ⟨rfl, rfl⟩; first | rw [HH.out.1] | rw [HH.out.2.1]))
        go_ret
        exact ⟨ret_bool (by rw [tableE, firstsE_bad (k := k) (by omega) (.inl (by rw [endB, HH.out.1, HH.out.2.1, HH.out.2.2]; rfl))]; rfl), hx.alloc _⟩
    · obtain rfl : k = n := by omega
      have hln := hr.len
      go_wp2
      go_ret
      exact ⟨ret_bool (by rw [tableE, firstsE_good (fun j hj => HA.out j (by omega)), hln, Bool.true_and]; exact decide_eq_decide.2 (by omega)), hx⟩

end Go.Proofs.YtfglmoedicijkaaGreatDoor

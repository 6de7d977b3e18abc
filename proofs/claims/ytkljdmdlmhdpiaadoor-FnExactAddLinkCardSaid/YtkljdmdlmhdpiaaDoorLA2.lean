/-
  AreLinks of the reference.
-/
import Derived.Test.YtkljdmdlmhdpiaaDoorLA
namespace Go.Proofs.YtkljdmdlmhdpiaaDoor
open Go.RowKit
attribute [local go_sem ↓] Go.wp_at_zero Go.wp_at_succ

theorem Ext.drewN {a b : World} (h : Ext a b) (n : Nat) : Ext a (b.drewN n) := h.trans ((Still.refl b).drewN n).ext

set_option maxRecDepth 100000 in
set_option maxHeartbeats 4000000 in
theorem specAreLinks_any (a : Option Addr) (n c : Nat) (xs : List LinkV) (w : World) (hr : RdLink w a n xs) (hn : n ≤ 1048577) :
    Calls Tryd.prog 19 #[.slice a n c] w fun e w' => e = .returned (.bool (linksB xs)) ∧ Ext w w' := by
  have hm := hr.le
  have hln := hr.len
  go_enter Tryd.func19, Tryd.ntmps19
  go_wp2
  go_loopw [3] (fun i wr => ∃ k : Nat, k ≤ n ∧ i = .int .i64 k ∧ (∀ j, j < k → linkB (nthLink xs j) = true ∧ anyP (clashL (nthLink xs j)) (xs.take j) = false) ∧ Ext w wr) (fun i _ => n - (intOf i).toNat)
  case atStart => exact ⟨0, Nat.zero_le _, rfl, by simp, Ext.refl _⟩
  case round =>
    obtain ⟨k, hk, rfl, hall, hx⟩ := hrel
    have HA := Lib.hid hall
    clear hall
    by_cases hlt : k < n
    · obtain ⟨b, o, rfl, hbl, hA⟩ := (hr.ext hx).at (by omega)
      obtain ⟨hc0, hc1, hc2, hc3⟩ := hA k hlt
      have hok := hr.ok hlt
      have hki : (k : Int) < n := by omega
      have HC := Lib.hid hA
      clear hA
      cases h : linkB (nthLink xs k)
      · have HH := Lib.hid h
        clear h
        go_wp2_with fail
        refine (l12Is_any (nthLink xs k) _ hok).mono ?_
        rintro e w1 ⟨rfl, hx1⟩
        rw [HH.out]
        go_wp2
        go_ret
        exact ⟨ret_bool (by rw [linksB, firstsL_bad (by omega) (.inl HH.out)]; rfl), hx.trans hx1⟩
      · have HH := Lib.hid h
        clear h
        go_wp2_with fail
        refine (l12Is_any (nthLink xs k) _ hok).mono ?_
        rintro e w1 ⟨rfl, hx1⟩
        rw [HH.out]
        have HK := Lib.hid (And.intro hc0 (And.intro hc2 hc3))
        clear hc0 hc1 hc2 hc3
        go_wp2
        go_loopw [4] (fun i wi => ∃ m : Nat, m ≤ k ∧ i = .int .i64 m ∧ (∀ j, j < m → clashL (nthLink xs k) (nthLink xs j) = false) ∧ Ext wr wi) (fun i _ => k - (intOf i).toNat)
        case atStart => exact ⟨0, Nat.zero_le _, rfl, by simp, hx1⟩
        case round =>
          obtain ⟨m, hm2, rfl, hall2, hxi⟩ := hrel
          have HB := Lib.hid hall2
          clear hall2
          by_cases hltm : m < k
          · obtain ⟨hd0, hd1, hd2, hd3⟩ := HC.out m (by omega)
            have k0 := (Below.cell hxi (p := ⟨b, o + k * 4, none⟩) hbl).trans HK.out.1
            have k2 := (Below.cell hxi (p := ⟨b, o + k * 4 + 2, none⟩) hbl).trans HK.out.2.1
            have k3 := (Below.cell hxi (p := ⟨b, o + k * 4 + 3, none⟩) hbl).trans HK.out.2.2
            have m0 := (Below.cell hxi (p := ⟨b, o + m * 4, none⟩) hbl).trans hd0
            have m2 := (Below.cell hxi (p := ⟨b, o + m * 4 + 2, none⟩) hbl).trans hd2
            have m3 := (Below.cell hxi (p := ⟨b, o + m * 4 + 3, none⟩) hbl).trans hd3
            have hmi : (m : Int) < n := by omega
            have hmk : (m : Int) < k := by omega
            clear hd0 hd1 hd2 hd3
            have hbi := Nat.lt_of_lt_of_le hbl hxi.size
            by_cases he : (nthLink xs m).child = (nthLink xs k).child
            · have hbe := beqS_eq he
              have HE := Lib.hid he
              clear he
              cases hmt : meetB ⟨(nthLink xs m).from_, (nthLink xs m).to_⟩ ⟨(nthLink xs k).from_, (nthLink xs k).to_⟩
              all_goals
                have HM := Lib.hid hmt
                clear hmt
                go_wp2
                first | (go_region_held3 (fun w' => w'.cell? ⟨b, o + m * 4, none⟩ = some (.string (nthLink xs m).child) ∧ w'.cell? ⟨b, o + k * 4, none⟩ = some (.string (nthLink xs k).child) ∧ w'.cell? ⟨b, o + m * 4 + 2, none⟩ = some (.int .i64 (nthLink xs m).from_) ∧ w'.cell? ⟨b, o + m * 4 + 3, none⟩ = some (.int .i64 (nthLink xs m).to_) ∧ w'.cell? ⟨b, o + k * 4 + 2, none⟩ = some (.int .i64 (nthLink xs k).from_) ∧ w'.cell? ⟨b, o + k * 4 + 3, none⟩ = some (.int .i64 (nthLink xs k).to_)) (go_keep) (first | (go_at_call 35; refine (l02Meet_any ⟨(nthLink xs m).from_, (nthLink xs m).to_⟩ ⟨(nthLink xs k).from_, (nthLink xs k).to_⟩ _).mono ?_; rintro e w3 ⟨rfl, hx3⟩; rw [HM.out]; have z0 := (Below.cell ((Ext.refl _).drew.trans hx3) (p := ⟨b, o + m * 4, none⟩) hbi).trans m0; have z1 := (Below.cell ((Ext.refl _).drew.trans hx3) (p := ⟨b, o + k * 4, none⟩) hbi).trans k0; have z2 := (Below.cell ((Ext.refl _).drew.trans hx3) (p := ⟨b, o + m * 4 + 2, none⟩) hbi).trans m2; have z3 := (Below.cell ((Ext.refl _).drew.trans hx3) (p := ⟨b, o + m * 4 + 3, none⟩) hbi).trans m3; have z4 := (Below.cell ((Ext.refl _).drew.trans hx3) (p := ⟨b, o + k * 4 + 2, none⟩) hbi).trans k2; have z5 := (Below.cell ((Ext.refl _).drew.trans hx3) (p := ⟨b, o + k * 4 + 3, none⟩) hbi).trans k3))) | fail
                have hxx := hxi.trans ((Ext.refl _).drew.trans hx3)
                have HX := Lib.hid hxx
                clear hxx
              · go_wp2
                go_roundw
                case rel =>
                  refine ⟨m + 1, by omega, by go_num, fun j hj => ?_, HX.out⟩
                  by_cases e : j = m
                  · subst e; rw [clashL, HM.out, Bool.and_false]
                  · exact HB.out j (by omega)
                case measure => simp [intOf]; omega
              · go_wp2
                go_ret
                refine ⟨ret_bool ?_, hx.trans HX.out⟩
                rw [linksB, firstsL_bad (k := k) (by omega) (.inr (anyP_at (k := m) (by simp; omega) (by rw [List.getElem_take, ← nthLink_eq (by omega), clashL, HM.out, HE.out]; simp)))]
                rfl
            · have hbe := beqS_ne he
              have HE := Lib.hid he
              clear he
              go_wp2
              go_quiet (fail)
              go_wp2
              go_roundw
              case rel =>
                refine ⟨m + 1, by omega, by go_num, fun j hj => ?_, hxi.drewN _⟩
                by_cases e : j = m
                · subst e; rw [clashL]; simp [HE.out]
                · exact HB.out j (by omega)
              case measure => simp [intOf]; omega
          · obtain rfl : m = k := by omega
            go_wp2
            go_roundw
            case rel =>
              refine ⟨m + 1, by omega, by go_num, fun j hj => ?_, hx.trans hxi⟩
              by_cases e : j = m
              · rw [e]
                refine ⟨HH.out, anyP_none fun i hi => ?_⟩
                have hi' : i < m := by simp at hi; omega
                rw [List.getElem_take, ← nthLink_eq (by omega)]
                exact HB.out i hi'
              · exact HA.out j (by omega)
            case measure => simp [intOf]; omega
    · obtain rfl : k = n := by omega
      have hfirst : firstsL xs = true := firstsL_good (fun j hj => HA.out j (by omega))
      have HF := Lib.hid (And.intro hfirst HA.out)
      clear hfirst
      by_cases hbig : 20 < k
      · go_wp2
        go_ret
        exact ⟨ret_bool (by rw [linksB, hln, show decide (k ≤ 20) = false by simp; omega]; simp), hx⟩
      · have hpar : ∀ x ∈ xs, x.parent ≠ ⟨#[]⟩ := fun x hx => by
          obtain ⟨j, hj, rfl⟩ := List.getElem_of_mem hx
          rw [← nthLink_eq hj]
          exact word_ne (linkB_word (HF.out.2 j (by omega)).1).2
        have HP := Lib.hid hpar
        clear hpar
        have hbi : ¬ (20 : Int) < k := by omega
        go_wp2
        go_loopw [5] (fun i wi => ∃ m : Nat, m ≤ k ∧ i = .int .i64 m ∧ (∀ j, j < m → ∀ q, q < k → circB xs (nthLink xs q).child (nthLink xs j).from_ = false) ∧ Ext w wi) (fun i _ => k - (intOf i).toNat)
        case atStart => exact ⟨0, Nat.zero_le _, rfl, fun j h => by omega, hx⟩
        case round =>
          obtain ⟨m, hm2, rfl, hall2, hxi⟩ := hrel
          have HC := Lib.hid hall2
          clear hall2
          by_cases hltm : m < k
          · go_wp2
            go_loopw [6] (fun i wj => ∃ q : Nat, q ≤ k ∧ i = .int .i64 q ∧ (∀ r, r < q → circB xs (nthLink xs r).child (nthLink xs m).from_ = false) ∧ Ext wr wj) (fun i _ => k - (intOf i).toNat)
            case atStart => exact ⟨0, Nat.zero_le _, rfl, fun j h => by omega, Ext.refl _⟩
            case round =>
              obtain ⟨q, hq, rfl, hall3, hxj⟩ := hrel
              have HD := Lib.hid hall3
              clear hall3
              by_cases hltq : q < k
              · obtain ⟨b, o, rfl, hbl, hA⟩ := (hr.ext (hxi.trans hxj)).at (by omega)
                obtain ⟨hd0, hd1, hd2, hd3⟩ := hA q hltq
                obtain ⟨he0, he1, he2, he3⟩ := hA m hltm
                clear hA hd1 hd2 hd3 he0 he1 he3
                have hqi : (q : Int) < k := by omega
                have hmi : (m : Int) < k := by omega
                have hokq := (hr.ok hltq).1
                have hrx := hr.ext (hxi.trans hxj)
                have hw0 := word_ne (linkB_word (HF.out.2 q hltq).1).1
                have HW := Lib.hid hw0
                clear hw0
                go_wp2
                go_region_held3 (fun w' => w'.cell? ⟨b, o + q * 4, none⟩ = some (.string (nthLink xs q).child) ∧ w'.cell? ⟨b, o + m * 4 + 2, none⟩ = some (.int .i64 (nthLink xs m).from_)) (go_keep) (first | (go_at_call 36; refine (l12Way_any _ _ _ _ _ _ _ (hrx.ext (Ext.refl _).drew) hokq HW.out HP.out hn).mono ?_; rintro e w3 ⟨v3, rfl, a3, n3, c3, rfl, o3, hx3⟩; have k0 := (Below.cell ((Ext.refl _).drew.trans hx3) (p := ⟨b, o + q * 4, none⟩) hbl).trans hd0; have k2 := (Below.cell ((Ext.refl _).drew.trans hx3) (p := ⟨b, o + m * 4 + 2, none⟩) hbl).trans he2))
                have hxx := hxj.trans ((Ext.refl _).drew.trans hx3)
                have HX := Lib.hid hxx
                clear hxx
                cases hci : circB xs (nthLink xs q).child (nthLink xs m).from_
                · have HI2 := Lib.hid hci
                  clear hci
                  go_wp2
                  go_roundw
                  case rel =>
                    refine ⟨q + 1, by omega, by go_num, fun j hj => ?_, HX.out⟩
                    by_cases e : j = q
                    · subst e; exact HI2.out
                    · exact HD.out j (by omega)
                  case measure => simp [intOf]; omega
                · have HI2 := Lib.hid hci
                  clear hci
                  go_wp2
                  go_ret
                  exact ⟨ret_bool (by rw [linksB, circ2_bad (i := m) (k := q) (by omega) (by omega) HI2.out]; simp), hxi.trans HX.out⟩
              · obtain rfl : q = k := by omega
                go_wp2
                go_roundw
                case rel =>
                  refine ⟨m + 1, by omega, by go_num, fun j hj r hr2 => ?_, hxi.trans hxj⟩
                  by_cases e : j = m
                  · subst e; exact HD.out r hr2
                  · exact HC.out j (by omega) r hr2
                case measure => simp [intOf]; omega
          · obtain rfl : m = k := by omega
            have hc2 : circ2 xs = false := circ2_good fun i hi q hq => HC.out i (by omega) q (by omega)
            have HG := Lib.hid hc2
            clear hc2
            go_wp2
            go_ret
            exact ⟨ret_bool (by rw [linksB, HF.out.1, HG.out, hln, show decide (m ≤ 20) = true by simp; omega]; rfl), hxi⟩

end Go.Proofs.YtkljdmdlmhdpiaaDoor

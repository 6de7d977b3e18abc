/-
  AreNames of the reference.
-/
import Derived.Test.YtjelmidkkpchkaaGreatDoorNA
namespace Go.Proofs.YtjelmidkkpchkaaGreatDoor
open Go.RowKit

theorem meetB_comm (x y : SpanV) : meetB x y = meetB y x := by rw [meetB, meetB, Bool.and_comm]
theorem clashB_no {y x : NameV} (h : x.status ≠ 0 ∨ y.lang ≠ x.lang ∨ meetB ⟨y.from_, y.to_⟩ ⟨x.from_, x.to_⟩ = false) : clashB y x = false := by
  rw [clashB, offB]
  rcases h with h | h | h
  · simp [h]
  · have : ¬ x.lang = y.lang := fun e => h e.symm
    simp [this]
  · rw [meetB_comm, h, Bool.and_false]
theorem clashB_yes {y x : NameV} (h0 : x.status = 0) (h1 : y.lang = x.lang) (h2 : meetB ⟨y.from_, y.to_⟩ ⟨x.from_, x.to_⟩ = true) : clashB y x = true := by
  rw [clashB, offB, meetB_comm, h2, h0, h1]
  simp

set_option maxRecDepth 100000 in
set_option maxHeartbeats 4000000 in
theorem specAreNames_any (a : Option Addr) (n c : Nat) (xs : List NameV) (w : World) (hr : RdName w a n xs) :
    Calls Tryz.prog 148 #[.slice a n c] w fun e w' => e = .returned (.bool (namesB xs)) ∧ Ext w w' := by
  have hm := hr.le
  go_enter Tryz.func148, Tryz.ntmps148
  go_wp2
  go_loopw [3] (fun i wr => ∃ k : Nat, k ≤ n ∧ i = .int .i64 k ∧ (∀ j, j < k → nameB (nthName xs j) = true ∧ ((nthName xs j).status = 0 → anyP (clashB (nthName xs j)) (xs.take j) = false)) ∧ Ext w wr) (fun i _ => n - (intOf i).toNat)
  case atStart => exact ⟨0, Nat.zero_le _, rfl, by simp, Ext.refl _⟩
  case round =>
    obtain ⟨k, hk, rfl, hall, hx⟩ := hrel
    have HA := Lib.hid hall
    clear hall
    by_cases hlt : k < n
    · obtain ⟨b, o, rfl, hbl, hA⟩ := (hr.ext hx).at (by omega)
      obtain ⟨hc0, hc1, hc2, hc3, hc4⟩ := hA k hlt
      have hok := hr.ok hlt
      have hln := hr.len
      have hki : (k : Int) < n := by omega
      have HC := Lib.hid hA
      clear hA
      cases h : nameB (nthName xs k)
      · have HH := Lib.hid h
        clear h
        go_wp2_with fail
        refine (specIsName_any (nthName xs k) _ hok).mono ?_
        rintro e w1 ⟨rfl, hx1⟩
        rw [HH.out]
        go_wp2
        go_ret
        exact ⟨ret_bool (by rw [namesB, firstsN_bad (by omega) (.inl HH.out)]; rfl), ((hx.alloc _).trans hx1)⟩
      · have HH := Lib.hid h
        clear h
        go_wp2_with fail
        refine (specIsName_any (nthName xs k) _ hok).mono ?_
        rintro e w1 ⟨rfl, hx1⟩
        rw [HH.out]
        clear hc0 hc1 hc2 hc3 hc4
        go_wp2
        go_loopw [5] (fun i wi => ∃ m : Nat, m ≤ k ∧ i = .int .i64 m ∧ (∀ j, j < m → (nthName xs k).status = 0 → clashB (nthName xs k) (nthName xs j) = false) ∧ Ext (wr.alloc (.cells #[.string (nthName xs k).text, .string (nthName xs k).lang, .int .i64 (nthName xs k).status, .int .i64 (nthName xs k).from_, .int .i64 (nthName xs k).to_] 69)) wi) (fun i _ => k - (intOf i).toNat)
        case atStart => exact ⟨0, Nat.zero_le _, rfl, by simp, hx1⟩
        case round =>
          obtain ⟨m, hm2, rfl, hall2, hxi⟩ := hrel
          have HB := Lib.hid hall2
          clear hall2
          by_cases hltm : m < k
          · obtain ⟨hd0, hd1, hd2, hd3, hd4⟩ := HC.out m (by omega)
            have hp := ((Ext.refl _).alloc _).trans hxi
            have he0 := (Below.cell hp (p := ⟨b, o + m * 5, none⟩) hbl).trans hd0
            have he1 := (Below.cell hp (p := ⟨b, o + m * 5 + 1, none⟩) hbl).trans hd1
            have he2 := (Below.cell hp (p := ⟨b, o + m * 5 + 2, none⟩) hbl).trans hd2
            have he3 := (Below.cell hp (p := ⟨b, o + m * 5 + 3, none⟩) hbl).trans hd3
            have he4 := (Below.cell hp (p := ⟨b, o + m * 5 + 4, none⟩) hbl).trans hd4
            have hY := hxi.alloc (.cells #[.string (nthName xs m).text, .string (nthName xs m).lang, .int .i64 (nthName xs m).status, .int .i64 (nthName xs m).from_, .int .i64 (nthName xs m).to_] 69)
            have b1 : _ = some (Value.string (nthName xs k).lang) := box_keptG hY 1
            have b2 : _ = some (Value.int .i64 (nthName xs k).status) := box_keptG hY 2
            have b3 : _ = some (Value.int .i64 (nthName xs k).from_) := box_keptG hY 3
            have b4 : _ = some (Value.int .i64 (nthName xs k).to_) := box_keptG hY 4
            have hmi : (m : Int) < n := by omega
            have hmk : (m : Int) < k := by omega
            clear hd0 hd1 hd2 hd3 hd4 hp
            by_cases s1 : (nthName xs k).status = 0
            · have hs1 : ((nthName xs k).status == 0) = true := by simpa using s1
              have S1 := Lib.hid s1
              clear s1
              by_cases s2 : (nthName xs m).status = 0
              · have hs2 : ((nthName xs m).status == 0) = true := by simpa using s2
                have S2 := Lib.hid s2
                clear s2
                by_cases hl : (nthName xs k).lang = (nthName xs m).lang
                · have hbl2 := beqS_eq hl
                  have HL := Lib.hid hl
                  clear hl
                  cases hmt : meetB ⟨(nthName xs k).from_, (nthName xs k).to_⟩ ⟨(nthName xs m).from_, (nthName xs m).to_⟩
                  · have HM := Lib.hid hmt
                    clear hmt
                    go_wp2_with fail
                    refine (l02Meet_any ⟨(nthName xs k).from_, (nthName xs k).to_⟩ ⟨(nthName xs m).from_, (nthName xs m).to_⟩ _).mono ?_
                    rintro e w2 ⟨rfl, hx2⟩
                    rw [HM.out]
                    go_wp2
                    go_roundw
                    case rel =>
                      refine ⟨m + 1, by omega, by go_num, fun j hj h0 => ?_, (hxi.alloc _).trans hx2⟩
                      by_cases e : j = m
                      · rw [e]; exact clashB_no (.inr (.inr HM.out))
                      · exact HB.out j (by omega) h0
                    case measure => simp [intOf]; omega
                  · have HM := Lib.hid hmt
                    clear hmt
                    go_wp2_with fail
                    refine (l02Meet_any ⟨(nthName xs k).from_, (nthName xs k).to_⟩ ⟨(nthName xs m).from_, (nthName xs m).to_⟩ _).mono ?_
                    rintro e w2 ⟨rfl, hx2⟩
                    rw [HM.out]
                    go_wp2
                    go_ret
                    refine ⟨ret_bool ?_, (((hx.alloc _).trans hxi).alloc _).trans hx2⟩
                    rw [namesB, firstsN_bad (k := k) (by omega) (.inr ⟨S1.out, anyP_at (k := m) (by simp; omega) (by rw [List.getElem_take, ← nthName_eq (by omega)]; exact clashB_yes S2.out HL.out HM.out)⟩)]
                    rfl
                · have hbl2 := beqS_ne hl
                  go_wp2
                  go_roundw
                  case rel =>
                    refine ⟨m + 1, by omega, by go_num, fun j hj h0 => ?_, hxi.alloc _⟩
                    by_cases e : j = m
                    · rw [e]; exact clashB_no (.inr (.inl hl))
                    · exact HB.out j (by omega) h0
                  case measure => simp [intOf]; omega
              · have hbs : ((nthName xs m).status == 0) = false := by simpa using s2
                go_wp2
                go_roundw
                case rel =>
                  refine ⟨m + 1, by omega, by go_num, fun j hj h0 => ?_, hxi.alloc _⟩
                  by_cases e : j = m
                  · rw [e]; exact clashB_no (.inl s2)
                  · exact HB.out j (by omega) h0
                case measure => simp [intOf]; omega
            · have hbs : ((nthName xs k).status == 0) = false := by simpa using s1
              go_wp2
              go_roundw
              case rel => exact ⟨m + 1, by omega, by go_num, fun j hj h0 => absurd h0 s1, hxi.alloc _⟩
              case measure => simp [intOf]; omega
          · obtain rfl : m = k := by omega
            go_wp2
            go_roundw
            case rel =>
              refine ⟨m + 1, by omega, by go_num, fun j hj => ?_, (hx.alloc _).trans hxi⟩
              by_cases e : j = m
              · rw [e]
                refine ⟨HH.out, fun h0 => anyP_none fun i hi => ?_⟩
                have hi' : i < m := by simp at hi; omega
                rw [List.getElem_take, ← nthName_eq (by omega)]
                exact HB.out i hi' h0
              · exact HA.out j (by omega)
            case measure => simp [intOf]; omega
    · obtain rfl : k = n := by omega
      have hln := hr.len
      go_wp2
      go_ret
      exact ⟨ret_bool (by rw [namesB, firstsN_good (fun j hj => HA.out j (by omega)), hln, Bool.true_and]; exact decide_eq_decide.2 (by omega)), hx⟩

end Go.Proofs.YtjelmidkkpchkaaGreatDoor

/-
  Comparisons of lists of numbers and of lists of such: both sides.
-/
import Derived.Test.YtdicjpkcgeofjaaGreatDoorSE
import Derived.Test.YtdicjpkcgeofjaaGreatDoorSR
namespace Go.Proofs.YtdicjpkcgeofjaaGreatDoor
open Go.RowKit

theorem at_same {α : Type} {a b : List α} (h : a = b) (j : Nat) : a[j]? = b[j]? := by rw [h]
theorem nth_same {a b : List Int} {k : Nat} (ha : k < a.length) (hb : k < b.length) (h : nth a k = nth b k) : a[k]? = b[k]? := by
  rw [nth_eq ha, nth_eq hb] at h
  rw [List.getElem?_eq_getElem ha, List.getElem?_eq_getElem hb, h]

set_option maxRecDepth 100000 in
set_option maxHeartbeats 1000000 in
theorem l06Lists_any (a b : Option Addr) (n c m c2 : Nat) (xs ys : List Int) (w : World) (hr : RdI w a n xs) (hr2 : RdI w b m ys) :
    Calls Tryz.prog 81 #[.slice a n c, .slice b m c2] w fun e w' => e = .returned (.int .i64 (cmpI xs ys)) ∧ Still w w' := by
  have hm := hr.le
  have hln := hr.len
  have hm2 := hr2.le
  have hln2 := hr2.len
  go_enter Tryz.func81, Tryz.ntmps81
  go_wp2
  go_loopw [5] (fun i wr => ∃ k : Nat, k ≤ n ∧ k ≤ m ∧ i = .int .i64 k ∧ (∀ j, j < k → xs[j]? = ys[j]?) ∧ Still w wr) (fun i _ => n - (intOf i).toNat)
  case atStart => exact ⟨0, Nat.zero_le _, Nat.zero_le _, rfl, by simp, Still.refl _⟩
  case round =>
    obtain ⟨k, hk, hkm, rfl, hall, hs⟩ := hrel
    have HA := Lib.hid hall
    clear hall
    by_cases hlt : k < n
    · have hki : (k : Int) < n := by omega
      by_cases hlt2 : k < m
      · have hki2 : (k : Int) < m := by omega
        obtain ⟨p, o, rfl, hbl, hc⟩ := (hr.ext hs.ext).at (by omega)
        obtain ⟨p2, o2, rfl, hbl2, hc2⟩ := (hr2.ext hs.ext).at (by omega)
        have hck := hc k hlt
        have hck2 := hc2 k hlt2
        clear hc hc2
        by_cases h1 : nth xs k < nth ys k
        · have HZ := Lib.hid (cmpI_lt HA.out (by omega) (by omega) h1)
          go_wp2
          go_quiet (fail)
          go_wp2
          go_ret
          exact ⟨by rw [HZ.out]; rfl, hs.drewN _⟩
        · by_cases h2 : nth ys k < nth xs k
          · have HZ := Lib.hid (cmpI_gt HA.out (by omega) (by omega) h2)
            go_wp2
            go_quiet (fail)
            go_wp2
            go_quiet (fail)
            go_wp2
            go_ret
            exact ⟨by rw [HZ.out]; rfl, by first | exact hs.drewN _ | exact (hs.drewN _).drewN _⟩
          · have HZ := Lib.hid (eq_step HA.out (nth_same (by omega) (by omega) (by omega)))
            go_wp2
            go_quiet (fail)
            go_wp2
            go_quiet (fail)
            go_wp2
            go_roundw
            case rel => exact ⟨k + 1, by omega, by omega, by go_num, HZ.out, by first | exact hs.drewN _ | exact (hs.drewN _).drewN _⟩
            case measure => simp [intOf]; omega
      · have hki2 : ¬ (k : Int) < m := by omega
        have HZ := Lib.hid (cmpI_long HA.out (by omega) (by omega))
        have hmn : ¬ (n : Int) < m := by omega
        have hnm : (m : Int) < n := by omega
        go_wp2
        go_ret
        exact ⟨by rw [HZ.out]; rfl, hs⟩
    · have hki : ¬ (k : Int) < n := by omega
      by_cases hlt2 : n < m
      · have HZ := Lib.hid (cmpI_short HA.out (by omega) (by omega))
        have hnm : (n : Int) < m := by omega
        go_wp2
        go_ret
        exact ⟨by rw [HZ.out]; rfl, hs⟩
      · have HZ := Lib.hid (cmpI_same HA.out (by omega) (by omega))
        have hnm : ¬ (n : Int) < m := by omega
        have hmn : ¬ (m : Int) < n := by omega
        go_wp2
        go_ret
        exact ⟨by rw [HZ.out]; rfl, hs⟩

def cmp1 (a b : Int) : Int := if a < b then -1 else if b < a then 1 else 0
theorem isNaN_any (x : Int) (w : World) : Calls Tryz.prog 120 #[.int .i64 x] w fun e w' => e = .returned (.bool false) ∧ w = w' := by
  go_enter Tryz.func120, Tryz.ntmps120
  go_wp2
  go_ret
  exact ⟨ret_bool (by simp), rfl⟩
theorem compare1_any (a b : Int) (w : World) : Calls Tryz.prog 103 #[.int .i64 a, .int .i64 b] w fun e w' => e = .returned (.int .i64 (cmp1 a b)) ∧ w = w' := by
  by_cases h1 : a < b
  · have e : cmp1 a b = -1 := if_pos h1
    go_enter Tryz.func103, Tryz.ntmps103
    go_wp2_with (go_at_call 120; refine (isNaN_any _ _).mono ?_; rintro e w' ⟨rfl, rfl⟩)
    go_ret
    exact ⟨by rw [e]; rfl, rfl⟩
  · by_cases h2 : b < a
    · have e : cmp1 a b = 1 := by rw [cmp1, if_neg h1, if_pos h2]
      go_enter Tryz.func103, Tryz.ntmps103
      go_wp2_with (go_at_call 120; refine (isNaN_any _ _).mono ?_; rintro e w' ⟨rfl, rfl⟩)
      go_ret
      exact ⟨by rw [e]; rfl, rfl⟩
    · have e : cmp1 a b = 0 := by rw [cmp1, if_neg h1, if_neg h2]
      go_enter Tryz.func103, Tryz.ntmps103
      go_wp2_with (go_at_call 120; refine (isNaN_any _ _).mono ?_; rintro e w' ⟨rfl, rfl⟩)
      go_ret
      exact ⟨by rw [e]; rfl, rfl⟩

set_option maxRecDepth 100000 in
set_option maxHeartbeats 1000000 in
theorem slCompare_any (a b : Option Addr) (n c m c2 : Nat) (xs ys : List Int) (w : World) (hr : RdI w a n xs) (hr2 : RdI w b m ys) :
    Calls Tryz.prog 71 #[.slice a n c, .slice b m c2] w fun e w' => e = .returned (.int .i64 (cmpI xs ys)) ∧ w = w' := by
  have hm := hr.le
  have hln := hr.len
  have hm2 := hr2.le
  have hln2 := hr2.len
  go_enter Tryz.func71, Tryz.ntmps71
  go_wp2
  go_loopw [11] (fun i wr => ∃ k : Nat, k ≤ n ∧ k ≤ m ∧ i = .int .i64 k ∧ (∀ j, j < k → xs[j]? = ys[j]?) ∧ w = wr) (fun i _ => n - (intOf i).toNat)
  case atStart => exact ⟨0, Nat.zero_le _, Nat.zero_le _, rfl, by simp, rfl⟩
  case round =>
    obtain ⟨k, hk, hkm, rfl, hall, rfl⟩ := hrel
    have HA := Lib.hid hall
    clear hall
    by_cases hlt : k < n
    · have hki : (k : Int) < n := by omega
      obtain ⟨p, o, rfl, hbl, hc⟩ := hr.at (by omega)
      have hck := hc k hlt
      by_cases hlt2 : k < m
      · have hki2 : (k : Int) < m := by omega
        have hki3 : ¬ (m : Int) ≤ k := by omega
        obtain ⟨p2, o2, rfl, hbl2, hc2⟩ := hr2.at (by omega)
        have hck2 := hc2 k hlt2
        clear hc hc2
        by_cases h1 : nth xs k < nth ys k
        · have HZ := Lib.hid (And.intro (cmpI_lt HA.out (by omega) (by omega) h1) (show cmp1 (nth xs k) (nth ys k) = -1 from if_pos h1))
          go_wp2_with (go_at_call 103; refine (compare1_any _ _ _).mono ?_; rintro e w' ⟨rfl, rfl⟩; rw [HZ.out.2])
          go_ret
          exact ⟨by rw [HZ.out.1]; rfl, rfl⟩
        · by_cases h2 : nth ys k < nth xs k
          · have HZ := Lib.hid (And.intro (cmpI_gt HA.out (by omega) (by omega) h2) (show cmp1 (nth xs k) (nth ys k) = 1 by rw [cmp1, if_neg h1, if_pos h2]))
            go_wp2_with (go_at_call 103; refine (compare1_any _ _ _).mono ?_; rintro e w' ⟨rfl, rfl⟩; rw [HZ.out.2])
            go_ret
            exact ⟨by rw [HZ.out.1]; rfl, rfl⟩
          · have HZ := Lib.hid (And.intro (eq_step HA.out (nth_same (by omega) (by omega) (by omega))) (show cmp1 (nth xs k) (nth ys k) = 0 by rw [cmp1, if_neg h1, if_neg h2]))
            go_wp2_with (go_at_call 103; refine (compare1_any _ _ _).mono ?_; rintro e w' ⟨rfl, rfl⟩; rw [HZ.out.2])
            go_roundw
            case rel => exact ⟨k + 1, by omega, by omega, by go_num, HZ.out.1, trivial⟩
            case measure => simp [intOf]; omega
      · have hki3 : (m : Int) ≤ k := by omega
        have HZ := Lib.hid (cmpI_long HA.out (by omega) (by omega))
        clear hc
        go_wp2
        go_ret
        exact ⟨by rw [HZ.out]; rfl, rfl⟩
    · have hki : ¬ (k : Int) < n := by omega
      by_cases hlt2 : n < m
      · have HZ := Lib.hid (cmpI_short HA.out (by omega) (by omega))
        have hnm : (n : Int) < m := by omega
        go_wp2
        go_ret
        exact ⟨by rw [HZ.out]; rfl, rfl⟩
      · have HZ := Lib.hid (cmpI_same HA.out (by omega) (by omega))
        have hnm : ¬ (n : Int) < m := by omega
        go_wp2
        go_ret
        exact ⟨by rw [HZ.out]; rfl, rfl⟩

theorem rdgr_at {w : World} {b o : Nat} {zss : List (List Int)} (hc : ∀ k zs, zss[k]? = some zs → ∃ a' c', w.cell? ⟨b, o + k, none⟩ = some (.slice a' zs.length c') ∧ RdI w a' zs.length zs) {k : Nat} (hk : k < zss.length) :
    ∃ a' c', w.cell? ⟨b, o + k, none⟩ = some (.slice a' (nthW zss k).length c') ∧ RdI w a' (nthW zss k).length (nthW zss k) := by
  rw [nthW_eq hk]
  exact hc k _ (List.getElem?_eq_getElem hk)
theorem nthW_same {a b : List (List Int)} {k : Nat} (ha : k < a.length) (hb : k < b.length) (h : nthW a k = nthW b k) : a[k]? = b[k]? := by
  rw [nthW_eq ha, nthW_eq hb] at h
  rw [List.getElem?_eq_getElem ha, List.getElem?_eq_getElem hb, h]

set_option maxRecDepth 100000 in
set_option maxHeartbeats 1000000 in
theorem slCompareFunc_any (a b : Option Addr) (n c m c2 : Nat) (xs ys : List (List Int)) (w : World) (hr : RdGr w a n xs) (hr2 : RdGr w b m ys) :
    Calls Tryz.prog 70 #[.slice a n c, .slice b m c2, .func (.func 71) #[] #[]] w fun e w' => e = .returned (.int .i64 (cmpW xs ys)) ∧ w = w' := by
  have hm := hr.le
  have hln := hr.len
  have hm2 := hr2.le
  have hln2 := hr2.len
  go_enter Tryz.func70, Tryz.ntmps70
  go_wp2
  go_loopw [13] (fun i wr => ∃ k : Nat, k ≤ n ∧ k ≤ m ∧ i = .int .i64 k ∧ (∀ j, j < k → xs[j]? = ys[j]?) ∧ w = wr) (fun i _ => n - (intOf i).toNat)
  case atStart => exact ⟨0, Nat.zero_le _, Nat.zero_le _, rfl, by simp, rfl⟩
  case round =>
    obtain ⟨k, hk, hkm, rfl, hall, rfl⟩ := hrel
    have HA := Lib.hid hall
    clear hall
    by_cases hlt : k < n
    · have hki : (k : Int) < n := by omega
      obtain ⟨p, o, rfl, hbl, hc⟩ := hr.at (by omega)
      obtain ⟨pa, pc, hck, hp⟩ := rdgr_at hc (k := k) (by omega)
      by_cases hlt2 : k < m
      · have hki2 : (k : Int) < m := by omega
        have hki3 : ¬ (m : Int) ≤ k := by omega
        obtain ⟨p2, o2, rfl, hbl2, hc2⟩ := hr2.at (by omega)
        obtain ⟨qa, qc, hck2, hq⟩ := rdgr_at hc2 (k := k) (by omega)
        clear hc hc2
        by_cases h0 : cmpI (nthW xs k) (nthW ys k) = 0
        · have HZ := Lib.hid (And.intro (eq_step HA.out (nthW_same (by omega) (by omega) (cmpI_eq h0))) h0)
          clear h0
          go_wp2_with (go_at_call 71; refine (slCompare_any _ _ _ _ _ _ _ _ _ hp hq).mono ?_; rintro e w' ⟨rfl, rfl⟩; rw [HZ.out.2])
          go_roundw
          case rel => exact ⟨k + 1, by omega, by omega, by go_num, HZ.out.1, trivial⟩
          case measure => simp [intOf]; omega
        · have HZ := Lib.hid (cmpW_ne HA.out (by omega) (by omega) h0)
          have hb0 : (cmpI (nthW xs k) (nthW ys k) == 0) = false := by simpa using h0
          go_wp2_with (go_at_call 71; refine (slCompare_any _ _ _ _ _ _ _ _ _ hp hq).mono ?_; rintro e w' ⟨rfl, rfl⟩)
          go_ret
          exact ⟨by rw [HZ.out]; rfl, rfl⟩
      · have hki3 : (m : Int) ≤ k := by omega
        have HZ := Lib.hid (cmpW_long HA.out (by omega) (by omega))
        clear hc
        go_wp2
        go_ret
        exact ⟨by rw [HZ.out]; rfl, rfl⟩
    · have hki : ¬ (k : Int) < n := by omega
      by_cases hlt2 : n < m
      · have HZ := Lib.hid (cmpW_short HA.out (by omega) (by omega))
        have hnm : (n : Int) < m := by omega
        go_wp2
        go_ret
        exact ⟨by rw [HZ.out]; rfl, rfl⟩
      · have HZ := Lib.hid (cmpW_same HA.out (by omega) (by omega))
        have hnm : ¬ (n : Int) < m := by omega
        go_wp2
        go_ret
        exact ⟨by rw [HZ.out]; rfl, rfl⟩
theorem compareSpellings_any (a b : Option Addr) (n c m c2 : Nat) (xs ys : List (List Int)) (w : World) (hr : RdGr w a n xs) (hr2 : RdGr w b m ys) :
    Calls Tryz.prog 46 #[.slice a n c, .slice b m c2] w fun e w' => e = .returned (.int .i64 (cmpW xs ys)) ∧ w = w' := by
  go_enter Tryz.func46, Tryz.ntmps46
  go_wp2_with (go_at_call 70; refine (slCompareFunc_any _ _ _ _ _ _ _ _ _ hr hr2).mono ?_; rintro e w' ⟨rfl, rfl⟩)
  go_ret
  exact ⟨rfl, rfl⟩

end Go.Proofs.YtdicjpkcgeofjaaGreatDoor

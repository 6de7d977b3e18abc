/-
  Texts of this claim, put together.
-/
import Derived.Test.YtjelmidkkpchkaaGreatDoorM0
import Derived.Test.YtjelmidkkpchkaaGreatDoorQ

section
namespace Go.Proofs.YtjelmidkkpchkaaGreatDoor
open Go.RowKit

theorem lt_step {P : Nat → Prop} {k : Nat} (h : ∀ j, j < k → P j) (hk : P k) : ∀ j, j < k + 1 → P j := fun j hj => by
  by_cases e : j = k
  · rw [e]; exact hk
  · exact h j (by omega)

set_option maxHeartbeats 400000 in
theorem implIsClassTree_any (a : Option Addr) (n c : Nat) (zs : List Int) (w : World) (hr : RdI w a n zs) :
    Calls Tryz.prog 48 #[.slice a n c] w fun e w' => e = .returned (.bool (treeB zs)) ∧ w = w' := by
  have hm := hr.le
  go_enter Tryz.func48, Tryz.ntmps48
  go_wp2
  go_loop [7] (fun i => ∃ k : Nat, k ≤ n ∧ i = .int .i64 k ∧ ∀ j, j < k → okAt zs j = true) (fun i => n - (intOf i).toNat)
  case atStart => exact ⟨0, Nat.zero_le _, rfl, by simp⟩
  case round =>
    obtain ⟨k, hk, rfl, hall⟩ := hrel
    have HA := Lib.hid hall
    clear hall
    by_cases hlt : k < n
    · obtain ⟨b, o, rfl, hbl, hc⟩ := hr.at (by omega)
      have hck := hc k hlt
      clear hc
      by_cases hk0 : k = 0
      · subst hk0
        simp only [Nat.add_zero] at hck
        cases h : (nth zs 0 == -1)
        · have hb : (nth zs 0 != -1) = true := by rw [bne, h]; rfl
          have HH := Lib.hid h
          clear h
          go_wp2
          go_ret
          exact ⟨ret_bool (treeB_bad (by rw [hr.len]; exact hlt) (by simpa [okAt] using HH.out)).symm, rfl⟩
        · have hb : (nth zs 0 != -1) = false := by rw [bne, h]; rfl
          have HH := Lib.hid h
          clear h
          go_wp2
          go_round
          case rel => exact ⟨1, by omega, by go_num, lt_step HA.out (by simpa [okAt] using HH.out)⟩
          case measure => simp [intOf]; omega
      · have hk1 : 0 < k := by omega
        have hkb : ((k : Int) == 0) = false := by simp; omega
        cases h : inB (nth zs k) 0 ((k : Int) - 1)
        all_goals
          have HH := Lib.hid h
          clear h
          go_wp2_with (go_at_call 49; refine (within_any _ _ _ _).mono ?_; rintro e w' ⟨rfl, rfl⟩; rw [HH.out])
        · go_ret
          exact ⟨ret_bool (treeB_bad (by rw [hr.len]; exact hlt) (by rw [okAt, if_neg hk0]; exact HH.out)).symm, rfl⟩
        · go_round
          case rel => exact ⟨k + 1, by omega, by go_num, lt_step HA.out (by rw [okAt, if_neg hk0]; exact HH.out)⟩
          case measure => simp [intOf]; omega
    · obtain rfl : k = n := by omega
      go_wp2_with (first | (go_at_call 49; refine (within_any _ _ _ _).mono ?_; rintro e w' ⟨rfl, rfl⟩) | (go_at_call 50; refine (length_int64_any _ _ _ _ hm).mono ?_; rintro e w' ⟨rfl, rfl⟩))
      go_ret
      exact ⟨ret_bool (by rw [treeB_good (by rw [hr.len]; exact HA.out), hr.len]), rfl⟩

set_option maxHeartbeats 400000 in
theorem specIsClassTree_any (a : Option Addr) (n c : Nat) (zs : List Int) (w : World) (hr : RdI w a n zs) :
    Calls Tryz.prog 54 #[.slice a n c] w fun e w' => e = .returned (.bool (treeB zs)) ∧ w = w' := by
  have hm := hr.le
  go_enter Tryz.func54, Tryz.ntmps54
  go_wp2
  go_loop [3] (fun i => ∃ k : Nat, 1 ≤ k ∧ (k ≤ n ∨ k = 1) ∧ i = .int .i64 k ∧ ∀ j, 1 ≤ j → j < k → okAt zs j = true) (fun i => n - (intOf i).toNat)
  case atStart => exact ⟨1, by omega, by omega, rfl, fun j h1 h2 => by omega⟩
  case round =>
    obtain ⟨k, hk1, hk, rfl, hall⟩ := hrel
    have HA := Lib.hid hall
    clear hall
    by_cases hlt : k < n
    · obtain ⟨b, o, rfl, hbl, hc⟩ := hr.at (by omega)
      have hck := hc k hlt
      have HK := Lib.hid hk
      clear hc hk
      cases h : inB (nth zs k) 0 ((k : Int) - 1)
      all_goals
        have HH := Lib.hid h
        clear h
        go_wp2_with (go_at_call 55; refine (l01In_any _ _ _ _).mono ?_; rintro e w' ⟨rfl, rfl⟩; rw [HH.out])
      · go_ret
        exact ⟨ret_bool (treeB_bad (by rw [hr.len]; exact hlt) (by rw [okAt, if_neg (by omega)]; exact HH.out)).symm, rfl⟩
      · go_round
        case rel =>
          refine ⟨k + 1, by omega, by omega, by go_num, fun j h1 h2 => ?_⟩
          by_cases e : j = k
          · rw [e, okAt, if_neg (by omega)]; exact HH.out
          · exact HA.out j h1 (by omega)
        case measure => simp [intOf]; omega
    · have HK := Lib.hid hk
      clear hk
      cases h : inB (n : Int) 1 20
      · have HH := Lib.hid h
        clear h
        go_wp2_with (first | (go_at_call 55; refine (l01In_any _ _ _ _).mono ?_; rintro e w' ⟨rfl, rfl⟩; rw [HH.out]))
        go_ret
        exact ⟨ret_bool (by rw [treeB, hr.len, HH.out, Bool.and_false]), rfl⟩
      · have HH := Lib.hid h
        have hn1 := (inB_iff.1 h).1
        clear h
        obtain ⟨b, o, rfl, hbl, hc⟩ := hr.at (by omega)
        have hck := hc 0 (by omega)
        simp only [Nat.add_zero] at hck
        clear hc
        have hpos : 0 < n := by omega
        have hfin : treeB zs = (nth zs 0 == -1) := by
          cases h0 : nth zs 0 == -1
          · exact treeB_bad (k := 0) (by rw [hr.len]; exact hpos) (by simpa [okAt] using h0)
          · rw [treeB_good, hr.len, HH.out]
            intro j hj
            rw [hr.len] at hj
            by_cases e : j = 0
            · subst e; simpa [okAt] using h0
            · exact HA.out j (by omega) (by have := HK.out; omega)
        have HF := Lib.hid hfin
        clear hfin
        go_wp2_with (first | (go_at_call 55; refine (l01In_any _ _ _ _).mono ?_; rintro e w' ⟨rfl, rfl⟩; rw [HH.out]))
        go_ret
        exact ⟨ret_bool HF.out.symm, rfl⟩

end Go.Proofs.YtjelmidkkpchkaaGreatDoor
end

section
namespace Go.Proofs.YtjelmidkkpchkaaGreatDoor
open Go.RowKit

set_option maxHeartbeats 400000 in
theorem l10Kinds_any (a : Option Addr) (n c : Nat) (k0 : Nat) (zs : List Int) (w : World) (hr : RdI w a n zs) (ht : Tree zs) (hk : k0 < n) :
    Calls Tryz.prog 58 #[.slice a n c, .int .i64 k0] w fun e w' => ∃ v, e = .returned v ∧ NewI w w' (kinds zs k0) v := by
  have hm := hr.le
  have hlen := hr.len
  have HL := Lib.hid hlen
  have hkl : (kinds zs k0).length ≤ 20 := by
    have := kinds_len ht k0 (by omega)
    have := ht.le
    omega
  have HKL := Lib.hid hkl
  have HT := Lib.hid ht
  clear hlen ht hkl
  go_enter Tryz.func58, Tryz.ntmps58
  go_wp2
  go_loopw [1, 5] (fun u v wr => ∃ (x : Int) (ys : List Int) (a' : Option Addr) (m c' : Nat), u = .int .i64 x ∧ -1 ≤ x ∧ x < n ∧ ys ++ kinds zs x = kinds zs k0 ∧ v = .slice a' m c' ∧ OwnI wr w.heap.size a' m c' ys ∧ Ext w wr) (fun u _ _ => (intOf u + 1).toNat)
  case atStart => exact ⟨k0, [], _, 0, 0, rfl, by omega, by omega, rfl, rfl, ⟨OwnI.lit0 w (Nat.le_refl _), by decide⟩, (Ext.refl _).alloc _⟩
  case round =>
    obtain ⟨x, ys, a', m, c', rfl, hx0, hx1, hys, rfl, ho, hb⟩ := hrel
    have HY := Lib.hid hys
    clear hys
    by_cases hlt : x < 0
    · go_wp2
      go_ret
      refine ⟨_, rfl, _, _, _, rfl, ?_, hb⟩
      have h := HY.out
      rw [kinds_neg _ hlt, List.append_nil] at h
      rw [← h]
      exact ho
    · obtain ⟨k, rfl⟩ := Int.eq_ofNat_of_zero_le (Int.not_lt.1 hlt)
      obtain ⟨b, o, rfl, hbl, hc⟩ := hr.at (by omega)
      have hckr := (Below.cell hb (p := ⟨b, o + k, none⟩) hbl).trans (hc k (by omega))
      clear hc
      have hst := kinds_step HT.out (k := k) (by rw [HL.out]; omega)
      have hbd := HT.out.bounds (k := k) (by rw [HL.out]; omega)
      have hml : m ≤ 20 := by
        have h := congrArg List.length HY.out
        have := ho.rd.len
        have := HKL.out
        simp at h
        omega
      have HS := Lib.hid hst
      clear hst
      go_wp2_with (first | (at_builtin; refine wpList_appI rfl _ _ rfl w.heap.size _ m ys rfl (ho.alloc _) _ 1 _ [(k : Int)] rfl (RdI.new1 _ _ _) (by omega) (hb.le_alloc _) ?_; intro a2 c2 w2 hown hgrow; have hb2 := hb.app ho (Nat.le_refl _) hgrow; have hck2 := (Below.cell hb2 (p := ⟨b, o + k, none⟩) hbl).trans ((Below.cell hb (p := ⟨b, o + k, none⟩) hbl).symm.trans hckr); have HO := Lib.hid hown; clear hown))
      go_roundw
      case rel => exact ⟨_, ys ++ [(k : Int)], _, _, _, rfl, hbd.1, by omega, by rw [List.append_assoc, List.singleton_append, ← HS.out]; exact HY.out, rfl, HO.out, hb2⟩
      case measure => simp [intOf]; omega

set_option maxHeartbeats 400000 in
theorem kindsOf_any (a : Option Addr) (n c : Nat) (k0 : Nat) (zs : List Int) (w : World) (hr : RdI w a n zs) (ht : Tree zs) (hk : k0 < n) :
    Calls Tryz.prog 103 #[.slice a n c, .int .i64 k0] w fun e w' => ∃ v, e = .returned v ∧ NewI w w' (kinds zs k0) v := by
  have hm := hr.le
  have hlen := hr.len
  have HL := Lib.hid hlen
  have hkl : (kinds zs k0).length ≤ 20 := by
    have := kinds_len ht k0 (by omega)
    have := ht.le
    omega
  have HKL := Lib.hid hkl
  have HT := Lib.hid ht
  clear hlen ht hkl
  obtain ⟨b, o, rfl, hbl, hc⟩ := hr.at (by omega)
  have HC := Lib.hid hc
  clear hc
  go_enter Tryz.func103, Tryz.ntmps103
  go_wp2
  go_loopw [1, 5] (fun u v wr => ∃ (k : Nat) (ys : List Int) (a' : Option Addr) (m c' : Nat), u = .int .i64 k ∧ k < n ∧ ys ++ kinds zs (nth zs k) = kinds zs k0 ∧ v = .slice a' m c' ∧ OwnI wr w.heap.size a' m c' ys ∧ Ext w wr) (fun u _ _ => (intOf u + 1).toNat)
  case atStart => exact ⟨k0, [(k0 : Int)], _, 1, 1, rfl, hk, (kinds_step HT.out (by rw [HL.out]; exact hk)).symm, rfl, ⟨OwnI.lit1 w _ (Nat.le_refl _), by decide⟩, (Ext.refl _).alloc _⟩
  case round =>
    obtain ⟨k, ys, a', m, c', rfl, hkn, hys, rfl, ho, hb⟩ := hrel
    have HY := Lib.hid hys
    clear hys
    have hck := (Below.cell hb (p := ⟨b, o + k, none⟩) hbl).trans (HC.out k hkn)
    have hbd := HT.out.bounds (k := k) (by rw [HL.out]; omega)
    by_cases hlt : nth zs k < 0
    · go_wp2
      go_ret
      refine ⟨_, rfl, _, _, _, rfl, ?_, hb⟩
      have h := HY.out
      rw [kinds_neg _ hlt, List.append_nil] at h
      rw [← h]
      exact ho
    · obtain ⟨j, hj⟩ := Int.eq_ofNat_of_zero_le (Int.not_lt.1 hlt)
      rw [hj] at hck hbd
      have hst := kinds_step HT.out (k := j) (by rw [HL.out]; omega)
      have hYj := HY.out
      rw [hj] at hYj
      clear hlt hj HY
      have HS := Lib.hid hst
      have HY := Lib.hid hYj
      clear hst hYj
      have hml : m ≤ 20 := by
        have h := congrArg List.length HY.out
        have := ho.rd.len
        have := HKL.out
        simp at h
        omega
      go_wp2_with (first | (at_builtin; refine wpList_appI rfl _ _ rfl w.heap.size _ m ys rfl (ho.alloc _) _ 1 _ [(j : Int)] rfl (RdI.new1 _ _ _) (by omega) (hb.le_alloc _) ?_; intro a2 c2 w2 hown hgrow; have hb2 := hb.app ho (Nat.le_refl _) hgrow; have HO := Lib.hid hown; clear hown))
      go_roundw
      case rel => exact ⟨j, ys ++ [(j : Int)], _, _, _, rfl, by omega, by rw [List.append_assoc, List.singleton_append, ← HS.out]; exact HY.out, rfl, HO.out, hb2⟩
      case measure => simp [intOf]; omega

end Go.Proofs.YtjelmidkkpchkaaGreatDoor
end

section
namespace Go.Proofs.YtjelmidkkpchkaaGreatDoor
open Go.RowKit

/-- Where the code is not 0 the two functions answer 0 and the code. -/
theorem code_cases (zs l : List Int) : codeL zs l = 0 ∨ codeL zs l ≠ 0 := by omega

/-- What KindsOf answers. -/
def kindsR (zs : List Int) (x : Int) : List Int := if codeL zs [x] = 0 then kinds zs x else []


theorem codeL_two {zs : List Int} {x y : Int} (h : codeL zs [x, y] = 0) : Tree zs ∧ (0 ≤ x ∧ x < zs.length) ∧ (0 ≤ y ∧ y < zs.length) :=
  ⟨codeL_tree h, codeL_in h x (by simp), codeL_in h y (by simp)⟩

theorem RdI.new2 (w : World) (x y : Int) (e : TypeId) : RdI (w.alloc (.cells #[.int .i64 x, .int .i64 y] e)) (some ⟨w.heap.size, 0, none⟩) 2 [x, y] :=
  ⟨rfl, by decide, .inr ⟨_, _, rfl, by simp, fun j u hu => by
    match j with
    | 0 => simp at hu; subst hu; simp [World.cell?_alloc_at]
    | 1 => simp at hu; subst hu; simp [World.cell?_alloc_at]
    | j + 2 => simp at hu⟩⟩

set_option maxHeartbeats 400000 in
theorem isKindOf_any (a : Option Addr) (n c : Nat) (k : Nat) (y : Int) (zs : List Int) (w : World) (hr : RdI w a n zs) (ht : Tree zs) (hk : k < n) :
    Calls Tryz.prog 53 #[.slice a n c, .int .i64 k, .int .i64 y] w fun e w' => e = .returned (.bool (hasI (kinds zs k) y)) ∧ Ext w w' := by
  go_enter Tryz.func53, Tryz.ntmps53
  go_wp2_with (first | (go_at_call 103; refine (kindsOf_any _ _ _ _ _ _ hr ht hk).mono ?_; rintro e w1 ⟨v, rfl, a1, n1, c1, rfl, ho, hb⟩) | (go_at_call 102; refine (slContains_int64_any _ _ _ _ _ _ ho.rd).mono ?_; rintro e w' ⟨rfl, rfl⟩))
  go_ret
  exact ⟨rfl, hb⟩

end Go.Proofs.YtjelmidkkpchkaaGreatDoor
end

/-
  The walks of the functions on a tree of classes: the error of a tree and classes, the kinds of a class.
-/
import Derived.Test.YtdacmbclkpgngaaGreatDoorD
namespace Go.Proofs.YtdacmbclkpgngaaGreatDoor
open Go.RowKit

set_option maxHeartbeats 400000 in
theorem l10Kinds_any (a : Option Addr) (n c : Nat) (k0 : Nat) (zs : List Int) (w : World) (hr : RdI w a n zs) (ht : Tree zs) (hk : k0 < n) :
    Calls Tryz.prog 63 #[.slice a n c, .int .i64 k0] w fun e w' => ∃ v, e = .returned v ∧ NewI w w' (kinds zs k0) v := by
  have hm := hr.le
  have hlen := hr.len
  have HL := Lib.hid hlen
  have hkl : (kinds zs k0).length ≤ 20 := by
    have := kinds_len ht k0 (by omega)
    have := ht.le
    omega
  have HKL := Lib.hid hkl
  have HT := Lib.hid ht
  clear hlen ht hkl
  go_enter Tryz.func63, Tryz.ntmps63
  go_wp2
  go_loopw [1, 5] (fun u v wr => ∃ (x : Int) (ys : List Int) (a' : Option Addr) (m c' : Nat), u = .int .i64 x ∧ -1 ≤ x ∧ x < n ∧ ys ++ kinds zs x = kinds zs k0 ∧ v = .slice a' m c' ∧ OwnI wr w.heap.size a' m c' ys ∧ Ext w wr) (fun u _ _ => (intOf u + 1).toNat)
  case atStart => exact ⟨k0, [], _, 0, 0, rfl, by omega, by omega, rfl, rfl, ⟨OwnI.lit0 w (Nat.le_refl _), by decide⟩, (Ext.refl _).alloc _⟩
  case round =>
    obtain ⟨x, ys, a', m, c', rfl, hx0, hx1, hys, rfl, ho, hb⟩ := hrel
    have HY := Lib.hid hys
    clear hys
    by_cases hlt : x < 0
    · go_wp2
      go_ret
      refine ⟨_, rfl, _, _, _, rfl, ?_, hb⟩
      have h := HY.out
      rw [kinds_neg _ hlt, List.append_nil] at h
      rw [← h]
      exact ho
    · obtain ⟨k, rfl⟩ := Int.eq_ofNat_of_zero_le (Int.not_lt.1 hlt)
      obtain ⟨b, o, rfl, hbl, hc⟩ := hr.at (by omega)
      have hckr := (Below.cell hb (p := ⟨b, o + k, none⟩) hbl).trans (hc k (by omega))
      clear hc
      have hst := kinds_step HT.out (k := k) (by rw [HL.out]; omega)
      have hbd := HT.out.bounds (k := k) (by rw [HL.out]; omega)
      have hml : m ≤ 20 := by
        have h := congrArg List.length HY.out
        have := ho.rd.len
        have := HKL.out
        simp at h
        omega
      have HS := Lib.hid hst
      clear hst
      go_wp2_with (first | (at_builtin; refine wpList_appI rfl _ _ rfl w.heap.size _ m ys rfl (ho.alloc _) _ 1 _ [(k : Int)] rfl (RdI.new1 _ _ _) (by omega) (hb.le_alloc _) ?_; intro a2 c2 w2 hown hgrow; have hb2 := hb.app ho (Nat.le_refl _) hgrow; have hck2 := (Below.cell hb2 (p := ⟨b, o + k, none⟩) hbl).trans ((Below.cell hb (p := ⟨b, o + k, none⟩) hbl).symm.trans hckr); have HO := Lib.hid hown; clear hown))
      go_roundw
      case rel => exact ⟨_, ys ++ [(k : Int)], _, _, _, rfl, hbd.1, by omega, by rw [List.append_assoc, List.singleton_append, ← HS.out]; exact HY.out, rfl, HO.out, hb2⟩
      case measure => simp [intOf]; omega

set_option maxHeartbeats 400000 in
theorem kindsOf_any (a : Option Addr) (n c : Nat) (k0 : Nat) (zs : List Int) (w : World) (hr : RdI w a n zs) (ht : Tree zs) (hk : k0 < n) :
    Calls Tryz.prog 109 #[.slice a n c, .int .i64 k0] w fun e w' => ∃ v, e = .returned v ∧ NewI w w' (kinds zs k0) v := by
  have hm := hr.le
  have hlen := hr.len
  have HL := Lib.hid hlen
  have hkl : (kinds zs k0).length ≤ 20 := by
    have := kinds_len ht k0 (by omega)
    have := ht.le
    omega
  have HKL := Lib.hid hkl
  have HT := Lib.hid ht
  clear hlen ht hkl
  obtain ⟨b, o, rfl, hbl, hc⟩ := hr.at (by omega)
  have HC := Lib.hid hc
  clear hc
  go_enter Tryz.func109, Tryz.ntmps109
  go_wp2
  go_loopw [1, 5] (fun u v wr => ∃ (k : Nat) (ys : List Int) (a' : Option Addr) (m c' : Nat), u = .int .i64 k ∧ k < n ∧ ys ++ kinds zs (nth zs k) = kinds zs k0 ∧ v = .slice a' m c' ∧ OwnI wr w.heap.size a' m c' ys ∧ Ext w wr) (fun u _ _ => (intOf u + 1).toNat)
  case atStart => exact ⟨k0, [(k0 : Int)], _, 1, 1, rfl, hk, (kinds_step HT.out (by rw [HL.out]; exact hk)).symm, rfl, ⟨OwnI.lit1 w _ (Nat.le_refl _), by decide⟩, (Ext.refl _).alloc _⟩
  case round =>
    obtain ⟨k, ys, a', m, c', rfl, hkn, hys, rfl, ho, hb⟩ := hrel
    have HY := Lib.hid hys
    clear hys
    have hck := (Below.cell hb (p := ⟨b, o + k, none⟩) hbl).trans (HC.out k hkn)
    have hbd := HT.out.bounds (k := k) (by rw [HL.out]; omega)
    by_cases hlt : nth zs k < 0
    · go_wp2
      go_ret
      refine ⟨_, rfl, _, _, _, rfl, ?_, hb⟩
      have h := HY.out
      rw [kinds_neg _ hlt, List.append_nil] at h
      rw [← h]
      exact ho
    · obtain ⟨j, hj⟩ := Int.eq_ofNat_of_zero_le (Int.not_lt.1 hlt)
      rw [hj] at hck hbd
      have hst := kinds_step HT.out (k := j) (by rw [HL.out]; omega)
      have hYj := HY.out
      rw [hj] at hYj
      clear hlt hj HY
      have HS := Lib.hid hst
      have HY := Lib.hid hYj
      clear hst hYj
      have hml : m ≤ 20 := by
        have h := congrArg List.length HY.out
        have := ho.rd.len
        have := HKL.out
        simp at h
        omega
      go_wp2_with (first | (at_builtin; refine wpList_appI rfl _ _ rfl w.heap.size _ m ys rfl (ho.alloc _) _ 1 _ [(j : Int)] rfl (RdI.new1 _ _ _) (by omega) (hb.le_alloc _) ?_; intro a2 c2 w2 hown hgrow; have hb2 := hb.app ho (Nat.le_refl _) hgrow; have HO := Lib.hid hown; clear hown))
      go_roundw
      case rel => exact ⟨j, ys ++ [(j : Int)], _, _, _, rfl, by omega, by rw [List.append_assoc, List.singleton_append, ← HS.out]; exact HY.out, rfl, HO.out, hb2⟩
      case measure => simp [intOf]; omega

end Go.Proofs.YtdacmbclkpgngaaGreatDoor

/-
  Spellings without the letters that are ignored.
-/
import Derived.Test.YtdicjpkcgeofjaaGreatDoorSHD
namespace Go.Proofs.YtdicjpkcgeofjaaGreatDoor
open Go.RowKit

set_option maxRecDepth 100000 in
set_option maxHeartbeats 2000000 in
theorem less_any (a1 : Option Addr) (n1 c1 : Nat) (a2 : Option Addr) (m c2 : Nat) (a : Option Addr) (n c : Nat) (ig : List Int) (zss : List (List Int)) (w : World) (hr : RdGr w a n zss) (hr2 : RdI w a2 m ig) :
    Calls Tryz.prog 47 #[.agg #[.slice a1 n1 c1, .slice a2 m c2], .slice a n c] w (RetE w (zss.map (dropI ig))) := by
  have hm := hr.le
  have hln := hr.len
  have xb := (Ext.refl w).alloc (.cells #[.slice a1 n1 c1, .slice a2 m c2] 46)
  have hX : HoldsX (w.alloc (.cells #[.slice a1 n1 c1, .slice a2 m c2] 46)) w.heap.size (.slice a1 n1 c1) (.slice a2 m c2) := ⟨by simp, by simp [World.cell?_alloc_at], by simp [World.cell?_alloc_at]⟩
  have HB := Lib.hid (And.intro xb (And.intro hX (And.intro (hr.ext xb) (hr2.ext xb))))
  clear xb hX
  go_enter Tryz.func47, Tryz.ntmps47
  go_wp2
  generalize hwb : w.alloc (.cells #[.slice a1 n1 c1, .slice a2 m c2] 46) = wb at HB ⊢
  clear hwb
  go_loopw [5, 10] (fun v i wr => ∃ (k : Nat) (gs : List Gr) (a3 : Option Addr) (c3 : Nat), k ≤ n ∧ i = .int .i64 k ∧ v = .slice a3 k c3 ∧ gs.length = k ∧ gzs gs = (zss.take k).map (dropI ig) ∧ OwnZ wr wb.heap.size a3 k c3 gs ∧ Ext wb wr) (fun _ i _ => n - (intOf i).toNat)
  case atStart => exact ⟨0, [], none, 0, Nat.zero_le _, rfl, rfl, rfl, rfl, OwnZ.isNil _ _, Ext.refl _⟩
  case round =>
    obtain ⟨k, gs, a3, c3, hk, rfl, rfl, hgl, hgz, ho, hx⟩ := hrel
    have HA := Lib.hid hgz
    clear hgz
    by_cases hlt : k < n
    · obtain ⟨b, o, rfl, hbl, hc⟩ := (HB.out.2.2.1.ext hx).at (by omega)
      obtain ⟨pa, pc, hck, hp⟩ := rdgr_at hc (k := k) (by omega)
      have hki : (k : Int) < n := by omega
      clear hc
      go_wp2_with fail
      refine (slClone_int64_any _ _ _ _ _ hp).mono ?_
      rintro e w2 ⟨v, rfl, a4, n4, c4, rfl, o4, x4⟩
      have hstep : (zss.take (k + 1)).map (dropI ig) = (zss.take k).map (dropI ig) ++ [dropI ig (nthW zss k)] := by
        rw [List.take_succ_eq_append_getElem (by omega), List.map_append, ← nthW_eq (by omega)]; rfl
      have HS := Lib.hid hstep
      clear hstep
      have hxE := hx.trans x4
      have hw2 := hx.size
      go_wp2_with fail
      refine (deleteIgn_any _ _ _ _ _ _ _ _ _ _ _ _ wr o4 x4 (Nat.le_refl _) (HB.out.2.1.ext hx) (HB.out.2.2.2.ext hx)).mono ?_
      rintro e w5 ⟨rfl, o5, x5⟩
      have hoE := ho.ext x5
      have hx5 := hx.trans x5
      have o5' := o5.mono hx.size
      have hwr := hx5.size
      clear ho hx o4 x4 o5 x5 hck hp hxE hw2
      go_wp2_with (first | (at_builtin; refine wpList_appG layGr rfl _ _ 62 25 rfl Tryz.underlying62 (.slice none 0 0) 24 Tryz.info_sliceI rfl (by decide) wb.heap.size _ k _ gs rfl (hoE.1.ext ((Ext.refl _).alloc _)) _ 1 _ [⟨a4, c4, dropI ig (nthW zss k)⟩] rfl (RdG.new1 layGr _ _ _ rfl _) (by omega) (by simp; omega) ?_; intro a6 c6 w6 hown hgrow; have HQ := Lib.hid (And.intro (OwnZ.snoc (hoE.ext ((Ext.refl _).alloc _)) (o5'.ext ((Ext.refl _).alloc _)) hown hgrow) (hx5.appG hoE.1 (Nat.le_refl _) hgrow)); clear hown hgrow))
      go_roundw
      case rel => exact ⟨k + 1, gs ++ [⟨a4, c4, dropI ig (nthW zss k)⟩], a6, c6, by omega, by go_num, rfl, by simp [hgl], by rw [HS.out, ← HA.out]; simp [gzs], HQ.out.1, HQ.out.2⟩
      case measure => simp [intOf]; omega
    · obtain rfl : k = n := by omega
      have hz : gzs gs = zss.map (dropI ig) := by rw [HA.out, List.take_of_length_le (by omega)]
      have hlz : (zss.map (dropI ig)).length = k := by rw [← hz, gzs_len, hgl]
      have HZ := Lib.hid (And.intro hz hlz)
      clear hz hlz
      go_wp2
      go_ret
      refine ⟨a3, c3, by rw [HZ.out.2]; rfl, ?_, HB.out.1.trans hx⟩
      rw [HZ.out.2, ← HZ.out.1]
      exact ho.rd

end Go.Proofs.YtdicjpkcgeofjaaGreatDoor

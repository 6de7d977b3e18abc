/-
  The reference's draws of lists of names.
-/
import Derived.Test.YteencdgaldhanaaGreatDoorDN2
namespace Go.Proofs.YteencdgaldhanaaGreatDoor
open Go.RowKit

theorem RdG.drew {α : Type} {L : Lay α} {w w' : World} {g n : Nat} {a : Option Addr} {xs : List α} (h : RdG L w a n xs) (hd : Drew w g w') (ha : ∀ ad, a = some ad → ad.block ≠ g) : RdG L w' a n xs := by
  refine ⟨h.1, h.2.1, ?_⟩
  rcases h.2.2 with e | ⟨b, o, rfl, hb, hc⟩
  · exact .inl e
  · exact .inr ⟨b, o, rfl, Nat.lt_of_lt_of_le hb hd.size, fun j u hu => by rw [hd.cell (p := ⟨b, o + j, none⟩) hb (ha ⟨b, o, none⟩ rfl)]; exact hc j u hu⟩
/-- Names as the draws make them. -/
def shortN (xs : List NameV) : Prop := ∀ x ∈ xs, x.text.size ≤ 217 ∧ x.lang.size ≤ 17

set_option maxRecDepth 100000 in
set_option maxHeartbeats 1000000 in
theorem l09Tongue_any (g : Nat) (a : Option Addr) (n c : Nat) (xs : List NameV) (w : World) (hs : Src w g) (hr : RdName w a n xs) (ha : ∀ ad, a = some ad → ad.block ≠ g) (hx : shortN xs) :
    Calls Tryz.prog 64 #[.pointer (some ⟨g, 0, none⟩), .slice a n c] w (DrewS 17 w g) := by
  have hm := hr.le
  have hln := hr.len
  have HS := Lib.hid hs
  have HX := Lib.hid hx
  clear hs hx
  by_cases hn : 0 < n
  · have hni : (0 : Int) < n := by omega
    obtain ⟨b, o, rfl, hb, hA⟩ := hr.at hn
    have hbg : b ≠ g := ha _ rfl
    have HA := Lib.hid hA
    clear hA hr
    go_enter Tryz.func64, Tryz.ntmps64
    go_wp2_with fail
    refine (l01Next_any _ _ _ HS.out (by omega)).mono ?_
    rintro e w1 ⟨y, rfl, hy0, hy1, hd⟩
    have H1 := Lib.hid hd.drew
    clear hd
    by_cases hy : 0 < y
    · go_wp2_with fail
      refine (l01Next_any _ _ _ H1.out.1 (by omega)).mono ?_
      rintro e w2 ⟨z, rfl, hz0, hz1, hd⟩
      have H2 := Lib.hid (H1.out.trans hd.drew)
      clear hd
      obtain ⟨k, rfl⟩ := Int.eq_ofNat_of_zero_le hz0
      have hk : k < n := by omega
      have hki : (k : Int) < n := by omega
      have hc := (H2.out.cell (p := ⟨b, o + k * 5 + 1, none⟩) hb hbg).trans (HA.out k hk).2.1
      have hz := (HX.out (nthName xs k) (nthName_mem (by omega))).2
      have HZ := Lib.hid hz
      clear hz hz1
      go_wp2
      go_ret
      exact ⟨_, rfl, HZ.out, H2.out⟩
    · have hg1 := H1.out.1.lt
      go_wp2_with fail
      refine (l01Next_any _ _ _ (H1.out.1.ext ((Ext.refl _).alloc _)) (by omega)).mono ?_
      rintro e w2 ⟨z, rfl, hz0, hz1, hd⟩
      obtain ⟨j, rfl, hj⟩ := pick_nat 4 rfl (by decide) hz0 hz1
      have hji : (j : Int) < 4 := by omega
      obtain ⟨u, hc, hu⟩ := Lits.new (n := 4) hd.drew hg1 (by kernel_rfl) rfl j hj
      have H2 := Lib.hid (H1.out.trans (Drew.pre ((Ext.refl _).alloc _) hd.drew))
      clear hd hz1
      go_wp2
      go_ret
      exact ⟨_, rfl, hu, H2.out⟩
  · obtain rfl : n = 0 := by omega
    have hg1 := HS.out.lt
    go_enter Tryz.func64, Tryz.ntmps64
    go_wp2_with fail
    refine (l01Next_any _ _ _ (HS.out.ext ((Ext.refl _).alloc _)) (by omega)).mono ?_
    rintro e w2 ⟨z, rfl, hz0, hz1, hd⟩
    obtain ⟨j, rfl, hj⟩ := pick_nat 4 rfl (by decide) hz0 hz1
    have hji : (j : Int) < 4 := by omega
    obtain ⟨u, hc, hu⟩ := Lits.new (n := 4) hd.drew hg1 (by kernel_rfl) rfl j hj
    have H2 := Lib.hid (Drew.pre ((Ext.refl _).alloc _) hd.drew)
    clear hd hz1
    go_wp2
    go_ret
    exact ⟨_, rfl, hu, H2.out⟩

end Go.Proofs.YteencdgaldhanaaGreatDoor

/-
  The reference's draws of trees and classes, as the card seats want them.
-/
import Derived.Test.YtjelmidkkpchkaaGreatDoorDT
import Derived.Deep.RegionWith
namespace Go.Proofs.YtjelmidkkpchkaaGreatDoor
open Go.RowKit

theorem OwnI.cut0 {w : World} {B n c : Nat} {a : Option Addr} {zs : List Int} (h : OwnI w B a n c zs) : ∃ c', OwnI w B a 0 c [] ∨ (a = none ∧ OwnI w B none 0 c' []) := by
  rcases own_addr h.1 with rfl | ⟨g, rfl⟩
  · exact ⟨0, .inr ⟨rfl, OwnI.isNil _ _, by decide⟩⟩
  · refine ⟨0, .inl ⟨⟨by simp, ?_⟩, by decide⟩⟩
    rcases h.1.2 with ⟨h', _⟩ | ⟨g', cap, cur, hv, hb, hg, h1, h2, h3, h4⟩
    · simp at h'
    · simp only [Value.slice.injEq, Option.some.injEq, Addr.mk.injEq, and_true, true_and] at hv
      obtain ⟨rfl, rfl⟩ := hv
      exact .inr ⟨g, c, cur, rfl, hb, hg, Nat.zero_le _, h2, h3, by simp⟩

/-- The length in a slot. -/
def lenOf : Value → Nat | .slice _ n _ => n | _ => 0

/-- What a draw of a list leaves. -/
def DrewI (w : World) (g : Nat) (v : Value) (w' : World) : Prop := ∃ a n c zs, v = .slice a n c ∧ n ≤ 100 ∧ OwnI w' w.heap.size a n c zs ∧ Src w' g ∧ w.grownBy w' (some g)

set_option maxHeartbeats 1000000 in
theorem l10Draw_any (g : Nat) (w : World) (hs : Src w g) :
    Calls Tryz.prog 46 #[.pointer (some ⟨g, 0, none⟩)] w fun e w' => ∃ v, e = .returned v ∧ DrewI w g v w' := by
  have hg := hs.lt
  have h0 : OwnI (w.alloc (.cells #[.int .i64 (-1)] 2)) w.heap.size (some ⟨w.heap.size, 0, none⟩) 1 1 [-1] := ⟨OwnI.lit1 w (-1) (Nat.le_refl _), by decide⟩
  have hs0 := hs.ext ((Ext.refl w).alloc (.cells #[.int .i64 (-1)] 2))
  have HW := Lib.hid (And.intro h0 hs0)
  clear h0 hs0
  go_enter Tryz.func46, Tryz.ntmps46
  go_wp2_with fail
  refine (l01Next_any _ _ _ HW.out.2 (by omega)).mono ?_
  rintro e w1 ⟨x, rfl, hx0, hx1, hd⟩
  have H1 := Lib.hid (And.intro (HW.out.1.drawn hd.grown hg) (And.intro hd.1 (grown_trans (grown_ext ((Ext.refl w).alloc _) (some g)) hd.grown)))
  clear hd
  go_wp2_with fail
  go_loopw [3, 4] (fun v i wr => ∃ (a : Option Addr) (m c : Nat) (zs : List Int) (k : Nat), v = .slice a m c ∧ i = .int .i64 k ∧ m + k ≤ 9 ∧ 1 ≤ m ∧ OwnI wr w.heap.size a m c zs ∧ Src wr g ∧ w.grownBy wr (some g)) (fun _ i _ => (intOf i).toNat)
  case atStart =>
    obtain ⟨k, rfl⟩ := Int.eq_ofNat_of_zero_le hx0
    exact ⟨_, 1, 1, _, k, rfl, rfl, by omega, by decide, H1.out.1, H1.out.2.1, H1.out.2.2⟩
  case round =>
    obtain ⟨a, m, c, zs, k, rfl, rfl, hmk, hm1, ho, hsr, hgr⟩ := hrel
    by_cases hk : 0 < k
    · go_wp2_with fail
      refine (l01Next_any _ _ _ hsr (by omega)).mono ?_
      rintro e w2 ⟨y, rfl, hy0, hy1, hd⟩
      have ho2 := ho.drawn hd.grown hg
      have hsr2 := hd.1
      have hgr2 := grown_trans hgr hd.grown
      clear hd ho hsr hgr
      go_wp2_with (first | (at_builtin; refine wpList_appI rfl _ _ rfl w.heap.size _ m zs rfl (ho2.alloc _) _ 1 _ [y] rfl (RdI.new1 _ _ _) (by omega) (by have := hgr2.size; simp; omega) ?_; intro a2 c2 w3 hown hgrow; have HO := Lib.hid (And.intro hown (draw_grow ho2.1 hsr2 hg (Nat.le_refl _) hgr2 hgrow)); clear hown hgrow))
      go_roundw
      case rel =>
        exact ⟨_, _, _, _, k - 1, rfl, by rw [show ((k : Int) - 1) = ((k - 1 : Nat) : Int) from by omega], by omega, by omega, HO.out.1, HO.out.2.1, HO.out.2.2⟩
      case measure => simp [intOf]; omega
    · go_wp2_with fail
      refine (l01Next_any _ _ _ hsr (by omega)).mono ?_
      rintro e w2 ⟨y, rfl, hy0, hy1, hd⟩
      have ho2 := ho.drawn hd.grown hg
      have hsr2 := hd.1
      have hgr2 := grown_trans hgr hd.grown
      have hm9 : m ≤ 9 := by omega
      clear hd ho hsr hgr hmk hk
      obtain ⟨g2, rfl⟩ : ∃ g2, a = some ⟨g2, 0, none⟩ := by
        rcases own_addr ho2.1 with rfl | h
        · have := ho2.rd.isNone.1; omega
        · exact h
      have hg2 : g < g2 := Nat.lt_of_lt_of_le hg (ho2.1.lt _ rfl).1
      have hB2 := (ho2.1.lt _ rfl).1
      by_cases hy : y = 0
      · subst hy
        have hr3 : RdI (w2.alloc (.cells #[.int .i64 ((m : Int) - 1), .int .i64 (-1), .int .i64 30] 2)) (some ⟨w2.heap.size, 0, none⟩) 3 [(m : Int) - 1, -1, 30] :=
          ⟨rfl, by decide, own_rd (n := 3) (c := 3) (B := 0) (e := 2) (sz := 1) (by simpa using World.ownsRow_lit w2 #[.int .i64 ((m : Int) - 1), .int .i64 (-1), .int .i64 30] 3 (Nat.zero_le _) (by decide) rfl)⟩
        have HA := Lib.hid (And.intro hr3 (And.intro (hsr2.ext ((Ext.refl w2).alloc (.cells #[.int .i64 ((m : Int) - 1), .int .i64 (-1), .int .i64 30] 2))) (And.intro (ho2.ext ((Ext.refl w2).alloc (.cells #[.int .i64 ((m : Int) - 1), .int .i64 (-1), .int .i64 30] 2))) (grown_trans hgr2 (grown_ext ((Ext.refl w2).alloc (.cells #[.int .i64 ((m : Int) - 1), .int .i64 (-1), .int .i64 30] 2)) (some g))))))
        have hsz := hsr2.lt
        clear hr3 hsr2 ho2 hgr2
        go_wp2_with fail
        refine (l01Pick_any _ _ _ _ _ _ HA.out.2.1 HA.out.1 (by decide) (by rintro ad e; cases e; exact Nat.ne_of_gt hsz)).mono ?_
        rintro e w3 ⟨z, rfl, hz, hd⟩
        have ho3 := HA.out.2.2.1.drawn hd.grown hg
        obtain ⟨g', e', hg', ⟨u, hu⟩, hf, hst⟩ := OwnI.store2 ho3 (k := m - 1) (by omega) z
        cases e'
        have hsr3 := hd.1
        have hgr3 := grown_trans HA.out.2.2.2 hd.grown
        have hst2 : Src (w3.setCell ⟨g2, m - 1, none⟩ (.int .i64 z)) g := hsr3.grown (r := some g2) ⟨rfl, rfl, rfl, by simp [World.setCell], fun k _ hk => Below.heap_setCell _ _ _ _ (fun e => hk (by rw [e]))⟩ (by rintro k e; cases e; exact hg2)
        have hgr4 : w.grownBy (w3.setCell ⟨g2, m - 1, none⟩ (.int .i64 z)) (some g) := ⟨hgr3.os, hgr3.tape, hgr3.output, by simpa [World.setCell] using hgr3.size, fun k hk hr => by
          rw [Below.heap_setCell _ _ _ _ (show k ≠ g2 by omega)]; exact hgr3.block k hk hr⟩
        have HO := Lib.hid (And.intro hst (And.intro hst2 hgr4))
        have hm0 : ((m : Int) - 1).toNat = m - 1 := by omega
        have hlt : (m : Int) - 1 < m := by omega
        clear hst hst2 hgr4 hgr3 hsr3 ho3 hd
        go_wp2
        go_ret
        exact ⟨_, rfl, _, _, _, _, rfl, by omega, HO.out.1, HO.out.2.1, HO.out.2.2⟩
      · by_cases hy1 : y = 1
        · subst hy1
          obtain ⟨c', hcut | ⟨h, _⟩⟩ := ho2.cut0
          · have HO := Lib.hid (And.intro hcut (And.intro hsr2 hgr2))
            clear hcut ho2 hsr2 hgr2
            go_wp2
            go_ret
            exact ⟨_, rfl, _, _, _, _, rfl, by omega, HO.out.1, HO.out.2.1, HO.out.2.2⟩
          · cases h
        · have b0 : (y == 0) = false := by simpa using hy
          have b1 : (y == 1) = false := by simpa using hy1
          cases b2 : (y == 2)
          · have HO := Lib.hid (And.intro ho2 (And.intro hsr2 hgr2))
            clear ho2 hsr2 hgr2 hy hy1
            go_wp2
            go_ret
            exact ⟨_, rfl, _, _, _, _, rfl, by omega, HO.out.1, HO.out.2.1, HO.out.2.2⟩
          · have HO := Lib.hid (And.intro ho2 (And.intro hsr2 hgr2))
            clear ho2 hsr2 hgr2 hy hy1
            go_wp2
            go_loopw [3] (fun v wr => ∃ (a : Option Addr) (m c : Nat) (zs : List Int), v = .slice a m c ∧ m ≤ 21 ∧ OwnI wr w.heap.size a m c zs ∧ Src wr g ∧ w.grownBy wr (some g)) (fun v _ => 22 - lenOf v)
            case atStart => exact ⟨_, _, _, _, rfl, by omega, HO.out.1, HO.out.2.1, HO.out.2.2⟩
            case round =>
              obtain ⟨a, m', c, zs, rfl, hm', ho, hsr, hgr⟩ := hrel
              go_wp2_with fail
              refine (l01Next_any _ _ _ hsr (by omega)).mono ?_
              rintro e w4 ⟨z, rfl, hz0, hz1, hd⟩
              have ho4 := ho.drawn hd.grown hg
              have hsr4 := hd.1
              have hgr4 := grown_trans hgr hd.grown
              have hz2 : z ≤ 1 := by omega
              clear hd ho hsr hgr HO hz1
              by_cases hlt : (m' : Int) < 20 + z
              · go_wp2_with (first | (at_builtin; refine wpList_appI rfl _ _ rfl w.heap.size _ m' zs rfl (ho4.alloc _) _ 1 _ [0] rfl (RdI.new1 _ _ _) (by omega) (by have := hgr4.size; simp; omega) ?_; intro a2 c2 w3 hown hgrow; have HO := Lib.hid (And.intro hown (draw_grow ho4.1 hsr4 hg (Nat.le_refl _) hgr4 hgrow)); clear hown hgrow))
                go_roundw
                case rel => exact ⟨_, _, _, _, rfl, by omega, HO.out.1, HO.out.2.1, HO.out.2.2⟩
                case measure => simp [lenOf]; omega
              · have HO := Lib.hid (And.intro ho4 (And.intro hsr4 hgr4))
                clear ho4 hsr4 hgr4
                go_wp2
                go_ret
                exact ⟨_, rfl, _, _, _, _, rfl, by omega, HO.out.1, HO.out.2.1, HO.out.2.2⟩

set_option maxHeartbeats 400000 in
theorem l10Class_any (g : Nat) (a : Option Addr) (n c : Nat) (w : World) (hs : Src w g) (hn : n ≤ 100) :
    Calls Tryz.prog 47 #[.pointer (some ⟨g, 0, none⟩), .slice a n c] w fun e w' => ∃ x : Int, e = .returned (.int .i64 x) ∧ Drawn w g w' := by
  go_enter Tryz.func47, Tryz.ntmps47
  go_wp2_with fail
  refine (l01Next_any _ _ _ hs (by omega)).mono ?_
  rintro e w1 ⟨x, rfl, hx0, hx1, hd1⟩
  have x1 : x < 12 := by omega
  clear hx1
  go_wp2_with fail
  refine (l01Next_any _ _ _ hd1.1 (by omega)).mono ?_
  rintro e w2 ⟨y, rfl, hy0, hy1, hd2⟩
  have y1 : y < 200 := by omega
  clear hy1
  go_wp2_with fail
  refine (l01Next_any _ _ _ hd2.1 (by omega)).mono ?_
  rintro e w3 ⟨z, rfl, hz0, hz1, hd3⟩
  have z1 : z < 12 := by omega
  clear hz1
  have HD := Lib.hid (show Drawn w g w3 from ⟨hd3.1, (hd1.2.trans hd2.2).trans hd3.2⟩)
  clear hd1 hd2 hd3
  go_wp2
  go_ret
  exact ⟨_, rfl, HD.out⟩

end Go.Proofs.YtjelmidkkpchkaaGreatDoor

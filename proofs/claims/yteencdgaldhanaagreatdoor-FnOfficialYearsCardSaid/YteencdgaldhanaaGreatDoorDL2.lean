/-
  The reference's draw of a year, mostly one of a list of names.
-/
import Derived.Test.YteencdgaldhanaaGreatDoorDL
import Derived.Test.YteencdgaldhanaaGreatDoorM0
namespace Go.Proofs.YteencdgaldhanaaGreatDoor
open Go.RowKit

def DrewY (w : World) (g : Nat) (e : Ending) (w' : World) : Prop := ∃ y : Int, e = .returned (.int .i64 y) ∧ Drew w g w'

set_option maxRecDepth 100000 in
set_option maxHeartbeats 2000000 in
theorem l09Year_any (g : Nat) (a : Option Addr) (n c : Nat) (xs : List NameV) (w : World) (hs : Src w g) (hr : RdName w a n xs) (ha : ∀ ad, a = some ad → ad.block ≠ g) :
    Calls Tryz.prog 60 #[.pointer (some ⟨g, 0, none⟩), .slice a n c] w (DrewY w g) := by
  have hm := hr.le
  have hln := hr.len
  have HS := Lib.hid hs
  clear hs
  by_cases hn : 0 < n
  · have hni : (0 : Int) < n := by omega
    obtain ⟨b, o, rfl, hb, hA⟩ := hr.at hn
    have hbg : b ≠ g := ha _ rfl
    have HA := Lib.hid hA
    clear hA hr
    go_enter Tryz.func60, Tryz.ntmps60
    go_wp2_with fail
    refine (l01Next_any _ _ _ HS.out (by omega)).mono ?_
    rintro e w1 ⟨y, rfl, hy0, hy1, hd⟩
    have H1 := Lib.hid hd.drew
    clear hd
    by_cases hy : 0 < y
    · go_wp2_with fail
      refine (l01Next_any _ _ _ H1.out.1 (by omega)).mono ?_
      rintro e w2 ⟨z, rfl, hz0, hz1, hd⟩
      have H2 := Lib.hid (H1.out.trans hd.drew)
      clear hd
      obtain ⟨k, rfl⟩ := Int.eq_ofNat_of_zero_le hz0
      have hk : k < n := by omega
      have hki : (k : Int) < n := by omega
      have hc3 := (H2.out.cell (p := ⟨b, o + k * 5 + 3, none⟩) hb hbg).trans (HA.out k hk).2.2.2.1
      have hc4 := (H2.out.cell (p := ⟨b, o + k * 5 + 4, none⟩) hb hbg).trans (HA.out k hk).2.2.2.2
      have hc4b : w2.cell? ⟨b, o + k * 5 + 3 + 1, none⟩ = some (.int .i64 (nthName xs k).to_) := hc4
      have hg2 := H2.out.1.lt
      clear hz1 hz0 hy0 hy1
      go_wp2
      refine wp_region_held_drew (S := Drew (w2.alloc (.cells #[.int .i64 (nthName xs k).from_, .int .i64 (nthName xs k).to_] 60)) g) (by kernel_rfl) (Drew.of_ext (H2.out.1.ext ((Ext.refl _).alloc _)) (Ext.refl _).drew) (fun hHeld => ?_)
      generalize hwd : World.drew _ = wd at hHeld ⊢
      clear hwd
      refine takeYesH 0 22 ?v1 rfl rfl (by kernel_rfl) (by kernel_rfl) (by kernel_rfl) (fun _ _ _ _ h => h) (by kernel_rfl) hHeld ?y1 ?r1
      case y1 => intro wq hq; go_simp; first | done | with_reducible rfl
      simp only [Act.put, List.setIfInBounds_toArray, List.set_cons_zero, List.set_cons_succ]
      refine takeYesH 1 23 ?v2 rfl rfl (by kernel_rfl) (by kernel_rfl) (by kernel_rfl) (fun _ _ _ _ h => h) (by kernel_rfl) hHeld ?y2 ?r2
      case y2 => intro wq hq; go_simp; first | done | with_reducible rfl
      simp only [Act.put, List.setIfInBounds_toArray, List.set_cons_zero, List.set_cons_succ]
      refine takeYesH 2 24 ?v3 rfl rfl (by kernel_rfl) (by kernel_rfl) (by kernel_rfl) (fun _ _ _ _ h => h) (by kernel_rfl) hHeld ?y3 ?r3
      case y3 =>
        intro wq hq
        have hbx := (Box.new w2 #[.int .i64 (nthName xs k).from_, .int .i64 (nthName xs k).to_] 60).drew hq (Nat.ne_of_gt hg2)
        have z0 : _ = some (Value.int .i64 (nthName xs k).from_) := hbx.cell 0
        have z1 : _ = some (Value.int .i64 (nthName xs k).to_) := hbx.cell 1
        go_simp
        first | done | with_reducible rfl
      simp only [Act.put, List.setIfInBounds_toArray, List.set_cons_zero, List.set_cons_succ]
      refine takeYesH 3 25 ?v4 rfl rfl (by kernel_rfl) (by kernel_rfl) (by kernel_rfl) (fun _ _ _ _ h => h) (by kernel_rfl) hHeld ?y4 ?r4
      case y4 => intro wq hq; go_simp; first | done | with_reducible rfl
      simp only [Act.put, List.setIfInBounds_toArray, List.set_cons_zero, List.set_cons_succ]
      refine takeYesH 4 26 ?v5 rfl rfl (by kernel_rfl) (by kernel_rfl) (by kernel_rfl) (fun _ _ _ _ h => h) (by kernel_rfl) hHeld ?y5 ?r5
      case y5 =>
        intro wq hq
        have hbx := (Box.new w2 #[.int .i64 (nthName xs k).from_, .int .i64 (nthName xs k).to_] 60).drew hq (Nat.ne_of_gt hg2)
        have z0 : _ = some (Value.int .i64 (nthName xs k).from_) := hbx.cell 0
        have z1 : _ = some (Value.int .i64 (nthName xs k).to_) := hbx.cell 1
        go_simp
        first | done | with_reducible rfl
      simp only [Act.put, List.setIfInBounds_toArray, List.set_cons_zero, List.set_cons_succ]
      refine takeYesH 5 27 ?v6 rfl rfl (by kernel_rfl) (by kernel_rfl) (by kernel_rfl) (fun _ _ _ _ h => h) (by kernel_rfl) hHeld ?y6 ?r6
      case y6 => intro wq hq; go_simp; first | done | with_reducible rfl
      simp only [Act.put, List.setIfInBounds_toArray, List.set_cons_zero, List.set_cons_succ]
      refine takeYesH 6 28 ?v7 rfl rfl (by kernel_rfl) (by kernel_rfl) (by kernel_rfl) (fun _ _ _ _ h => h) (by kernel_rfl) hHeld ?y7 ?r7
      case y7 =>
        intro wq hq
        have hbx := (Box.new w2 #[.int .i64 (nthName xs k).from_, .int .i64 (nthName xs k).to_] 60).drew hq (Nat.ne_of_gt hg2)
        have z0 : _ = some (Value.int .i64 (nthName xs k).from_) := hbx.cell 0
        have z1 : _ = some (Value.int .i64 (nthName xs k).to_) := hbx.cell 1
        go_simp
        first | done | with_reducible rfl
      simp only [Act.put, List.setIfInBounds_toArray, List.set_cons_zero, List.set_cons_succ]
      refine takeYesH 7 29 ?v8 rfl rfl (by kernel_rfl) (by kernel_rfl) (by kernel_rfl) (fun _ _ _ _ h => h) (by kernel_rfl) hHeld ?y8 ?r8
      case y8 => intro wq hq; go_simp; first | done | with_reducible rfl
      simp only [Act.put, List.setIfInBounds_toArray, List.set_cons_zero, List.set_cons_succ]
      refine takeYesH 10 32 ?v9 rfl rfl (by kernel_rfl) (by kernel_rfl) (by kernel_rfl) (fun _ _ _ _ h => h) (by kernel_rfl) hHeld ?y9 ?r9
      case y9 => intro wq hq; go_simp; first | done | with_reducible rfl
      simp only [Act.put, List.setIfInBounds_toArray, List.set_cons_zero, List.set_cons_succ]
      refine takeYesH 11 33 ?v10 rfl rfl (by kernel_rfl) (by kernel_rfl) (by kernel_rfl) (fun _ _ _ _ h => h) (by kernel_rfl) hHeld ?y10 ?r10
      case y10 =>
        intro wq hq
        have hbx := (Box.new w2 #[.int .i64 (nthName xs k).from_, .int .i64 (nthName xs k).to_] 60).drew hq (Nat.ne_of_gt hg2)
        have z0 : _ = some (Value.int .i64 (nthName xs k).from_) := hbx.cell 0
        have z1 : _ = some (Value.int .i64 (nthName xs k).to_) := hbx.cell 1
        go_simp
        first | done | with_reducible rfl
      simp only [Act.put, List.setIfInBounds_toArray, List.set_cons_zero, List.set_cons_succ]
      refine takeYesH 12 34 ?v11 rfl rfl (by kernel_rfl) (by kernel_rfl) (by kernel_rfl) (fun _ _ _ _ h => h) (by kernel_rfl) hHeld ?y11 ?r11
      case y11 => intro wq hq; go_simp; first | done | with_reducible rfl
      simp only [Act.put, List.setIfInBounds_toArray, List.set_cons_zero, List.set_cons_succ]
      refine takeYesH 13 35 ?v12 rfl rfl (by kernel_rfl) (by kernel_rfl) (by kernel_rfl) (fun _ _ _ _ h => h) (by kernel_rfl) hHeld ?y12 ?r12
      case y12 => intro wq hq; go_simp; first | done | with_reducible rfl
      simp only [Act.put, List.setIfInBounds_toArray, List.set_cons_zero, List.set_cons_succ]
      refine takeYesH 14 36 ?v13 rfl rfl (by kernel_rfl) (by kernel_rfl) (by kernel_rfl) (fun _ _ _ _ h => h) (by kernel_rfl) hHeld ?y13 ?r13
      case y13 =>
        intro wq hq
        have hbx := (Box.new w2 #[.int .i64 (nthName xs k).from_, .int .i64 (nthName xs k).to_] 60).drew hq (Nat.ne_of_gt hg2)
        have z0 : _ = some (Value.int .i64 (nthName xs k).from_) := hbx.cell 0
        have z1 : _ = some (Value.int .i64 (nthName xs k).to_) := hbx.cell 1
        go_simp
        first | done | with_reducible rfl
      simp only [Act.put, List.setIfInBounds_toArray, List.set_cons_zero, List.set_cons_succ]
      refine takeYesH 15 37 ?v14 rfl rfl (by kernel_rfl) (by kernel_rfl) (by kernel_rfl) (fun _ _ _ _ h => h) (by kernel_rfl) hHeld ?y14 ?r14
      case y14 => intro wq hq; go_simp; first | done | with_reducible rfl
      simp only [Act.put, List.setIfInBounds_toArray, List.set_cons_zero, List.set_cons_succ]
      refine wpAnyH_ready (rs := [8]) (by kernel_rfl) (by simp) ?_
      refine AllReadyH.cons rfl (fun K hK => ?_) AllReadyH.nil
      go_simp
      refine (l01Next_any _ _ _ hHeld.1 (by decide)).mono ?_
      rintro e w4 ⟨z, rfl, hz0, hz1, hd⟩
      go_wp2_with fail
      refine hK.out _ _ (hHeld.trans hd.drew) (fun hHeld => ?_)
      clear hK K
      try simp only [Act.put, List.setIfInBounds_toArray, List.set_cons_zero, List.set_cons_succ]
      refine takeYesH 9 31 ?v15 rfl rfl (by kernel_rfl) (by kernel_rfl) (by kernel_rfl) (fun _ _ _ _ h => h) (by kernel_rfl) hHeld ?y15 ?r15
      case y15 => intro wq hq; go_simp; first | done | with_reducible rfl
      simp only [Act.put, List.setIfInBounds_toArray, List.set_cons_zero, List.set_cons_succ]
      refine wpAnyH_ready (rs := [16]) (by kernel_rfl) (by simp) ?_
      refine AllReadyH.cons rfl (fun K hK => ?_) AllReadyH.nil
      go_simp
      have hgl := hHeld.1.lt
      go_wp2_with fail
      refine hK.out _ _ (hHeld.trans (Drew.of_ext hHeld.1 ((Ext.refl _).alloc _))) (fun hHeld => ?_)
      clear hK K
      try simp only [Act.put, List.setIfInBounds_toArray, List.set_cons_zero, List.set_cons_succ]
      refine wpAnyH_ready (rs := [17]) (by kernel_rfl) (by simp) ?_
      refine AllReadyH.cons rfl (fun K hK => ?_) AllReadyH.nil
      go_simp
      refine (l01Pick_any _ _ _ _ _ _ hHeld.1 (RdI.lits _ [_, _, _, _, _] _ rfl (by simp)) (by simp) (by rintro ad e; cases e; exact Nat.ne_of_gt hgl)).mono ?_
      rintro e w5 ⟨p, rfl, hp, hd2⟩
      go_wp2_with fail
      refine hK.out _ _ (hHeld.trans hd2.drew) (fun hHeld => ?_)
      clear hK K
      try simp only [Act.put, List.setIfInBounds_toArray, List.set_cons_zero, List.set_cons_succ]
      refine takeYesH 18 4 ?v16 rfl rfl (by kernel_rfl) (by kernel_rfl) (by kernel_rfl) (fun _ _ _ _ h => h) (by kernel_rfl) hHeld ?y16 ?r16
      case y16 => intro wq hq; go_simp; first | done | with_reducible rfl
      simp only [Act.put, List.setIfInBounds_toArray, List.set_cons_zero, List.set_cons_succ]
      refine wpAnyH_done (by kernel_rfl) ?_ _
      go_wp2
      go_ret
      exact ⟨_, rfl, H2.out.trans (Drew.pre ((Ext.refl _).alloc _) hHeld)⟩
    · have hg1 := H1.out.1.lt
      go_wp2_with fail
      refine (l01Next_any _ _ _ H1.out.1 (by omega)).mono ?_
      rintro e w2 ⟨z, rfl, hz0, hz1, hd⟩
      have H2 := Lib.hid (H1.out.trans hd.drew)
      clear hd
      have hg2 := H2.out.1.lt
      go_wp2_with fail
      refine (l01Pick_any _ _ _ _ _ _ (H2.out.1.ext ((Ext.refl _).alloc _)) (RdI.lits _ [_, _, _, _] _ rfl (by simp)) (by simp) (by rintro ad e; cases e; exact Nat.ne_of_gt hg2)).mono ?_
      rintro e w3 ⟨p, rfl, hp, hd⟩
      have H3 := Lib.hid (H2.out.trans (Drew.pre ((Ext.refl _).alloc _) hd.drew))
      clear hd hp
      go_wp2
      go_ret
      exact ⟨_, rfl, H3.out⟩
  · obtain rfl : n = 0 := by omega
    go_enter Tryz.func60, Tryz.ntmps60
    go_wp2_with fail
    refine (l01Next_any _ _ _ HS.out (by omega)).mono ?_
    rintro e w2 ⟨z, rfl, hz0, hz1, hd⟩
    have H2 := Lib.hid hd.drew
    clear hd
    have hg2 := H2.out.1.lt
    go_wp2_with fail
    refine (l01Pick_any _ _ _ _ _ _ (H2.out.1.ext ((Ext.refl _).alloc _)) (RdI.lits _ [_, _, _, _] _ rfl (by simp)) (by simp) (by rintro ad e; cases e; exact Nat.ne_of_gt hg2)).mono ?_
    rintro e w3 ⟨p, rfl, hp, hd⟩
    have H3 := Lib.hid (H2.out.trans (Drew.pre ((Ext.refl _).alloc _) hd.drew))
    clear hd hp
    go_wp2
    go_ret
    exact ⟨_, rfl, H3.out⟩

end Go.Proofs.YteencdgaldhanaaGreatDoor

/-
  The reference's comparison of two phrases.
-/
import Derived.Test.YtdicjpkcgeofjaaGreatDoorSF
import Derived.Test.YtdicjpkcgeofjaaGreatDoorM0
import Derived.Test.YtdicjpkcgeofjaaGreatDoorGD
import Derived.Deep.RegionHeld3
namespace Go.Proofs.YtdicjpkcgeofjaaGreatDoor
open Go.RowKit

/-- Two phrases compared with letters left out. -/
def onceC (ss : List ByteArray) (s t : ByteArray) (ig : List Int) : Int := cmpW (spE ss s ig) (spE ss t ig)
def compC (ss : List ByteArray) (ig : List Int) (s t : ByteArray) : Int := if onceC ss s t ig = 0 then onceC ss s t [] else onceC ss s t ig
theorem compC_anti (ss : List ByteArray) (ig : List Int) (s t : ByteArray) : compC ss ig t s = - compC ss ig s t := by
  have h1 := cmpW_anti (spE ss s ig) (spE ss t ig)
  have h2 := cmpW_anti (spE ss s []) (spE ss t [])
  rw [compC, compC, onceC, onceC, onceC, onceC, h1, h2]
  by_cases h : cmpW (spE ss s ig) (spE ss t ig) = 0
  · rw [if_pos (by omega), if_pos h]
  · rw [if_neg (by omega), if_neg h]

set_option maxRecDepth 100000 in
set_option maxHeartbeats 2000000 in
theorem l06Once_any (a : Option Addr) (n c : Nat) (s t : ByteArray) (a2 : Option Addr) (m c2 : Nat) (ss : List ByteArray) (ig : List Int) (w : World) (hr : RdS w a n ss) (hr2 : RdI w a2 m ig) (hs : s.size ≤ 1073741824) (ht : t.size ≤ 1073741824) (hl : lettersOk ss) :
    Calls Tryz.prog 53 #[.slice a n c, .string s, .string t, .slice a2 m c2] w fun e w' => e = .returned (.int .i64 (onceC ss s t ig)) ∧ Ext w w' := by
  have HD : onceC ss s t ig = cmpW (spE ss s ig) (spE ss t ig) := rfl
  go_enter Tryz.func53, Tryz.ntmps53
  go_wp2_with fail
  refine (l06Spellings_any _ _ _ _ _ _ _ _ _ _ hr hr2 hs hl).mono ?_
  rintro e w1 ⟨a3, c3, rfl, r3, x1⟩
  go_wp2_with fail
  refine (l06Spellings_any _ _ _ _ _ _ _ _ _ _ (hr.ext x1) (hr2.ext x1) ht hl).mono ?_
  rintro e w2 ⟨a4, c4, rfl, r4, x2⟩
  replace r3 := r3.ext x2
  have HX := Lib.hid (x1.trans x2)
  clear x1 x2
  generalize spE ss s ig = xs at r3 HD ⊢
  generalize spE ss t ig = ys at r4 HD ⊢
  have hm := r3.le
  have hm2 := r4.le
  go_wp2
  go_loopw [11] (fun i wr => ∃ k : Nat, k ≤ xs.length ∧ k ≤ ys.length ∧ i = .int .i64 k ∧ (∀ j, j < k → xs[j]? = ys[j]?) ∧ Ext w2 wr) (fun i _ => xs.length - (intOf i).toNat)
  case atStart => exact ⟨0, Nat.zero_le _, Nat.zero_le _, rfl, by simp, Ext.refl _⟩
  case round =>
    obtain ⟨k, hk, hkm, rfl, hall, hx⟩ := hrel
    have HA := Lib.hid hall
    clear hall
    by_cases hlt : k < xs.length
    · have hki : (k : Int) < xs.length := by omega
      by_cases hlt2 : k < ys.length
      · have hki2 : (k : Int) < ys.length := by omega
        obtain ⟨b1, o1, rfl, hbl1, hc⟩ := (r3.ext hx).at (by omega)
        obtain ⟨pa, pc, hck, hp⟩ := rdgr_at hc hlt
        obtain ⟨b2, o2, rfl, hbl2, hc2⟩ := (r4.ext hx).at (by omega)
        obtain ⟨qa, qc, hck2, hq2⟩ := rdgr_at hc2 hlt2
        clear hc hc2
        by_cases h0 : cmpI (nthW xs k) (nthW ys k) = 0
        · have HZ := Lib.hid (And.intro (eq_step HA.out (nthW_same hlt hlt2 (cmpI_eq h0))) h0)
          clear h0
          go_wp2
          refine wp_region_held_drew (S := Ext wr) (by kernel_rfl) (Ext.refl _).drew (fun hHeld => ?_)
          generalize hwd : World.drew _ = wd at hHeld ⊢
          clear hwd
          refine takeYesH 0 33 ?v1 rfl rfl (by kernel_rfl) (by kernel_rfl) (by kernel_rfl) (fun _ _ _ _ h => h) (by kernel_rfl) hHeld ?y1 ?r1
          case y1 => intro wq hq; go_simp; first | done | with_reducible rfl
          simp only [Act.put, List.setIfInBounds_toArray, List.set_cons_zero, List.set_cons_succ]
          refine takeYesH 1 34 ?v2 rfl rfl (by kernel_rfl) (by kernel_rfl) (by kernel_rfl) (fun _ _ _ _ h => h) (by kernel_rfl) hHeld ?y2 ?r2
          case y2 => intro wq hq; go_simp; first | done | with_reducible rfl
          simp only [Act.put, List.setIfInBounds_toArray, List.set_cons_zero, List.set_cons_succ]
          refine takeYesH 2 35 ?v3 rfl rfl (by kernel_rfl) (by kernel_rfl) (by kernel_rfl) (fun _ _ _ _ h => h) (by kernel_rfl) hHeld ?y3 ?r3
          case y3 => intro wq hq; go_simp; first | done | with_reducible rfl
          simp only [Act.put, List.setIfInBounds_toArray, List.set_cons_zero, List.set_cons_succ]
          refine takeYesH 3 36 ?v4 rfl rfl (by kernel_rfl) (by kernel_rfl) (by kernel_rfl) (fun _ _ _ _ h => h) (by kernel_rfl) hHeld ?y4 ?r4
          case y4 =>
            intro wq hq
            have z1 := (Below.cell hq (p := ⟨b1, o1 + k, none⟩) hbl1).trans hck
            have z2 := (Below.cell hq (p := ⟨b2, o2 + k, none⟩) hbl2).trans hck2
            go_simp
            first | done | with_reducible rfl
          simp only [Act.put, List.setIfInBounds_toArray, List.set_cons_zero, List.set_cons_succ]
          refine takeYesH 4 37 ?v5 rfl rfl (by kernel_rfl) (by kernel_rfl) (by kernel_rfl) (fun _ _ _ _ h => h) (by kernel_rfl) hHeld ?y5 ?r5
          case y5 => intro wq hq; go_simp; first | done | with_reducible rfl
          simp only [Act.put, List.setIfInBounds_toArray, List.set_cons_zero, List.set_cons_succ]
          refine takeYesH 5 38 ?v6 rfl rfl (by kernel_rfl) (by kernel_rfl) (by kernel_rfl) (fun _ _ _ _ h => h) (by kernel_rfl) hHeld ?y6 ?r6
          case y6 => intro wq hq; go_simp; first | done | with_reducible rfl
          simp only [Act.put, List.setIfInBounds_toArray, List.set_cons_zero, List.set_cons_succ]
          refine takeYesH 6 39 ?v7 rfl rfl (by kernel_rfl) (by kernel_rfl) (by kernel_rfl) (fun _ _ _ _ h => h) (by kernel_rfl) hHeld ?y7 ?r7
          case y7 => intro wq hq; go_simp; first | done | with_reducible rfl
          simp only [Act.put, List.setIfInBounds_toArray, List.set_cons_zero, List.set_cons_succ]
          refine takeYesH 7 40 ?v8 rfl rfl (by kernel_rfl) (by kernel_rfl) (by kernel_rfl) (fun _ _ _ _ h => h) (by kernel_rfl) hHeld ?y8 ?r8
          case y8 =>
            intro wq hq
            have z1 := (Below.cell hq (p := ⟨b1, o1 + k, none⟩) hbl1).trans hck
            have z2 := (Below.cell hq (p := ⟨b2, o2 + k, none⟩) hbl2).trans hck2
            go_simp
            first | done | with_reducible rfl
          simp only [Act.put, List.setIfInBounds_toArray, List.set_cons_zero, List.set_cons_succ]
          refine wpAnyH_ready (rs := [8]) (by kernel_rfl) (by simp) ?_
          refine AllReadyH.cons rfl (fun K hK => ?_) AllReadyH.nil
          go_simp
          refine (l06Lists_any _ _ _ _ _ _ _ _ _ (hp.ext hHeld) (hq2.ext hHeld)).mono ?_
          rintro e w5 ⟨rfl, s5⟩
          go_wp2_with fail
          refine hK.out _ _ (hHeld.trans s5.ext) (fun hHeld => ?_)
          clear hK K
          try simp only [Act.put, List.setIfInBounds_toArray, List.set_cons_zero, List.set_cons_succ]
          refine takeYesH 9 12 ?v9 rfl rfl (by kernel_rfl) (by kernel_rfl) (by kernel_rfl) (fun _ _ _ _ h => h) (by kernel_rfl) hHeld ?y9 ?r9
          case y9 => intro wq hq; go_simp; first | done | with_reducible rfl
          simp only [Act.put, List.setIfInBounds_toArray, List.set_cons_zero, List.set_cons_succ]
          refine wpAnyH_done (by kernel_rfl) ?_ _
          rw [HZ.out.2]
          go_wp2
          go_roundw
          case rel => exact ⟨k + 1, by omega, by omega, by go_num, HZ.out.1, hx.trans hHeld⟩
          case measure => simp [intOf]; omega
        · have HZ := Lib.hid (HD.trans (cmpW_ne HA.out hlt hlt2 h0))
          have hb0 : (cmpI (nthW xs k) (nthW ys k) == 0) = false := by simpa using h0
          go_wp2
          refine wp_region_held_drew (S := Ext wr) (by kernel_rfl) (Ext.refl _).drew (fun hHeld => ?_)
          generalize hwd : World.drew _ = wd at hHeld ⊢
          clear hwd
          refine takeYesH 0 33 ?v10 rfl rfl (by kernel_rfl) (by kernel_rfl) (by kernel_rfl) (fun _ _ _ _ h => h) (by kernel_rfl) hHeld ?y10 ?r10
          case y10 => intro wq hq; go_simp; first | done | with_reducible rfl
          simp only [Act.put, List.setIfInBounds_toArray, List.set_cons_zero, List.set_cons_succ]
          refine takeYesH 1 34 ?v11 rfl rfl (by kernel_rfl) (by kernel_rfl) (by kernel_rfl) (fun _ _ _ _ h => h) (by kernel_rfl) hHeld ?y11 ?r11
          case y11 => intro wq hq; go_simp; first | done | with_reducible rfl
          simp only [Act.put, List.setIfInBounds_toArray, List.set_cons_zero, List.set_cons_succ]
          refine takeYesH 2 35 ?v12 rfl rfl (by kernel_rfl) (by kernel_rfl) (by kernel_rfl) (fun _ _ _ _ h => h) (by kernel_rfl) hHeld ?y12 ?r12
          case y12 => intro wq hq; go_simp; first | done | with_reducible rfl
          simp only [Act.put, List.setIfInBounds_toArray, List.set_cons_zero, List.set_cons_succ]
          refine takeYesH 3 36 ?v13 rfl rfl (by kernel_rfl) (by kernel_rfl) (by kernel_rfl) (fun _ _ _ _ h => h) (by kernel_rfl) hHeld ?y13 ?r13
          case y13 =>
            intro wq hq
            have z1 := (Below.cell hq (p := ⟨b1, o1 + k, none⟩) hbl1).trans hck
            have z2 := (Below.cell hq (p := ⟨b2, o2 + k, none⟩) hbl2).trans hck2
            go_simp
            first | done | with_reducible rfl
          simp only [Act.put, List.setIfInBounds_toArray, List.set_cons_zero, List.set_cons_succ]
          refine takeYesH 4 37 ?v14 rfl rfl (by kernel_rfl) (by kernel_rfl) (by kernel_rfl) (fun _ _ _ _ h => h) (by kernel_rfl) hHeld ?y14 ?r14
          case y14 => intro wq hq; go_simp; first | done | with_reducible rfl
          simp only [Act.put, List.setIfInBounds_toArray, List.set_cons_zero, List.set_cons_succ]
          refine takeYesH 5 38 ?v15 rfl rfl (by kernel_rfl) (by kernel_rfl) (by kernel_rfl) (fun _ _ _ _ h => h) (by kernel_rfl) hHeld ?y15 ?r15
          case y15 => intro wq hq; go_simp; first | done | with_reducible rfl
          simp only [Act.put, List.setIfInBounds_toArray, List.set_cons_zero, List.set_cons_succ]
          refine takeYesH 6 39 ?v16 rfl rfl (by kernel_rfl) (by kernel_rfl) (by kernel_rfl) (fun _ _ _ _ h => h) (by kernel_rfl) hHeld ?y16 ?r16
          case y16 => intro wq hq; go_simp; first | done | with_reducible rfl
          simp only [Act.put, List.setIfInBounds_toArray, List.set_cons_zero, List.set_cons_succ]
          refine takeYesH 7 40 ?v17 rfl rfl (by kernel_rfl) (by kernel_rfl) (by kernel_rfl) (fun _ _ _ _ h => h) (by kernel_rfl) hHeld ?y17 ?r17
          case y17 =>
            intro wq hq
            have z1 := (Below.cell hq (p := ⟨b1, o1 + k, none⟩) hbl1).trans hck
            have z2 := (Below.cell hq (p := ⟨b2, o2 + k, none⟩) hbl2).trans hck2
            go_simp
            first | done | with_reducible rfl
          simp only [Act.put, List.setIfInBounds_toArray, List.set_cons_zero, List.set_cons_succ]
          refine wpAnyH_ready (rs := [8]) (by kernel_rfl) (by simp) ?_
          refine AllReadyH.cons rfl (fun K hK => ?_) AllReadyH.nil
          go_simp
          refine (l06Lists_any _ _ _ _ _ _ _ _ _ (hp.ext hHeld) (hq2.ext hHeld)).mono ?_
          rintro e w5 ⟨rfl, s5⟩
          go_wp2_with fail
          refine hK.out _ _ (hHeld.trans s5.ext) (fun hHeld => ?_)
          clear hK K
          try simp only [Act.put, List.setIfInBounds_toArray, List.set_cons_zero, List.set_cons_succ]
          refine takeYesH 9 12 ?v18 rfl rfl (by kernel_rfl) (by kernel_rfl) (by kernel_rfl) (fun _ _ _ _ h => h) (by kernel_rfl) hHeld ?y18 ?r18
          case y18 => intro wq hq; go_simp; first | done | with_reducible rfl
          simp only [Act.put, List.setIfInBounds_toArray, List.set_cons_zero, List.set_cons_succ]
          refine wpAnyH_done (by kernel_rfl) ?_ _
          go_wp2
          go_ret
          exact ⟨by first | (rw [HZ.out]; rfl) | (rw [← HD, HZ.out]; rfl), HX.out.trans (hx.trans hHeld)⟩
      · have hki2 : ¬ (k : Int) < ys.length := by omega
        have HZ := Lib.hid (HD.trans (cmpW_long HA.out hlt (by omega)))
        have h1 : ¬ (xs.length : Int) < ys.length := by omega
        have h2 : (ys.length : Int) < xs.length := by omega
        go_wp2
        go_ret
        exact ⟨by first | (rw [HZ.out]; rfl) | (rw [← HD, HZ.out]; rfl), HX.out.trans hx⟩
    · have hki : ¬ (k : Int) < xs.length := by omega
      by_cases hlt2 : k < ys.length
      · have HZ := Lib.hid (HD.trans (cmpW_short HA.out (by omega) hlt2))
        have h1 : (xs.length : Int) < ys.length := by omega
        go_wp2
        go_ret
        exact ⟨by first | (rw [HZ.out]; rfl) | (rw [← HD, HZ.out]; rfl), HX.out.trans hx⟩
      · have HZ := Lib.hid (HD.trans (cmpW_same HA.out (by omega) (by omega)))
        have h1 : ¬ (xs.length : Int) < ys.length := by omega
        have h2 : ¬ (ys.length : Int) < xs.length := by omega
        go_wp2
        go_ret
        exact ⟨by first | (rw [HZ.out]; rfl) | (rw [← HD, HZ.out]; rfl), HX.out.trans hx⟩

set_option maxRecDepth 100000 in
set_option maxHeartbeats 1000000 in
theorem l06Compare_any (a : Option Addr) (n c : Nat) (s t : ByteArray) (a2 : Option Addr) (m c2 : Nat) (ss : List ByteArray) (ig : List Int) (w : World) (hr : RdS w a n ss) (hr2 : RdI w a2 m ig) (hs : s.size ≤ 1073741824) (ht : t.size ≤ 1073741824) (hl : lettersOk ss) :
    Calls Tryz.prog 27 #[.slice a n c, .string s, .string t, .slice a2 m c2] w fun e w' => e = .returned (.int .i64 (compC ss ig s t)) ∧ Ext w w' := by
  go_enter Tryz.func27, Tryz.ntmps27
  go_wp2_with fail
  refine (l06Once_any _ _ _ _ _ _ _ _ _ _ _ hr hr2 hs ht hl).mono ?_
  rintro e w1 ⟨rfl, x1⟩
  cases hc : (onceC ss s t ig == 0)
  · have HZ := Lib.hid (show compC ss ig s t = onceC ss s t ig from if_neg (by simpa using hc))
    go_wp2
    go_ret
    exact ⟨by rw [HZ.out]; rfl, x1⟩
  · have HZ := Lib.hid (show compC ss ig s t = onceC ss s t [] from if_pos (by simpa using hc))
    go_wp2_with fail
    refine (l06Once_any _ _ _ _ _ _ _ _ _ [] _ ((hr.ext x1).ext ((Ext.refl _).alloc _)) (RdI.lits w1 [] #[] rfl (by simp)) hs ht hl).mono ?_
    rintro e w2 ⟨rfl, x2⟩
    go_wp2
    go_ret
    exact ⟨by rw [HZ.out]; rfl, x1.trans (((Ext.refl _).alloc _).trans x2)⟩

end Go.Proofs.YtdicjpkcgeofjaaGreatDoor

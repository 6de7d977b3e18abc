/-
  FnNames returns true for every code: the walk.
-/
import Derived.Test.YteencdgaldhanaaGreatDoorDL4
import Derived.Test.YteencdgaldhanaaGreatDoorWT
import Derived.Test.YteencdgaldhanaaGreatDoorNLW
import Derived.Test.YteencdgaldhanaaGreatDoorLG
import Derived.Test.YteencdgaldhanaaGreatDoorW2
namespace Go.Proofs.YteencdgaldhanaaGreatDoor.fnNames
open Go.ChangeShapes Go.WideShapes Go.ChangeAt Go.RowKit

theorem ans : ANs := fun a n c xs w h => (specAreNames_any a n c xs w h).mono fun _ _ k => ⟨_, k.1, k.2⟩

set_option maxRecDepth 100000 in
set_option maxHeartbeats 4000000 in
theorem walk (a_code : Option Addr) (n_code c_code : Nat) (z_code : List Int) (w : World) (hi_code : InBy w a_code n_code z_code) (hmax : MaxW w) :
    Calls Tryz.prog 4 #[.slice a_code n_code c_code] w fun e w' => e = .returned (.bool true) ∧ Ext w w' := by
  by_cases hbig : (4096 : Int) < n_code
  · go_enter Tryz.func4, Tryz.ntmps4
    go_wp2_with (go_at_call 15; refine (big_any _ _ _ _).mono ?_; rintro e w' ⟨rfl, rfl⟩)
    go_ret
    exact ⟨rfl, Ext.refl _⟩
  have hr := hi_code.rdBy (by omega)
  clear hi_code
  go_enter Tryz.func4, Tryz.ntmps4
  go_wp2_with (go_at_call 15; refine (big_any _ _ _ _).mono ?_; rintro e w' ⟨rfl, rfl⟩)
  clear hbig
  refine (drawRenameIn_any ans _ _ _ _ _ hr).mono ?_
  rintro e w1 ⟨a1, c1, xs, s, y, t, rfl, hs, ht, hl1, hsh1, o1, x1⟩
  have X := x1
  go_wp2_with fail
  refine (implRenameIn_any _ _ _ _ _ _ _ _ o1.rd o1.cap (by omega) (by omega) (hmax.ext X)).mono ?_
  rintro e w2 ⟨v2, rfl, a2, n2, c2, rfl, hn2, o2, x2⟩
  replace o1 := o1.ext x2
  replace X := X.trans x2
  go_wp2_with fail
  refine (specRenameIn_any _ _ _ _ _ _ _ _ o1.rd (by omega) (by omega)).mono ?_
  rintro e w3 ⟨v3, rfl, a3, n3, c3, rfl, hn3, o3, x3⟩
  replace o1 := o1.ext x3
  replace o2 := o2.ext x3
  replace X := X.trans x3
  obtain rfl : n2 = n3 := o2.rd.len.symm.trans o3.rd.len
  go_wp2_with fail
  refine (drawUsedIn_any ans _ _ _ _ _ (hr.ext X)).mono ?_
  rintro e w4 ⟨a4, c4, us, y4, rfl, hl4, hsh4, o4, x4⟩
  replace o1 := o1.ext x4
  replace o2 := o2.ext x4
  replace o3 := o3.ext x4
  replace X := X.trans x4
  go_wp2_with fail
  refine (implUsedIn_any _ _ _ _ _ _ o4.rd o4.cap (hmax.ext X)).mono ?_
  rintro e w5 ⟨v5, rfl, a5, n5, c5, rfl, o5, x5⟩
  replace o1 := o1.ext x5
  replace o2 := o2.ext x5
  replace o3 := o3.ext x5
  replace o4 := o4.ext x5
  replace X := X.trans x5
  go_wp2_with fail
  refine (specUsedIn_any _ _ _ _ _ _ o4.rd).mono ?_
  rintro e w6 ⟨v6, rfl, a6, n6, c6, rfl, o6, x6⟩
  replace o1 := o1.ext x6
  replace o2 := o2.ext x6
  replace o3 := o3.ext x6
  replace o4 := o4.ext x6
  replace o5 := o5.ext x6
  replace X := X.trans x6
  obtain rfl : n5 = n6 := o5.rd.len.symm.trans o6.rd.len
  go_wp2_with fail
  refine (drawOfficialIn_any ans _ _ _ _ _ (hr.ext X)).mono ?_
  rintro e w7 ⟨a7, c7, os, s7, y7, rfl, hs7, hl7, hsh7, o7, x7⟩
  replace o1 := o1.ext x7
  replace o2 := o2.ext x7
  replace o3 := o3.ext x7
  replace o4 := o4.ext x7
  replace o5 := o5.ext x7
  replace o6 := o6.ext x7
  replace X := X.trans x7
  go_wp2_with fail
  refine (implOfficialIn_any _ _ _ _ _ _ _ o7.rd o7.cap (by omega) (hmax.ext X)).mono ?_
  rintro e w8 ⟨rfl, x8⟩
  replace o1 := o1.ext x8
  replace o2 := o2.ext x8
  replace o3 := o3.ext x8
  replace o4 := o4.ext x8
  replace o5 := o5.ext x8
  replace o6 := o6.ext x8
  replace o7 := o7.ext x8
  replace X := X.trans x8
  go_wp2_with fail
  refine (specOfficialIn_any _ _ _ _ _ _ _ o7.rd (by omega)).mono ?_
  rintro e w9 ⟨rfl, x9⟩
  replace o1 := o1.ext x9
  replace o2 := o2.ext x9
  replace o3 := o3.ext x9
  replace o4 := o4.ext x9
  replace o5 := o5.ext x9
  replace o6 := o6.ext x9
  replace o7 := o7.ext x9
  replace X := X.trans x9
  go_wp2_with fail
  refine (drawBestIn_any ans _ _ _ _ _ (hr.ext X)).mono ?_
  rintro e w10 ⟨a10, b10, c10, d10, cs, ls, y10, rfl, ⟨hl10, hsh10, o10, x10⟩, hls10, p10⟩
  replace o1 := o1.ext x10
  replace o2 := o2.ext x10
  replace o3 := o3.ext x10
  replace o4 := o4.ext x10
  replace o5 := o5.ext x10
  replace o6 := o6.ext x10
  replace o7 := o7.ext x10
  replace X := X.trans x10
  go_wp2_with fail
  refine (implBestIn_any _ _ _ _ _ _ _ _ _ _ o10.rd o10.cap p10.rd (hmax.ext X)).mono ?_
  rintro e w11 ⟨rfl, x11⟩
  replace o1 := o1.ext x11
  replace o2 := o2.ext x11
  replace o3 := o3.ext x11
  replace o4 := o4.ext x11
  replace o5 := o5.ext x11
  replace o6 := o6.ext x11
  replace o7 := o7.ext x11
  replace o10 := o10.ext x11
  replace p10 := p10.ext x11
  replace X := X.trans x11
  go_wp2_with fail
  refine (specBestIn_any _ _ _ _ _ _ _ _ _ _ o10.rd p10.rd).mono ?_
  rintro e w12 ⟨rfl, x12⟩
  replace o1 := o1.ext x12
  replace o2 := o2.ext x12
  replace o3 := o3.ext x12
  replace o4 := o4.ext x12
  replace o5 := o5.ext x12
  replace o6 := o6.ext x12
  replace o7 := o7.ext x12
  replace o10 := o10.ext x12
  replace p10 := p10.ext x12
  replace X := X.trans x12
  go_wp2_with fail
  refine (drawLanguagesOf_any ans _ _ _ _ _ (hr.ext X)).mono ?_
  rintro e w13 ⟨a13, c13, gs, rfl, hl13, hsh13, o13, x13⟩
  replace o1 := o1.ext x13
  replace o2 := o2.ext x13
  replace o3 := o3.ext x13
  replace o4 := o4.ext x13
  replace o5 := o5.ext x13
  replace o6 := o6.ext x13
  replace o7 := o7.ext x13
  replace o10 := o10.ext x13
  replace p10 := p10.ext x13
  replace X := X.trans x13
  go_wp2_with fail
  refine (implLanguagesOf_any _ _ _ _ _ o13.rd o13.cap (hmax.ext X) (by omega)).mono ?_
  rintro e w14 ⟨v14, rfl, a14, n14, c14, rfl, hn14, o14, x14⟩
  replace o1 := o1.ext x14
  replace o2 := o2.ext x14
  replace o3 := o3.ext x14
  replace o4 := o4.ext x14
  replace o5 := o5.ext x14
  replace o6 := o6.ext x14
  replace o7 := o7.ext x14
  replace o10 := o10.ext x14
  replace p10 := p10.ext x14
  replace o13 := o13.ext x14
  replace X := X.trans x14
  go_wp2_with fail
  refine (specLanguagesOf_any _ _ _ _ _ o13.rd (by omega)).mono ?_
  rintro e w15 ⟨v15, rfl, a15, n15, c15, rfl, hn15, o15, x15⟩
  replace o1 := o1.ext x15
  replace o2 := o2.ext x15
  replace o3 := o3.ext x15
  replace o4 := o4.ext x15
  replace o5 := o5.ext x15
  replace o6 := o6.ext x15
  replace o7 := o7.ext x15
  replace o10 := o10.ext x15
  replace p10 := p10.ext x15
  replace o13 := o13.ext x15
  replace o14 := o14.ext x15
  replace X := X.trans x15
  obtain rfl : n14 = n15 := o14.rd.len.symm.trans o15.rd.len
  go_wp2_with fail
  refine (likeNames_same _ _ _ _ _ _ _ o2.rd o3.rd).mono ?_
  rintro e w16 ⟨rfl, x16⟩
  replace o1 := o1.ext x16
  replace o2 := o2.ext x16
  replace o3 := o3.ext x16
  replace o4 := o4.ext x16
  replace o5 := o5.ext x16
  replace o6 := o6.ext x16
  replace o7 := o7.ext x16
  replace o10 := o10.ext x16
  replace p10 := p10.ext x16
  replace o13 := o13.ext x16
  replace o14 := o14.ext x16
  replace o15 := o15.ext x16
  replace X := X.trans x16
  go_wp2_with fail
  refine (likeInts_same _ _ _ _ _ _ _ o5.rd o6.rd).mono ?_
  rintro e w17 ⟨rfl, s17⟩
  replace o1 := o1.ext s17.ext
  replace o2 := o2.ext s17.ext
  replace o3 := o3.ext s17.ext
  replace o4 := o4.ext s17.ext
  replace o5 := o5.ext s17.ext
  replace o6 := o6.ext s17.ext
  replace o7 := o7.ext s17.ext
  replace o10 := o10.ext s17.ext
  replace p10 := p10.ext s17.ext
  replace o13 := o13.ext s17.ext
  replace o14 := o14.ext s17.ext
  replace o15 := o15.ext s17.ext
  replace X := X.trans s17.ext
  go_wp2_with fail
  refine (likeTexts_same _ _ _ _ _ _ _ o14.rd o15.rd).mono ?_
  rintro e w18 ⟨rfl, s18⟩
  replace o1 := o1.ext s18.ext
  replace o2 := o2.ext s18.ext
  replace o3 := o3.ext s18.ext
  replace o4 := o4.ext s18.ext
  replace o5 := o5.ext s18.ext
  replace o6 := o6.ext s18.ext
  replace o7 := o7.ext s18.ext
  replace o10 := o10.ext s18.ext
  replace p10 := p10.ext s18.ext
  replace o13 := o13.ext s18.ext
  replace o14 := o14.ext s18.ext
  replace o15 := o15.ext s18.ext
  replace X := X.trans s18.ext
  go_wp2_with fail
  refine (implAreNames_any _ _ _ _ _ o13.rd o13.cap (hmax.ext X)).mono ?_
  rintro e w19 ⟨rfl, x19⟩
  replace o1 := o1.ext x19
  replace o2 := o2.ext x19
  replace o3 := o3.ext x19
  replace o4 := o4.ext x19
  replace o5 := o5.ext x19
  replace o6 := o6.ext x19
  replace o7 := o7.ext x19
  replace o10 := o10.ext x19
  replace p10 := p10.ext x19
  replace o13 := o13.ext x19
  replace o14 := o14.ext x19
  replace o15 := o15.ext x19
  replace X := X.trans x19
  have hg : (lgC gs == 0) = namesB gs := by cases h : namesB gs <;> simp [lgC, h]
  cases hr0 : (rnC xs s y t == 0)
  · have hr1 : (rnC xs s y t != 0) = true := by rw [bne, hr0]; rfl
    cases hb : (bstC cs ls y10 == 0)
    · clear hr0
      go_wp2
      go_ret
      exact ⟨rfl, X⟩
    · have hb0 : bstC cs ls y10 = 0 := by simpa using hb
      obtain ⟨i, hi, ev, q, hq, el⟩ := bst_lang hb0
      rw [ev]
      obtain ⟨bb, oo, rfl, hbb, hA⟩ := o10.rd.at (by omega)
      have hc1 := (hA i hi).2.1
      have hii : (i : Int) < cs.length := by omega
      have HT := Lib.hid (hasT_at (s := (nthName cs i).lang) hq (by rw [el]; simp))
      clear hA hb0 el hr0
      go_wp2_with fail
      refine (hasText_any _ _ _ _ _ _ p10.rd).mono ?_
      rintro e w20 ⟨rfl, rfl⟩
      rw [HT.out]
      go_wp2
      go_ret
      exact ⟨rfl, X⟩
  · cases hb : (bstC cs ls y10 == 0)
    · skip
      have hr1 : (rnC xs s y t != 0) = false := by rw [bne, hr0]; rfl
      have hr2 : rnC xs s y t = 0 := by simpa using hr0
      have HN := Lib.hid (rn_names hr2)
      obtain ⟨q0, k, hk, kv, kt⟩ := rn_now hr2
      have HB := Lib.hid (fun z => rn_before (z := z) hr2)
      obtain ⟨_, _, _, _, hyr⟩ := off_k (rn_facts hr2).2.1
      have hn2l : (rnL xs s y t).length = n2 := o2.rd.len
      clear hr0 hr2
      go_wp2_with fail
      refine (implOfficialIn_any _ _ _ _ _ _ _ o2.rd o2.cap (by omega) (hmax.ext X)).mono ?_
      rintro e w21 ⟨rfl, x21⟩
      rw [kv, q0]
      have r2 := o2.rd.ext x21
      have r1 := o1.rd.ext x21
      have hcap := o2.cap
      have X21 := X.trans x21
      obtain ⟨b2, p2, e2, hb2, hA⟩ := r2.at (by omega)
      subst e2
      have hck := (hA k (by omega)).1
      rw [kt] at hck
      have hki : (k : Int) < n2 := by omega
      have HA := Lib.hid hA
      clear hA
      go_wp2_with fail
      refine (implAreNames_any _ _ _ _ _ r2 hcap (hmax.ext X21)).mono ?_
      rintro e w22 ⟨rfl, x22⟩
      rw [HN.out]
      clear hck
      have X22 := X21.trans x22
      have r1b := r1.ext x22
      have r2b := r2.ext x22
      have hca1 := o1.cap
      go_wp2
      go_loopw [38] (fun i wr => ∃ k : Nat, 1 ≤ k ∧ k ≤ 4 ∧ i = .int .i64 k ∧ Ext w22 wr) (fun i _ => 4 - (intOf i).toNat)
      case atStart => exact ⟨1, by decide, by decide, rfl, Ext.refl _⟩
      case round =>
        obtain ⟨i, hi1, hi4, rfl, xr⟩ := hrel
        by_cases h4 : (i : Int) < 4
        · by_cases hz : -3000 ≤ y - i
          · obtain ⟨q1, q2⟩ := HB.out (y - i) (by omega) hz
            have HQ := Lib.hid q2
            have hwr : wrap64 (y - (i : Int)) = y - i := IntWalk.wrap64_in _ (by omega)
            clear q2
            go_wp2_with fail
            refine (implOfficialIn_any _ _ _ _ _ _ _ (r1b.ext xr) hca1 (by omega) (hmax.ext (X22.trans xr))).mono ?_
            rintro e w23 ⟨rfl, x23⟩
            go_wp2_with fail
            refine (implOfficialIn_any _ _ _ _ _ _ _ (r2b.ext (xr.trans x23)) hcap (by omega) (hmax.ext (X22.trans (xr.trans x23)))).mono ?_
            rintro e w24 ⟨rfl, x24⟩
            rw [← q1]
            clear q1
            have xr4 := (xr.trans x23).trans x24
            cases hc : (offC xs s (y - i) == 0)
            · go_wp2
              refine wp_region_held_drew (S := Ext w24) (by kernel_rfl) (Ext.refl _).drew (fun hHeld => ?_)
              generalize hwd : World.drew _ = wd at hHeld ⊢
              clear hwd
              refine takeYesH 0 260 ?v1 rfl rfl (by kernel_rfl) (by kernel_rfl) (by kernel_rfl) (fun _ _ _ _ h => h) (by kernel_rfl) hHeld ?y1 ?r1
              case y1 => intro wq hq; go_simp; first | done | with_reducible rfl
              simp only [Act.put, List.setIfInBounds_toArray, List.set_cons_zero, List.set_cons_succ]
              refine takeYesH 1 261 ?v2 rfl rfl (by kernel_rfl) (by kernel_rfl) (by kernel_rfl) (fun _ _ _ _ h => h) (by kernel_rfl) hHeld ?y2 ?r2
              case y2 => intro wq hq; go_simp; first | done | with_reducible rfl
              simp only [Act.put, List.setIfInBounds_toArray, List.set_cons_zero, List.set_cons_succ]
              refine takeYesH 2 262 ?v3 rfl rfl (by kernel_rfl) (by kernel_rfl) (by kernel_rfl) (fun _ _ _ _ h => h) (by kernel_rfl) hHeld ?y3 ?r3
              case y3 => intro wq hq; go_simp; first | done | with_reducible rfl
              simp only [Act.put, List.setIfInBounds_toArray, List.set_cons_zero, List.set_cons_succ]
              refine takeYesH 3 263 ?v4 rfl rfl (by kernel_rfl) (by kernel_rfl) (by kernel_rfl) (fun _ _ _ _ h => h) (by kernel_rfl) hHeld ?y4 ?r4
              case y4 => intro wq hq; go_simp; first | done | with_reducible rfl
              simp only [Act.put, List.setIfInBounds_toArray, List.set_cons_zero, List.set_cons_succ]
              refine takeYesH 4 264 ?v5 rfl rfl (by kernel_rfl) (by kernel_rfl) (by kernel_rfl) (fun _ _ _ _ h => h) (by kernel_rfl) hHeld ?y5 ?r5
              case y5 => intro wq hq; go_simp; first | done | with_reducible rfl
              simp only [Act.put, List.setIfInBounds_toArray, List.set_cons_zero, List.set_cons_succ]
              refine takeYesH 5 265 ?v6 rfl rfl (by kernel_rfl) (by kernel_rfl) (by kernel_rfl) (fun _ _ _ _ h => h) (by kernel_rfl) hHeld ?y6 ?r6
              case y6 => intro wq hq; go_simp; first | done | with_reducible rfl
              simp only [Act.put, List.setIfInBounds_toArray, List.set_cons_zero, List.set_cons_succ]
              refine takeYesH 6 266 ?v7 rfl rfl (by kernel_rfl) (by kernel_rfl) (by kernel_rfl) (fun _ _ _ _ h => h) (by kernel_rfl) hHeld ?y7 ?r7
              case y7 => intro wq hq; go_simp; first | done | with_reducible rfl
              simp only [Act.put, List.setIfInBounds_toArray, List.set_cons_zero, List.set_cons_succ]
              refine takeNoH 7 267 rfl rfl (by kernel_rfl) (by kernel_rfl) (by kernel_rfl) (fun _ _ _ _ h => h) (by kernel_rfl) hHeld ?_
              simp only [Act.put, List.setIfInBounds_toArray, List.set_cons_zero, List.set_cons_succ]
              refine takeNoH 8 268 rfl rfl (by kernel_rfl) (by kernel_rfl) (by kernel_rfl) (fun _ _ _ _ h => h) (by kernel_rfl) hHeld ?_
              simp only [Act.put, List.setIfInBounds_toArray, List.set_cons_zero, List.set_cons_succ]
              refine takeNoH 9 269 rfl rfl (by kernel_rfl) (by kernel_rfl) (by kernel_rfl) (fun _ _ _ _ h => h) (by kernel_rfl) hHeld ?_
              simp only [Act.put, List.setIfInBounds_toArray, List.set_cons_zero, List.set_cons_succ]
              refine takeNoH 10 270 rfl rfl (by kernel_rfl) (by kernel_rfl) (by kernel_rfl) (fun _ _ _ _ h => h) (by kernel_rfl) hHeld ?_
              simp only [Act.put, List.setIfInBounds_toArray, List.set_cons_zero, List.set_cons_succ]
              refine takeNoH 11 271 rfl rfl (by kernel_rfl) (by kernel_rfl) (by kernel_rfl) (fun _ _ _ _ h => h) (by kernel_rfl) hHeld ?_
              simp only [Act.put, List.setIfInBounds_toArray, List.set_cons_zero, List.set_cons_succ]
              refine takeNoH 12 272 rfl rfl (by kernel_rfl) (by kernel_rfl) (by kernel_rfl) (fun _ _ _ _ h => h) (by kernel_rfl) hHeld ?_
              simp only [Act.put, List.setIfInBounds_toArray, List.set_cons_zero, List.set_cons_succ]
              refine takeNoH 13 273 rfl rfl (by kernel_rfl) (by kernel_rfl) (by kernel_rfl) (fun _ _ _ _ h => h) (by kernel_rfl) hHeld ?_
              simp only [Act.put, List.setIfInBounds_toArray, List.set_cons_zero, List.set_cons_succ]
              refine takeNoH 14 274 rfl rfl (by kernel_rfl) (by kernel_rfl) (by kernel_rfl) (fun _ _ _ _ h => h) (by kernel_rfl) hHeld ?_
              simp only [Act.put, List.setIfInBounds_toArray, List.set_cons_zero, List.set_cons_succ]
              refine takeNoH 15 275 rfl rfl (by kernel_rfl) (by kernel_rfl) (by kernel_rfl) (fun _ _ _ _ h => h) (by kernel_rfl) hHeld ?_
              simp only [Act.put, List.setIfInBounds_toArray, List.set_cons_zero, List.set_cons_succ]
              refine takeNoH 16 276 rfl rfl (by kernel_rfl) (by kernel_rfl) (by kernel_rfl) (fun _ _ _ _ h => h) (by kernel_rfl) hHeld ?_
              simp only [Act.put, List.setIfInBounds_toArray, List.set_cons_zero, List.set_cons_succ]
              refine takeNoH 17 277 rfl rfl (by kernel_rfl) (by kernel_rfl) (by kernel_rfl) (fun _ _ _ _ h => h) (by kernel_rfl) hHeld ?_
              simp only [Act.put, List.setIfInBounds_toArray, List.set_cons_zero, List.set_cons_succ]
              refine takeYesH 18 278 ?v8 rfl rfl (by kernel_rfl) (by kernel_rfl) (by kernel_rfl) (fun _ _ _ _ h => h) (by kernel_rfl) hHeld ?y8 ?r8
              case y8 => intro wq hq; go_simp; first | done | with_reducible rfl
              simp only [Act.put, List.setIfInBounds_toArray, List.set_cons_zero, List.set_cons_succ]
              refine takeYesH 19 279 ?v9 rfl rfl (by kernel_rfl) (by kernel_rfl) (by kernel_rfl) (fun _ _ _ _ h => h) (by kernel_rfl) hHeld ?y9 ?r9
              case y9 => intro wq hq; go_simp; first | done | with_reducible rfl
              simp only [Act.put, List.setIfInBounds_toArray, List.set_cons_zero, List.set_cons_succ]
              refine wpAnyH_done (by kernel_rfl) ?_ _
              go_wp2
              refine ⟨⟨i + 1, by omega, by omega, by go_num, xr4.trans hHeld⟩, ?_⟩
              simp only [intOf]
              omega
            · obtain ⟨j, l, hj, hl, ev1, ev2, et⟩ := HQ.out (by simpa using hc)
              rw [ev1, ev2]
              have s1 := r1b.ext xr4
              have s2 := r2b.ext xr4
              obtain ⟨bb1, oo1, ee1, hbb1, hA1⟩ := s1.at (by omega)
              obtain ⟨bb2, oo2, ee2, hbb2, hA2⟩ := s2.at (by omega)
              subst ee1
              cases ee2
              have d1 := (hA1 j (by omega)).1
              have d2 := (hA2 l (by omega)).1
              rw [← et] at d2
              have hji : (j : Int) < xs.length := by omega
              have hli : (l : Int) < n2 := by omega
              clear hA1 hA2
              go_wp2
              refine wp_region_held_drew (S := Ext w24) (by kernel_rfl) (Ext.refl _).drew (fun hHeld => ?_)
              generalize hwd : World.drew _ = wd at hHeld ⊢
              clear hwd
              refine takeYesH 0 260 ?v10 rfl rfl (by kernel_rfl) (by kernel_rfl) (by kernel_rfl) (fun _ _ _ _ h => h) (by kernel_rfl) hHeld ?y10 ?r10
              case y10 => intro wq hq; go_simp; first | done | with_reducible rfl
              simp only [Act.put, List.setIfInBounds_toArray, List.set_cons_zero, List.set_cons_succ]
              refine takeYesH 1 261 ?v11 rfl rfl (by kernel_rfl) (by kernel_rfl) (by kernel_rfl) (fun _ _ _ _ h => h) (by kernel_rfl) hHeld ?y11 ?r11
              case y11 => intro wq hq; go_simp; first | done | with_reducible rfl
              simp only [Act.put, List.setIfInBounds_toArray, List.set_cons_zero, List.set_cons_succ]
              refine takeYesH 2 262 ?v12 rfl rfl (by kernel_rfl) (by kernel_rfl) (by kernel_rfl) (fun _ _ _ _ h => h) (by kernel_rfl) hHeld ?y12 ?r12
              case y12 => intro wq hq; go_simp; first | done | with_reducible rfl
              simp only [Act.put, List.setIfInBounds_toArray, List.set_cons_zero, List.set_cons_succ]
              refine takeYesH 3 263 ?v13 rfl rfl (by kernel_rfl) (by kernel_rfl) (by kernel_rfl) (fun _ _ _ _ h => h) (by kernel_rfl) hHeld ?y13 ?r13
              case y13 => intro wq hq; go_simp; first | done | with_reducible rfl
              simp only [Act.put, List.setIfInBounds_toArray, List.set_cons_zero, List.set_cons_succ]
              refine takeYesH 4 264 ?v14 rfl rfl (by kernel_rfl) (by kernel_rfl) (by kernel_rfl) (fun _ _ _ _ h => h) (by kernel_rfl) hHeld ?y14 ?r14
              case y14 => intro wq hq; go_simp; first | done | with_reducible rfl
              simp only [Act.put, List.setIfInBounds_toArray, List.set_cons_zero, List.set_cons_succ]
              refine takeYesH 5 265 ?v15 rfl rfl (by kernel_rfl) (by kernel_rfl) (by kernel_rfl) (fun _ _ _ _ h => h) (by kernel_rfl) hHeld ?y15 ?r15
              case y15 => intro wq hq; go_simp; first | done | with_reducible rfl
              simp only [Act.put, List.setIfInBounds_toArray, List.set_cons_zero, List.set_cons_succ]
              refine takeYesH 6 266 ?v16 rfl rfl (by kernel_rfl) (by kernel_rfl) (by kernel_rfl) (fun _ _ _ _ h => h) (by kernel_rfl) hHeld ?y16 ?r16
              case y16 => intro wq hq; go_simp; first | done | with_reducible rfl
              simp only [Act.put, List.setIfInBounds_toArray, List.set_cons_zero, List.set_cons_succ]
              refine takeYesH 7 267 ?v17 rfl rfl (by kernel_rfl) (by kernel_rfl) (by kernel_rfl) (fun _ _ _ _ h => h) (by kernel_rfl) hHeld ?y17 ?r17
              case y17 => intro wq hq; go_simp; first | done | with_reducible rfl
              simp only [Act.put, List.setIfInBounds_toArray, List.set_cons_zero, List.set_cons_succ]
              refine takeYesH 8 268 ?v18 rfl rfl (by kernel_rfl) (by kernel_rfl) (by kernel_rfl) (fun _ _ _ _ h => h) (by kernel_rfl) hHeld ?y18 ?r18
              case y18 => intro wq hq; go_simp; first | done | with_reducible rfl
              simp only [Act.put, List.setIfInBounds_toArray, List.set_cons_zero, List.set_cons_succ]
              refine takeYesH 9 269 ?v19 rfl rfl (by kernel_rfl) (by kernel_rfl) (by kernel_rfl) (fun _ _ _ _ h => h) (by kernel_rfl) hHeld ?y19 ?r19
              case y19 => intro wq hq; go_simp; first | done | with_reducible rfl
              simp only [Act.put, List.setIfInBounds_toArray, List.set_cons_zero, List.set_cons_succ]
              refine takeYesH 10 270 ?v20 rfl rfl (by kernel_rfl) (by kernel_rfl) (by kernel_rfl) (fun _ _ _ _ h => h) (by kernel_rfl) hHeld ?y20 ?r20
              case y20 => intro wq hq; go_simp; first | done | with_reducible rfl
              simp only [Act.put, List.setIfInBounds_toArray, List.set_cons_zero, List.set_cons_succ]
              refine takeYesH 11 271 ?v21 rfl rfl (by kernel_rfl) (by kernel_rfl) (by kernel_rfl) (fun _ _ _ _ h => h) (by kernel_rfl) hHeld ?y21 ?r21
              case y21 =>
                intro wq hq
                have z1 := (Below.cell hq (p := ⟨bb1, oo1 + j * 5, none⟩) hbb1).trans d1
                have z2 := (Below.cell hq (p := ⟨b2, p2 + l * 5, none⟩) hbb2).trans d2
                go_simp
                first | done | with_reducible rfl
              simp only [Act.put, List.setIfInBounds_toArray, List.set_cons_zero, List.set_cons_succ]
              refine takeYesH 12 272 ?v22 rfl rfl (by kernel_rfl) (by kernel_rfl) (by kernel_rfl) (fun _ _ _ _ h => h) (by kernel_rfl) hHeld ?y22 ?r22
              case y22 => intro wq hq; go_simp; first | done | with_reducible rfl
              simp only [Act.put, List.setIfInBounds_toArray, List.set_cons_zero, List.set_cons_succ]
              refine takeYesH 13 273 ?v23 rfl rfl (by kernel_rfl) (by kernel_rfl) (by kernel_rfl) (fun _ _ _ _ h => h) (by kernel_rfl) hHeld ?y23 ?r23
              case y23 => intro wq hq; go_simp; first | done | with_reducible rfl
              simp only [Act.put, List.setIfInBounds_toArray, List.set_cons_zero, List.set_cons_succ]
              refine takeYesH 14 274 ?v24 rfl rfl (by kernel_rfl) (by kernel_rfl) (by kernel_rfl) (fun _ _ _ _ h => h) (by kernel_rfl) hHeld ?y24 ?r24
              case y24 => intro wq hq; go_simp; first | done | with_reducible rfl
              simp only [Act.put, List.setIfInBounds_toArray, List.set_cons_zero, List.set_cons_succ]
              refine takeYesH 15 275 ?v25 rfl rfl (by kernel_rfl) (by kernel_rfl) (by kernel_rfl) (fun _ _ _ _ h => h) (by kernel_rfl) hHeld ?y25 ?r25
              case y25 => intro wq hq; go_simp; first | done | with_reducible rfl
              simp only [Act.put, List.setIfInBounds_toArray, List.set_cons_zero, List.set_cons_succ]
              refine takeYesH 16 276 ?v26 rfl rfl (by kernel_rfl) (by kernel_rfl) (by kernel_rfl) (fun _ _ _ _ h => h) (by kernel_rfl) hHeld ?y26 ?r26
              case y26 =>
                intro wq hq
                have z1 := (Below.cell hq (p := ⟨bb1, oo1 + j * 5, none⟩) hbb1).trans d1
                have z2 := (Below.cell hq (p := ⟨b2, p2 + l * 5, none⟩) hbb2).trans d2
                go_simp
                first | done | with_reducible rfl
              simp only [Act.put, List.setIfInBounds_toArray, List.set_cons_zero, List.set_cons_succ]
              refine takeYesH 17 277 ?v27 rfl rfl (by kernel_rfl) (by kernel_rfl) (by kernel_rfl) (fun _ _ _ _ h => h) (by kernel_rfl) hHeld ?y27 ?r27
              case y27 => intro wq hq; go_simp; first | done | with_reducible rfl
              simp only [Act.put, List.setIfInBounds_toArray, List.set_cons_zero, List.set_cons_succ]
              refine takeYesH 18 278 ?v28 rfl rfl (by kernel_rfl) (by kernel_rfl) (by kernel_rfl) (fun _ _ _ _ h => h) (by kernel_rfl) hHeld ?y28 ?r28
              case y28 => intro wq hq; go_simp; first | done | with_reducible rfl
              simp only [Act.put, List.setIfInBounds_toArray, List.set_cons_zero, List.set_cons_succ]
              refine takeYesH 19 279 ?v29 rfl rfl (by kernel_rfl) (by kernel_rfl) (by kernel_rfl) (fun _ _ _ _ h => h) (by kernel_rfl) hHeld ?y29 ?r29
              case y29 => intro wq hq; go_simp; first | done | with_reducible rfl
              simp only [Act.put, List.setIfInBounds_toArray, List.set_cons_zero, List.set_cons_succ]
              refine wpAnyH_done (by kernel_rfl) ?_ _
              go_wp2
              refine ⟨⟨i + 1, by omega, by omega, by go_num, xr4.trans hHeld⟩, ?_⟩
              simp only [intOf]
              omega
          · go_wp2
            go_ret
            exact ⟨rfl, X22.trans xr⟩
        · go_wp2
          go_ret
          exact ⟨rfl, X22.trans xr⟩
    · skip
      have hb0 : bstC cs ls y10 = 0 := by simpa using hb
      obtain ⟨i, hi, ev, q, hq, el⟩ := bst_lang hb0
      rw [ev]
      obtain ⟨bb, oo, rfl, hbb, hA⟩ := o10.rd.at (by omega)
      have hcl := (hA i hi).2.1
      have hii : (i : Int) < cs.length := by omega
      have HT := Lib.hid (hasT_at (s := (nthName cs i).lang) hq (by rw [el]; simp))
      clear hA hb0 el
      go_wp2_with fail
      refine (hasText_any _ _ _ _ _ _ p10.rd).mono ?_
      rintro e w20 ⟨rfl, rfl⟩
      rw [HT.out]
      clear hcl
      have hr1 : (rnC xs s y t != 0) = false := by rw [bne, hr0]; rfl
      have hr2 : rnC xs s y t = 0 := by simpa using hr0
      have HN := Lib.hid (rn_names hr2)
      obtain ⟨q0, k, hk, kv, kt⟩ := rn_now hr2
      have HB := Lib.hid (fun z => rn_before (z := z) hr2)
      obtain ⟨_, _, _, _, hyr⟩ := off_k (rn_facts hr2).2.1
      have hn2l : (rnL xs s y t).length = n2 := o2.rd.len
      clear hr0 hr2
      go_wp2_with fail
      refine (implOfficialIn_any _ _ _ _ _ _ _ o2.rd o2.cap (by omega) (hmax.ext X)).mono ?_
      rintro e w21 ⟨rfl, x21⟩
      rw [kv, q0]
      have r2 := o2.rd.ext x21
      have r1 := o1.rd.ext x21
      have hcap := o2.cap
      have X21 := X.trans x21
      obtain ⟨b2, p2, e2, hb2, hA⟩ := r2.at (by omega)
      subst e2
      have hck := (hA k (by omega)).1
      rw [kt] at hck
      have hki : (k : Int) < n2 := by omega
      have HA := Lib.hid hA
      clear hA
      go_wp2_with fail
      refine (implAreNames_any _ _ _ _ _ r2 hcap (hmax.ext X21)).mono ?_
      rintro e w22 ⟨rfl, x22⟩
      rw [HN.out]
      clear hck
      have X22 := X21.trans x22
      have r1b := r1.ext x22
      have r2b := r2.ext x22
      have hca1 := o1.cap
      go_wp2
      go_loopw [38] (fun i wr => ∃ k : Nat, 1 ≤ k ∧ k ≤ 4 ∧ i = .int .i64 k ∧ Ext w22 wr) (fun i _ => 4 - (intOf i).toNat)
      case atStart => exact ⟨1, by decide, by decide, rfl, Ext.refl _⟩
      case round =>
        obtain ⟨i, hi1, hi4, rfl, xr⟩ := hrel
        by_cases h4 : (i : Int) < 4
        · by_cases hz : -3000 ≤ y - i
          · obtain ⟨q1, q2⟩ := HB.out (y - i) (by omega) hz
            have HQ := Lib.hid q2
            have hwr : wrap64 (y - (i : Int)) = y - i := IntWalk.wrap64_in _ (by omega)
            clear q2
            go_wp2_with fail
            refine (implOfficialIn_any _ _ _ _ _ _ _ (r1b.ext xr) hca1 (by omega) (hmax.ext (X22.trans xr))).mono ?_
            rintro e w23 ⟨rfl, x23⟩
            go_wp2_with fail
            refine (implOfficialIn_any _ _ _ _ _ _ _ (r2b.ext (xr.trans x23)) hcap (by omega) (hmax.ext (X22.trans (xr.trans x23)))).mono ?_
            rintro e w24 ⟨rfl, x24⟩
            rw [← q1]
            clear q1
            have xr4 := (xr.trans x23).trans x24
            cases hc : (offC xs s (y - i) == 0)
            · go_wp2
              refine wp_region_held_drew (S := Ext w24) (by kernel_rfl) (Ext.refl _).drew (fun hHeld => ?_)
              generalize hwd : World.drew _ = wd at hHeld ⊢
              clear hwd
              refine takeYesH 0 260 ?v30 rfl rfl (by kernel_rfl) (by kernel_rfl) (by kernel_rfl) (fun _ _ _ _ h => h) (by kernel_rfl) hHeld ?y30 ?r30
              case y30 => intro wq hq; go_simp; first | done | with_reducible rfl
              simp only [Act.put, List.setIfInBounds_toArray, List.set_cons_zero, List.set_cons_succ]
              refine takeYesH 1 261 ?v31 rfl rfl (by kernel_rfl) (by kernel_rfl) (by kernel_rfl) (fun _ _ _ _ h => h) (by kernel_rfl) hHeld ?y31 ?r31
              case y31 => intro wq hq; go_simp; first | done | with_reducible rfl
              simp only [Act.put, List.setIfInBounds_toArray, List.set_cons_zero, List.set_cons_succ]
              refine takeYesH 2 262 ?v32 rfl rfl (by kernel_rfl) (by kernel_rfl) (by kernel_rfl) (fun _ _ _ _ h => h) (by kernel_rfl) hHeld ?y32 ?r32
              case y32 => intro wq hq; go_simp; first | done | with_reducible rfl
              simp only [Act.put, List.setIfInBounds_toArray, List.set_cons_zero, List.set_cons_succ]
              refine takeYesH 3 263 ?v33 rfl rfl (by kernel_rfl) (by kernel_rfl) (by kernel_rfl) (fun _ _ _ _ h => h) (by kernel_rfl) hHeld ?y33 ?r33
              case y33 => intro wq hq; go_simp; first | done | with_reducible rfl
              simp only [Act.put, List.setIfInBounds_toArray, List.set_cons_zero, List.set_cons_succ]
              refine takeYesH 4 264 ?v34 rfl rfl (by kernel_rfl) (by kernel_rfl) (by kernel_rfl) (fun _ _ _ _ h => h) (by kernel_rfl) hHeld ?y34 ?r34
              case y34 => intro wq hq; go_simp; first | done | with_reducible rfl
              simp only [Act.put, List.setIfInBounds_toArray, List.set_cons_zero, List.set_cons_succ]
              refine takeYesH 5 265 ?v35 rfl rfl (by kernel_rfl) (by kernel_rfl) (by kernel_rfl) (fun _ _ _ _ h => h) (by kernel_rfl) hHeld ?y35 ?r35
              case y35 => intro wq hq; go_simp; first | done | with_reducible rfl
              simp only [Act.put, List.setIfInBounds_toArray, List.set_cons_zero, List.set_cons_succ]
              refine takeYesH 6 266 ?v36 rfl rfl (by kernel_rfl) (by kernel_rfl) (by kernel_rfl) (fun _ _ _ _ h => h) (by kernel_rfl) hHeld ?y36 ?r36
              case y36 => intro wq hq; go_simp; first | done | with_reducible rfl
              simp only [Act.put, List.setIfInBounds_toArray, List.set_cons_zero, List.set_cons_succ]
              refine takeNoH 7 267 rfl rfl (by kernel_rfl) (by kernel_rfl) (by kernel_rfl) (fun _ _ _ _ h => h) (by kernel_rfl) hHeld ?_
              simp only [Act.put, List.setIfInBounds_toArray, List.set_cons_zero, List.set_cons_succ]
              refine takeNoH 8 268 rfl rfl (by kernel_rfl) (by kernel_rfl) (by kernel_rfl) (fun _ _ _ _ h => h) (by kernel_rfl) hHeld ?_
              simp only [Act.put, List.setIfInBounds_toArray, List.set_cons_zero, List.set_cons_succ]
              refine takeNoH 9 269 rfl rfl (by kernel_rfl) (by kernel_rfl) (by kernel_rfl) (fun _ _ _ _ h => h) (by kernel_rfl) hHeld ?_
              simp only [Act.put, List.setIfInBounds_toArray, List.set_cons_zero, List.set_cons_succ]
              refine takeNoH 10 270 rfl rfl (by kernel_rfl) (by kernel_rfl) (by kernel_rfl) (fun _ _ _ _ h => h) (by kernel_rfl) hHeld ?_
              simp only [Act.put, List.setIfInBounds_toArray, List.set_cons_zero, List.set_cons_succ]
              refine takeNoH 11 271 rfl rfl (by kernel_rfl) (by kernel_rfl) (by kernel_rfl) (fun _ _ _ _ h => h) (by kernel_rfl) hHeld ?_
              simp only [Act.put, List.setIfInBounds_toArray, List.set_cons_zero, List.set_cons_succ]
              refine takeNoH 12 272 rfl rfl (by kernel_rfl) (by kernel_rfl) (by kernel_rfl) (fun _ _ _ _ h => h) (by kernel_rfl) hHeld ?_
              simp only [Act.put, List.setIfInBounds_toArray, List.set_cons_zero, List.set_cons_succ]
              refine takeNoH 13 273 rfl rfl (by kernel_rfl) (by kernel_rfl) (by kernel_rfl) (fun _ _ _ _ h => h) (by kernel_rfl) hHeld ?_
              simp only [Act.put, List.setIfInBounds_toArray, List.set_cons_zero, List.set_cons_succ]
              refine takeNoH 14 274 rfl rfl (by kernel_rfl) (by kernel_rfl) (by kernel_rfl) (fun _ _ _ _ h => h) (by kernel_rfl) hHeld ?_
              simp only [Act.put, List.setIfInBounds_toArray, List.set_cons_zero, List.set_cons_succ]
              refine takeNoH 15 275 rfl rfl (by kernel_rfl) (by kernel_rfl) (by kernel_rfl) (fun _ _ _ _ h => h) (by kernel_rfl) hHeld ?_
              simp only [Act.put, List.setIfInBounds_toArray, List.set_cons_zero, List.set_cons_succ]
              refine takeNoH 16 276 rfl rfl (by kernel_rfl) (by kernel_rfl) (by kernel_rfl) (fun _ _ _ _ h => h) (by kernel_rfl) hHeld ?_
              simp only [Act.put, List.setIfInBounds_toArray, List.set_cons_zero, List.set_cons_succ]
              refine takeNoH 17 277 rfl rfl (by kernel_rfl) (by kernel_rfl) (by kernel_rfl) (fun _ _ _ _ h => h) (by kernel_rfl) hHeld ?_
              simp only [Act.put, List.setIfInBounds_toArray, List.set_cons_zero, List.set_cons_succ]
              refine takeYesH 18 278 ?v37 rfl rfl (by kernel_rfl) (by kernel_rfl) (by kernel_rfl) (fun _ _ _ _ h => h) (by kernel_rfl) hHeld ?y37 ?r37
              case y37 => intro wq hq; go_simp; first | done | with_reducible rfl
              simp only [Act.put, List.setIfInBounds_toArray, List.set_cons_zero, List.set_cons_succ]
              refine takeYesH 19 279 ?v38 rfl rfl (by kernel_rfl) (by kernel_rfl) (by kernel_rfl) (fun _ _ _ _ h => h) (by kernel_rfl) hHeld ?y38 ?r38
              case y38 => intro wq hq; go_simp; first | done | with_reducible rfl
              simp only [Act.put, List.setIfInBounds_toArray, List.set_cons_zero, List.set_cons_succ]
              refine wpAnyH_done (by kernel_rfl) ?_ _
              go_wp2
              refine ⟨⟨i + 1, by omega, by omega, by go_num, xr4.trans hHeld⟩, ?_⟩
              simp only [intOf]
              omega
            · obtain ⟨j, l, hj, hl, ev1, ev2, et⟩ := HQ.out (by simpa using hc)
              rw [ev1, ev2]
              have s1 := r1b.ext xr4
              have s2 := r2b.ext xr4
              obtain ⟨bb1, oo1, ee1, hbb1, hA1⟩ := s1.at (by omega)
              obtain ⟨bb2, oo2, ee2, hbb2, hA2⟩ := s2.at (by omega)
              subst ee1
              cases ee2
              have d1 := (hA1 j (by omega)).1
              have d2 := (hA2 l (by omega)).1
              rw [← et] at d2
              have hji : (j : Int) < xs.length := by omega
              have hli : (l : Int) < n2 := by omega
              clear hA1 hA2
              go_wp2
              refine wp_region_held_drew (S := Ext w24) (by kernel_rfl) (Ext.refl _).drew (fun hHeld => ?_)
              generalize hwd : World.drew _ = wd at hHeld ⊢
              clear hwd
              refine takeYesH 0 260 ?v39 rfl rfl (by kernel_rfl) (by kernel_rfl) (by kernel_rfl) (fun _ _ _ _ h => h) (by kernel_rfl) hHeld ?y39 ?r39
              case y39 => intro wq hq; go_simp; first | done | with_reducible rfl
              simp only [Act.put, List.setIfInBounds_toArray, List.set_cons_zero, List.set_cons_succ]
              refine takeYesH 1 261 ?v40 rfl rfl (by kernel_rfl) (by kernel_rfl) (by kernel_rfl) (fun _ _ _ _ h => h) (by kernel_rfl) hHeld ?y40 ?r40
              case y40 => intro wq hq; go_simp; first | done | with_reducible rfl
              simp only [Act.put, List.setIfInBounds_toArray, List.set_cons_zero, List.set_cons_succ]
              refine takeYesH 2 262 ?v41 rfl rfl (by kernel_rfl) (by kernel_rfl) (by kernel_rfl) (fun _ _ _ _ h => h) (by kernel_rfl) hHeld ?y41 ?r41
              case y41 => intro wq hq; go_simp; first | done | with_reducible rfl
              simp only [Act.put, List.setIfInBounds_toArray, List.set_cons_zero, List.set_cons_succ]
              refine takeYesH 3 263 ?v42 rfl rfl (by kernel_rfl) (by kernel_rfl) (by kernel_rfl) (fun _ _ _ _ h => h) (by kernel_rfl) hHeld ?y42 ?r42
              case y42 => intro wq hq; go_simp; first | done | with_reducible rfl
              simp only [Act.put, List.setIfInBounds_toArray, List.set_cons_zero, List.set_cons_succ]
              refine takeYesH 4 264 ?v43 rfl rfl (by kernel_rfl) (by kernel_rfl) (by kernel_rfl) (fun _ _ _ _ h => h) (by kernel_rfl) hHeld ?y43 ?r43
              case y43 => intro wq hq; go_simp; first | done | with_reducible rfl
              simp only [Act.put, List.setIfInBounds_toArray, List.set_cons_zero, List.set_cons_succ]
              refine takeYesH 5 265 ?v44 rfl rfl (by kernel_rfl) (by kernel_rfl) (by kernel_rfl) (fun _ _ _ _ h => h) (by kernel_rfl) hHeld ?y44 ?r44
              case y44 => intro wq hq; go_simp; first | done | with_reducible rfl
              simp only [Act.put, List.setIfInBounds_toArray, List.set_cons_zero, List.set_cons_succ]
              refine takeYesH 6 266 ?v45 rfl rfl (by kernel_rfl) (by kernel_rfl) (by kernel_rfl) (fun _ _ _ _ h => h) (by kernel_rfl) hHeld ?y45 ?r45
              case y45 => intro wq hq; go_simp; first | done | with_reducible rfl
              simp only [Act.put, List.setIfInBounds_toArray, List.set_cons_zero, List.set_cons_succ]
              refine takeYesH 7 267 ?v46 rfl rfl (by kernel_rfl) (by kernel_rfl) (by kernel_rfl) (fun _ _ _ _ h => h) (by kernel_rfl) hHeld ?y46 ?r46
              case y46 => intro wq hq; go_simp; first | done | with_reducible rfl
              simp only [Act.put, List.setIfInBounds_toArray, List.set_cons_zero, List.set_cons_succ]
              refine takeYesH 8 268 ?v47 rfl rfl (by kernel_rfl) (by kernel_rfl) (by kernel_rfl) (fun _ _ _ _ h => h) (by kernel_rfl) hHeld ?y47 ?r47
              case y47 => intro wq hq; go_simp; first | done | with_reducible rfl
              simp only [Act.put, List.setIfInBounds_toArray, List.set_cons_zero, List.set_cons_succ]
              refine takeYesH 9 269 ?v48 rfl rfl (by kernel_rfl) (by kernel_rfl) (by kernel_rfl) (fun _ _ _ _ h => h) (by kernel_rfl) hHeld ?y48 ?r48
              case y48 => intro wq hq; go_simp; first | done | with_reducible rfl
              simp only [Act.put, List.setIfInBounds_toArray, List.set_cons_zero, List.set_cons_succ]
              refine takeYesH 10 270 ?v49 rfl rfl (by kernel_rfl) (by kernel_rfl) (by kernel_rfl) (fun _ _ _ _ h => h) (by kernel_rfl) hHeld ?y49 ?r49
              case y49 => intro wq hq; go_simp; first | done | with_reducible rfl
              simp only [Act.put, List.setIfInBounds_toArray, List.set_cons_zero, List.set_cons_succ]
              refine takeYesH 11 271 ?v50 rfl rfl (by kernel_rfl) (by kernel_rfl) (by kernel_rfl) (fun _ _ _ _ h => h) (by kernel_rfl) hHeld ?y50 ?r50
              case y50 =>
                intro wq hq
                have z1 := (Below.cell hq (p := ⟨bb1, oo1 + j * 5, none⟩) hbb1).trans d1
                have z2 := (Below.cell hq (p := ⟨b2, p2 + l * 5, none⟩) hbb2).trans d2
                go_simp
                first | done | with_reducible rfl
              simp only [Act.put, List.setIfInBounds_toArray, List.set_cons_zero, List.set_cons_succ]
              refine takeYesH 12 272 ?v51 rfl rfl (by kernel_rfl) (by kernel_rfl) (by kernel_rfl) (fun _ _ _ _ h => h) (by kernel_rfl) hHeld ?y51 ?r51
              case y51 => intro wq hq; go_simp; first | done | with_reducible rfl
              simp only [Act.put, List.setIfInBounds_toArray, List.set_cons_zero, List.set_cons_succ]
              refine takeYesH 13 273 ?v52 rfl rfl (by kernel_rfl) (by kernel_rfl) (by kernel_rfl) (fun _ _ _ _ h => h) (by kernel_rfl) hHeld ?y52 ?r52
              case y52 => intro wq hq; go_simp; first | done | with_reducible rfl
              simp only [Act.put, List.setIfInBounds_toArray, List.set_cons_zero, List.set_cons_succ]
              refine takeYesH 14 274 ?v53 rfl rfl (by kernel_rfl) (by kernel_rfl) (by kernel_rfl) (fun _ _ _ _ h => h) (by kernel_rfl) hHeld ?y53 ?r53
              case y53 => intro wq hq; go_simp; first | done | with_reducible rfl
              simp only [Act.put, List.setIfInBounds_toArray, List.set_cons_zero, List.set_cons_succ]
              refine takeYesH 15 275 ?v54 rfl rfl (by kernel_rfl) (by kernel_rfl) (by kernel_rfl) (fun _ _ _ _ h => h) (by kernel_rfl) hHeld ?y54 ?r54
              case y54 => intro wq hq; go_simp; first | done | with_reducible rfl
              simp only [Act.put, List.setIfInBounds_toArray, List.set_cons_zero, List.set_cons_succ]
              refine takeYesH 16 276 ?v55 rfl rfl (by kernel_rfl) (by kernel_rfl) (by kernel_rfl) (fun _ _ _ _ h => h) (by kernel_rfl) hHeld ?y55 ?r55
              case y55 =>
                intro wq hq
                have z1 := (Below.cell hq (p := ⟨bb1, oo1 + j * 5, none⟩) hbb1).trans d1
                have z2 := (Below.cell hq (p := ⟨b2, p2 + l * 5, none⟩) hbb2).trans d2
                go_simp
                first | done | with_reducible rfl
              simp only [Act.put, List.setIfInBounds_toArray, List.set_cons_zero, List.set_cons_succ]
              refine takeYesH 17 277 ?v56 rfl rfl (by kernel_rfl) (by kernel_rfl) (by kernel_rfl) (fun _ _ _ _ h => h) (by kernel_rfl) hHeld ?y56 ?r56
              case y56 => intro wq hq; go_simp; first | done | with_reducible rfl
              simp only [Act.put, List.setIfInBounds_toArray, List.set_cons_zero, List.set_cons_succ]
              refine takeYesH 18 278 ?v57 rfl rfl (by kernel_rfl) (by kernel_rfl) (by kernel_rfl) (fun _ _ _ _ h => h) (by kernel_rfl) hHeld ?y57 ?r57
              case y57 => intro wq hq; go_simp; first | done | with_reducible rfl
              simp only [Act.put, List.setIfInBounds_toArray, List.set_cons_zero, List.set_cons_succ]
              refine takeYesH 19 279 ?v58 rfl rfl (by kernel_rfl) (by kernel_rfl) (by kernel_rfl) (fun _ _ _ _ h => h) (by kernel_rfl) hHeld ?y58 ?r58
              case y58 => intro wq hq; go_simp; first | done | with_reducible rfl
              simp only [Act.put, List.setIfInBounds_toArray, List.set_cons_zero, List.set_cons_succ]
              refine wpAnyH_done (by kernel_rfl) ?_ _
              go_wp2
              refine ⟨⟨i + 1, by omega, by omega, by go_num, xr4.trans hHeld⟩, ?_⟩
              simp only [intOf]
              omega
          · go_wp2
            go_ret
            exact ⟨rfl, X22.trans xr⟩
        · go_wp2
          go_ret
          exact ⟨rfl, X22.trans xr⟩

end Go.Proofs.YteencdgaldhanaaGreatDoor.fnNames

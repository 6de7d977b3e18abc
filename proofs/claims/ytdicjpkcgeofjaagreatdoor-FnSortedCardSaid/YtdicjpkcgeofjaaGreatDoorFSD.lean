/-
  FnSorted returns true for every code: the walk.
-/
import Derived.Test.YtdicjpkcgeofjaaGreatDoorSPL
import Derived.Test.YtdicjpkcgeofjaaGreatDoorSDB
import Derived.Test.YtdicjpkcgeofjaaGreatDoorWTX
import Derived.Test.YtdicjpkcgeofjaaGreatDoorW2
namespace Go.Proofs.YtdicjpkcgeofjaaGreatDoor.fnSorted
open Go.ChangeShapes Go.WideShapes Go.ChangeAt Go.RowKit

set_option maxRecDepth 100000 in
set_option maxHeartbeats 8000000 in
theorem walk (a_code : Option Addr) (n_code c_code : Nat) (z_code : List Int) (w : World) (hi_code : InBy w a_code n_code z_code) (hmax : MaxW w) :
    Calls Tryz.prog 3 #[.slice a_code n_code c_code] w fun e w' => e = .returned (.bool true) ∧ Ext w w' := by
  by_cases hbig : (4096 : Int) < n_code
  · go_enter Tryz.func3, Tryz.ntmps3
    go_wp2_with (go_at_call 4; refine (big_any _ _ _ _).mono ?_; rintro e w' ⟨rfl, rfl⟩)
    go_ret
    exact ⟨rfl, Ext.refl _⟩
  have hr := hi_code.rdBy (by omega)
  clear hi_code
  go_enter Tryz.func3, Tryz.ntmps3
  go_wp2_with (go_at_call 4; refine (big_any _ _ _ _).mono ?_; rintro e w' ⟨rfl, rfl⟩)
  clear hbig
  refine (drawSortPhrases_any _ _ _ _ _ hr).mono ?_
  rintro e w1 ⟨a1, c1, ss, a2, c2, ls, a3, c3, ig, rfl, o1, o2, o3, x1⟩
  have X := x1
  have r1 := o1.rd
  have hcap1 := o1.cap
  clear o1
  generalize ss.length = n1 at r1 hcap1 ⊢
  have r2 := o2.rd
  clear o2
  generalize ls.length = n2 at r2 ⊢
  have r3 := o3.rd
  clear o3
  generalize ig.length = n3 at r3 ⊢
  go_wp2_with fail
  refine (implSortPhrases_any _ _ _ _ _ _ _ _ _ _ _ _ _ r1 hcap1 r2 r3 (hmax.ext X)).mono ?_
  rintro e w2 ⟨v2, rfl, a4, n4, c4, rfl, _, o4, x2⟩
  replace r1 := r1.ext x2
  replace r2 := r2.ext x2
  replace r3 := r3.ext x2
  replace X := X.trans x2
  have r4 := o4.rd
  clear o4
  go_wp2_with fail
  refine (specSortPhrases_any _ _ _ _ _ _ _ _ _ _ _ _ _ r1 r2 r3).mono ?_
  rintro e w3 ⟨v3, rfl, a5, n5, c5, rfl, _, o5, x3⟩
  replace r1 := r1.ext x3
  replace r2 := r2.ext x3
  replace r3 := r3.ext x3
  replace r4 := r4.ext x3
  replace X := X.trans x3
  have r5 := o5.rd
  clear o5
  obtain rfl : n4 = n5 := r4.len.symm.trans r5.len
  go_wp2_with fail
  refine (drawAreSorted_any _ _ _ _ _ (hr.ext X)).mono ?_
  rintro e w4 ⟨a6, c6, ss2, a7, c7, ls2, a8, c8, ig2, rfl, o6, o7, o8, x4⟩
  replace r1 := r1.ext x4
  replace r2 := r2.ext x4
  replace r3 := r3.ext x4
  replace r4 := r4.ext x4
  replace r5 := r5.ext x4
  replace X := X.trans x4
  have r6 := o6.rd
  have hcap6 := o6.cap
  clear o6
  generalize ss2.length = n6 at r6 hcap6 ⊢
  have r7 := o7.rd
  clear o7
  generalize ls2.length = n7 at r7 ⊢
  have r8 := o8.rd
  clear o8
  generalize ig2.length = n8 at r8 ⊢
  go_wp2_with fail
  refine (implAreSorted_any _ _ _ _ _ _ _ _ _ _ _ _ _ r6 hcap6 r7 r8 (hmax.ext X)).mono ?_
  rintro e w5 ⟨rfl, x5⟩
  replace r1 := r1.ext x5
  replace r2 := r2.ext x5
  replace r3 := r3.ext x5
  replace r4 := r4.ext x5
  replace r5 := r5.ext x5
  replace r6 := r6.ext x5
  replace r7 := r7.ext x5
  replace r8 := r8.ext x5
  replace X := X.trans x5
  go_wp2_with fail
  refine (specAreSorted_any _ _ _ _ _ _ _ _ _ _ _ _ _ r6 r7 r8).mono ?_
  rintro e w6 ⟨rfl, x6⟩
  replace r1 := r1.ext x6
  replace r2 := r2.ext x6
  replace r3 := r3.ext x6
  replace r4 := r4.ext x6
  replace r5 := r5.ext x6
  replace r6 := r6.ext x6
  replace r7 := r7.ext x6
  replace r8 := r8.ext x6
  replace X := X.trans x6
  clear r6
  clear r7
  clear r8
  generalize asB ss2 ls2 ig2 = b2
  generalize codeL ss2 ls2 ig2 = k2
  clear hcap6
  go_wp2_with fail
  refine (drawSortKey_any _ _ _ _ _ (hr.ext X)).mono ?_
  rintro e w7 ⟨a9, c9, ss3, s3, rfl, o9, hs3, x7⟩
  replace r1 := r1.ext x7
  replace r2 := r2.ext x7
  replace r3 := r3.ext x7
  replace r4 := r4.ext x7
  replace r5 := r5.ext x7
  replace X := X.trans x7
  have r9 := o9.rd
  have hcap9 := o9.cap
  clear o9
  generalize ss3.length = n9 at r9 hcap9 ⊢
  go_wp2_with fail
  refine (implSortKey_any _ _ _ _ _ _ r9 hcap9 (by omega) (hmax.ext X)).mono ?_
  rintro e w8 ⟨rfl, x8⟩
  replace r1 := r1.ext x8
  replace r2 := r2.ext x8
  replace r3 := r3.ext x8
  replace r4 := r4.ext x8
  replace r5 := r5.ext x8
  replace r9 := r9.ext x8
  replace X := X.trans x8
  go_wp2_with fail
  refine (specSortKey_any _ _ _ _ _ _ r9 (by omega)).mono ?_
  rintro e w9 ⟨rfl, x9⟩
  replace r1 := r1.ext x9
  replace r2 := r2.ext x9
  replace r3 := r3.ext x9
  replace r4 := r4.ext x9
  replace r5 := r5.ext x9
  replace r9 := r9.ext x9
  replace X := X.trans x9
  clear r9
  generalize skT ss3 s3 = t3
  generalize codeN ss3 [s3] [] = k3
  clear hcap9 hs3
  go_wp2_with fail
  refine (drawFirstLetters_any _ _ _ _ _ (hr.ext X)).mono ?_
  rintro e w10 ⟨a10, c10, ss4, a11, c11, ls4, rfl, _, o10, _, o11, x10⟩
  replace r1 := r1.ext x10
  replace r2 := r2.ext x10
  replace r3 := r3.ext x10
  replace r4 := r4.ext x10
  replace r5 := r5.ext x10
  replace X := X.trans x10
  have r10 := o10.rd
  have hcap10 := o10.cap
  clear o10
  generalize ss4.length = n10 at r10 hcap10 ⊢
  have r11 := o11.rd
  clear o11
  generalize ls4.length = n11 at r11 ⊢
  go_wp2_with fail
  refine (implFirstLetters_any _ _ _ _ _ _ _ _ _ r10 hcap10 r11 (hmax.ext X)).mono ?_
  rintro e w11 ⟨v11, rfl, a12, n12, c12, rfl, o12, x11⟩
  replace r1 := r1.ext x11
  replace r2 := r2.ext x11
  replace r3 := r3.ext x11
  replace r4 := r4.ext x11
  replace r5 := r5.ext x11
  replace r10 := r10.ext x11
  replace r11 := r11.ext x11
  replace X := X.trans x11
  have r12 := o12.rd
  clear o12
  go_wp2_with fail
  refine (specFirstLetters_any _ _ _ _ _ _ _ _ _ r10 r11).mono ?_
  rintro e w12 ⟨v12, rfl, a13, n13, c13, rfl, o13, x12⟩
  replace r1 := r1.ext x12
  replace r2 := r2.ext x12
  replace r3 := r3.ext x12
  replace r4 := r4.ext x12
  replace r5 := r5.ext x12
  replace r10 := r10.ext x12
  replace r11 := r11.ext x12
  replace r12 := r12.ext x12
  replace X := X.trans x12
  clear r10
  clear r11
  have r13 := o13.rd
  clear o13
  obtain rfl : n12 = n13 := r12.len.symm.trans r13.len
  generalize codeL ss4 ls4 [] = k4
  clear hcap10
  go_wp2_with fail
  refine (likeTexts_same _ _ _ _ _ _ _ r4 r5).mono ?_
  rintro e w13 ⟨rfl, s13⟩
  replace r1 := r1.ext s13.ext
  replace r2 := r2.ext s13.ext
  replace r3 := r3.ext s13.ext
  replace r4 := r4.ext s13.ext
  replace r5 := r5.ext s13.ext
  replace r12 := r12.ext s13.ext
  replace r13 := r13.ext s13.ext
  replace X := X.trans s13.ext
  clear r5
  go_wp2_with fail
  refine (likeInts_same _ _ _ _ _ _ _ r12 r13).mono ?_
  rintro e w14 ⟨rfl, s14⟩
  replace r1 := r1.ext s14.ext
  replace r2 := r2.ext s14.ext
  replace r3 := r3.ext s14.ext
  replace r4 := r4.ext s14.ext
  replace r12 := r12.ext s14.ext
  replace r13 := r13.ext s14.ext
  replace X := X.trans s14.ext
  clear r12
  clear r13
  cases hc : (codeL ss ls ig == 0)
  · go_wp2
    go_ret
    exact ⟨rfl, X⟩
  have h0 : codeL ss ls ig = 0 := by simpa using hc
  have hn24 : n4 = n2 := r4.len.symm.trans ((so_len h0).trans r2.len)
  subst hn24
  have HQ := Lib.hid (And.intro (so_code h0) (so_nil h0))
  have HKO := Lib.hid (fun k (hk : k + 1 < (soL ss ls []).length) => key_order (so_nil h0) hk)
  clear h0
  go_wp2_with fail
  refine (implAreSorted_any _ _ _ _ _ _ _ _ _ _ _ _ _ r1 hcap1 r4 r3 (hmax.ext X)).mono ?_
  rintro e w15 ⟨rfl, x15⟩
  replace r1 := r1.ext x15
  replace r2 := r2.ext x15
  replace r3 := r3.ext x15
  replace r4 := r4.ext x15
  replace X := X.trans x15
  clear r4
  clear r3
  rw [HQ.out.1.1, HQ.out.1.2]
  go_wp2_with fail
  have xa := (Ext.refl w15).alloc (.cells #[] 2)
  replace r1 := r1.ext xa
  replace r2 := r2.ext xa
  replace X := X.trans xa
  clear xa
  refine (implSortPhrases_any _ _ _ _ _ _ _ _ _ _ _ [] _ r1 hcap1 r2 (RdI.nil _ _) (hmax.ext X)).mono ?_
  rintro e w16 ⟨v16, rfl, a14, n14, c14, rfl, _, o14, x16⟩
  have r14 := o14.rd
  clear o14 r2
  replace r1 := r1.ext x16
  replace X := X.trans x16
  rw [HQ.out.2]
  have hln := r14.len
  have hlm := r14.le
  have HR := Lib.hid (And.intro r1 (And.intro r14 (And.intro X (hmax.ext X))))
  have hcap := hcap1
  clear r1 r14 X x16 x15 HQ hcap1
  go_wp2
  go_loopw [33] (fun i wr => ∃ k : Nat, (k < n14 ∨ k = 0) ∧ i = .int .i64 ((k : Int) + 1) ∧ Ext w16 wr) (fun i _ => n14 - (intOf i).toNat)
  case atStart => exact ⟨0, .inr rfl, rfl, Ext.refl _⟩
  case round =>
    obtain ⟨k, hk, rfl, hx⟩ := hrel
    by_cases hlt : k + 1 < n14
    · obtain ⟨b, o, ea, hbl, hA⟩ := (HR.out.2.1.ext hx).at (by omega)
      have d1 := hA (k + 1) (by omega)
      have d3 := hA k (by omega)
      have hs1 := HR.out.2.1.size (k := k) (by omega)
      have hs2 := HR.out.2.1.size (k := k + 1) (by omega)
      subst ea
      clear hA
      have hki : (k : Int) + 1 < n14 := by omega
      have hk1 : (0 : Int) ≤ (k : Int) + 1 := by omega
      have hkw : IntKind.i64.wrap ((k : Int) + 1 - 1) = k := (IntWalk.i64_in _ (by omega)).trans (by omega)
      have hkt : ((k : Int) + 1).toNat = k + 1 := by omega
      have hkn2 : (k : Int) < n14 := by omega
      have hkv : IntKind.i64.wrap (k : Int) = k := IntWalk.i64_in _ (by omega)
      have hkv1 : IntKind.i64.wrap ((k : Int) + 1) = (k : Int) + 1 := IntWalk.i64_in _ (by omega)
      have HO := Lib.hid (HKO.out k (by omega))
      go_wp2_with fail
      refine (implSortKey_any _ _ _ _ _ _ (HR.out.1.ext hx) hcap hs1 (HR.out.2.2.2.ext hx)).mono ?_
      rintro e w17 ⟨rfl, x17⟩
      rw [HO.out.1]
      replace hx := hx.trans x17
      have d2 := (Below.cell x17 (p := ⟨b, o + (k + 1), none⟩) hbl).trans d1
      clear d1 d3 x17
      go_wp2_with fail
      refine (implSortKey_any _ _ _ _ _ _ (HR.out.1.ext hx) hcap hs2 (HR.out.2.2.2.ext hx)).mono ?_
      rintro e w18 ⟨rfl, x18⟩
      rw [HO.out.2.1]
      replace hx := hx.trans x18
      have hle := HO.out.2.2
      clear d2 x18
      go_wp2
      · rename_i hgt
        exact (not_gt hle hgt).elim
      · refine ⟨⟨k + 1, .inl (by omega), by go_num, hx⟩, ?_⟩
        simp only [intOf]
        omega
    · have hki : ¬ (k : Int) + 1 < n14 := by omega
      go_wp2
      go_ret
      exact ⟨rfl, HR.out.2.2.1.trans hx⟩

end Go.Proofs.YtdicjpkcgeofjaaGreatDoor.fnSorted

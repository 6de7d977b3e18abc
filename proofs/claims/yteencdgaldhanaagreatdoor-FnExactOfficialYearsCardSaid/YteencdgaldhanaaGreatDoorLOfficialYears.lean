/-
  FnExactOfficialYears returns true for every input: the program and the reference give the same answer, the arguments are left as they were, and what is handed back is new memory. No condition.
-/
import Derived.Test.YteencdgaldhanaaGreatDoorOY
import Derived.Test.YteencdgaldhanaaGreatDoorKSpan
import Derived.Test.YteencdgaldhanaaGreatDoorMName
import Derived.Test.YteencdgaldhanaaGreatDoorKName
import Derived.Test.YteencdgaldhanaaGreatDoorT5
import Derived.Test.YteencdgaldhanaaGreatDoorM0
import Derived.Test.YteencdgaldhanaaGreatDoorW4
import Derived.Test.YteencdgaldhanaaGreatDoorTie
import Derived.Test.YteencdgaldhanaaGreatDoorCards
namespace Go.Proofs.YteencdgaldhanaaGreatDoor.fnExactOfficialYears
open Go.ChangeShapes Go.WideShapes Go.ChangeAt Go.RowKit
open Go.ChangeMaps (open_string shut_string)

set_option maxRecDepth 100000 in
set_option maxHeartbeats 2000000 in
theorem walk (a_aList : Option Addr) (n_aList c_aList : Nat) (z_aList : List NameV) (x_aLanguage : ByteArray) (w : World) (hi_aList : InName w a_aList n_aList z_aList) (_ : x_aLanguage.size ≤ maxLen) (hmax : MaxW w) :
    Calls Tryz.prog 3 #[.slice a_aList n_aList c_aList, .string x_aLanguage] w fun e w' => e = .returned (.bool true) ∧ Ext w w' := by
  by_cases hbig_aLanguage : 1048576 < x_aLanguage.size
  · have hb_aLanguage : (1048576 : Int) < x_aLanguage.size := by omega
    go_enter Tryz.func3, Tryz.ntmps3
    go_wp2
    go_ret
    exact ⟨rfl, Ext.refl _⟩
  have hs_aLanguage : x_aLanguage.size ≤ 1048576 := by omega
  go_enter Tryz.func3, Tryz.ntmps3
  go_wp2_with fail
  refine (szNameS_any _ _ _ _ _ _ hi_aList (by omega) (by omega)).mono ?_
  rintro e w1 ⟨r1, rfl, l1, x1⟩
  by_cases hl1 : r1 < 0
  · go_wp2
    go_ret
    exact ⟨rfl, x1⟩
  have hq1 := l1.1 (by omega)
  have hr_aList := leftName_rd hi_aList l1 (by omega) (by omega)
  go_wp2_with fail
  refine (toNameS_any _ _ _ _ _ (hr_aList.ext x1)).mono ?_
  rintro e w2 ⟨v2, rfl, a2, n2, c2, rfl, o2, x2⟩
  obtain rfl : n_aList = n2 := hr_aList.len.symm.trans o2.rd.len
  go_wp2_with fail
  refine (specOfficialYears_any _ _ _ _ _ _ o2.rd (by omega)).mono ?_
  rintro e w3 ⟨v3, rfl, a3, n3, c3, rfl, hn3, o3, x3⟩
  go_wp2_with fail
  refine (toNameS_any _ _ _ _ _ (hr_aList.ext ((x1.trans x2).trans x3))).mono ?_
  rintro e w4 ⟨v4, rfl, a4, n4, c4, rfl, o4, x4⟩
  obtain rfl : n_aList = n4 := hr_aList.len.symm.trans o4.rd.len
  go_wp2_with fail
  refine (implOfficialYears_any _ _ _ _ _ _ o4.rd o4.cap (by omega) (hmax.ext (((x1.trans x2).trans x3).trans x4))).mono ?_
  rintro e w5 ⟨v5, rfl, a5, n5, c5, rfl, hn5, o5, x5⟩
  obtain rfl : n3 = n5 := o3.rd.len.symm.trans o5.rd.len
  go_wp2_with fail
  refine (eqSpanS_same _ _ _ _ _ _ _ o5.rd (o3.rd.ext (x4.trans x5))).mono ?_
  rintro e w6 ⟨rfl, x6⟩
  go_wp2_with fail
  refine (toNameS_any _ _ _ _ _ (hr_aList.ext (((((x1.trans x2).trans x3).trans x4).trans x5).trans x6))).mono ?_
  rintro e w7 ⟨v7, rfl, a7, n7, c7, rfl, o7, x7⟩
  obtain rfl : n_aList = n7 := hr_aList.len.symm.trans o7.rd.len
  go_wp2_with fail
  refine (eqNameS_same _ _ _ _ _ _ _ (o4.rd.ext ((x5.trans x6).trans x7)) o7.rd).mono ?_
  rintro e w8 ⟨rfl, x8⟩
  have y9 := (o4.ext (((x5.trans x6).trans x7).trans x8))
  go_wp2_with fail
  refine (markNameS_any _ _ _ _ _ _ _ y9 (by decide) (by decide) (by omega)).mono ?_
  rintro e w9 ⟨rfl, m9, k9⟩
  have x10 := k9.ext (((((((x1.trans x2).trans x3).trans x4).trans x5).trans x6).trans x7).trans x8) y9.1.1 ((x1.trans x2).trans x3).size
  have x11 := k9.ext (((((((x1.trans x2).trans x3).trans x4).trans x5).trans x6).trans x7).trans x8) y9.1.1 ((x1.trans x2).trans x3).size
  have x12 := k9.ext (((((x3.trans x4).trans x5).trans x6).trans x7).trans x8) y9.1.1 x3.size
  have x13 := k9.ext ((((x4.trans x5).trans x6).trans x7).trans x8) y9.1.1 (Nat.le_refl _)
  have q14 : OwnSpan _ _ _ _ _ _ := ⟨⟨k9.kept (o5.ext ((x6.trans x7).trans x8)).1.1 ⟨_, o4.1.1, Nat.le_refl _⟩, (o5.ext ((x6.trans x7).trans x8)).1.2⟩, (o5.ext ((x6.trans x7).trans x8)).2⟩
  have q15 : OwnName _ _ _ _ _ _ := ⟨⟨k9.kept (o7.ext x8).1.1 ⟨_, o4.1.1, (x5.trans x6).size⟩, (o7.ext x8).1.2⟩, (o7.ext x8).2⟩
  go_wp2_with fail
  refine (eqSpanS_same _ _ _ _ _ _ _ q14.rd (o3.rd.ext x13)).mono ?_
  rintro e w16 ⟨rfl, x16⟩
  have y17 := (q14.ext x16)
  go_wp2_with fail
  refine (markSpanS_any _ _ _ _ _ _ _ y17 (by decide) (by decide) (by omega)).mono ?_
  rintro e w17 ⟨rfl, m17, k17⟩
  have x18 := k17.ext (x10.trans x16) y17.1.1 (((x1.trans x2).trans x3).trans x4).size
  have x19 := k17.ext (x11.trans x16) y17.1.1 (((x1.trans x2).trans x3).trans x4).size
  have x20 := k17.ext (x12.trans x16) y17.1.1 (x3.trans x4).size
  have x21 := k17.ext (x13.trans x16) y17.1.1 x4.size
  have q22 : OwnName _ _ _ _ _ _ := ⟨⟨k17.kept (q15.ext x16).1.1 ⟨_, o5.1.1, x6.size⟩, (q15.ext x16).1.2⟩, (q15.ext x16).2⟩
  go_wp2_with fail
  refine (heldSpanS_marks _ _ _ _ _ m17.rd (by decide) (by decide) (by omega)).mono ?_
  rintro e w23 ⟨rfl, x23⟩
  go_wp2_with fail
  refine (toNameS_any _ _ _ _ _ (hr_aList.ext (x19.trans x23))).mono ?_
  rintro e w24 ⟨v24, rfl, a24, n24, c24, rfl, o24, x24⟩
  obtain rfl : n_aList = n24 := hr_aList.len.symm.trans o24.rd.len
  go_wp2_with fail
  refine (implOfficialYears_any _ _ _ _ _ _ o24.rd o24.cap (by omega) (hmax.ext ((x18.trans x23).trans x24))).mono ?_
  rintro e w25 ⟨v25, rfl, a25, n25, c25, rfl, hn25, o25, x25⟩
  obtain rfl : n3 = n25 := o3.rd.len.symm.trans o25.rd.len
  go_wp2_with fail
  refine (eqSpanS_same _ _ _ _ _ _ _ o25.rd (o3.rd.ext (((x21.trans x23).trans x24).trans x25))).mono ?_
  rintro e w26 ⟨rfl, x26⟩
  go_wp2_with fail
  refine (heldSpanS_marks _ _ _ _ _ (m17.rd.ext (((x23.trans x24).trans x25).trans x26)) (by decide) (by decide) (by omega)).mono ?_
  rintro e w27 ⟨rfl, x27⟩
  go_wp2
  go_ret
  exact ⟨rfl, (((((x18.trans x23).trans x24).trans x25).trans x26).trans x27)⟩

/-! The row. -/
set_option maxRecDepth 100000 in
theorem lifted (os : Os) (started : os.Started) (H : Type) (enc : TypeId × Value → H) :
    ReturnsInHanded {} Tryz.checked os 3 .any (fun w args => (Rows.fnExactOfficialYearsSpec.pre enc Tryz.prog Tryz.f3 Rows.fnExactOfficialYearsRow.domain false w args ∧ laidMetH Tryz.prog Rows.fnExactOfficialYearsRow.laid w) ∧ sizedMet enc Tryz.prog Tryz.f3 (OpenSpec.ofChange Rows.fnExactOfficialYearsSpec) false w args)
      (Rows.fnExactOfficialYearsSpec.post enc Tryz.prog Tryz.f3 false true false false) := by
  refine handed_shaped_and (C := Tryz.checked) (X := fun w _ => laidMetH Tryz.prog Rows.fnExactOfficialYearsRow.laid w) (fun _ _ _ hh h => h.of_heap hh) own started (by kernel_rfl) Tryz.func3
    (ChangeSpec.witness_shaped (enc := enc) (C := Tryz.checked) (os := os) (X := fun w _ => laidMetH Tryz.prog Rows.fnExactOfficialYearsRow.laid w) false (World.laidAll Tryz.prog os Rows.fnExactOfficialYearsRow.laid) #[.slice none 0 0, .string ⟨#[]⟩] 8 (World.laidAll_os _ _ _)
      (World.shaped_of_ZipB (by kernel_rfl) (by kernel_rfl)) (by kernel_rfl) (by kernel_rfl) (by kernel_rfl)
      (by rw [MakeChecks.laidMetH_plain _ _ _ (by kernel_rfl)]; exact laidMet_laidAll _ (by kernel_rfl) (by kernel_rfl))) ?_
  intro W base args ds gs before hval0 hW hcnd hshaped hlaid
  have hval : ∀ (j : Nat) t v, Tryz.f3.params[j]? = some t → args[j]? = some v → Value.okWide Tryz.prog W .any base t v := hval0
  have hW' := hW
  obtain ⟨p, q, hA0, hV, rfl, hfz, hnd⟩ := hW
  have hA : DataW.TrodAll enc Tryz.prog W 0 (fun _ => true) true Tryz.f3.params.toList args.toList ds p := hA0
  rw [Tryz.params3] at hA hval
  obtain ⟨v0, vs0, d0, ds0, p0, q0, hargs, rfl, rfl, h0, r0⟩ := trodAll_cons hA
  obtain ⟨v1, vs1, d1, ds1, p1, q1, rfl, rfl, rfl, h1, r1⟩ := trodAll_cons r0
  obtain ⟨rfl, rfl, rfl⟩ := trodAll_nil r1
  obtain rfl : args = #[v0, v1] := by cases args; simp_all
  obtain ⟨rfl, rfl⟩ := trodVars_none hV
  obtain ⟨a0, n0, c0, rfl⟩ := okWide_slice Tryz.underlying22 (hval 0 22 v0 rfl rfl)
  have k0 := h0
  have lt0 := trod_lt h0
  obtain ⟨z0, f0, _⟩ := open_inName h0
  obtain ⟨a1, rfl, rfl, rfl, f1⟩ := open_string Tryz.underlying9 (hval 1 9 v1 rfl rfl) h1
  clear hA0 hval0
  refine (walk a0 n0 c0 z0 a1 W f0 f1 (MaxW.of_shaped hshaped)).mono fun e W' ⟨he, bel⟩ => ?_
  subst he
  exact ⟨_, rfl, _, _, _, [], _, [], hW', trodAll_mk1 (shut_bool Tryz.underlying4 _), (trodAll_cons_mk (Below.trod laidOut (by kernel_rfl) (of_decide_eq_true (by kernel_rfl)) k0 bel lt0) (trodAll_cons_mk (shut_string Tryz.underlying9 f1) trodAll_mk0)), rfl, Below.frame bel _, fun h => by cases h⟩

theorem over : Rows.fnExactOfficialYearsRow.holds Tryz.pinned (OpenSpec.ofChange Rows.fnExactOfficialYearsSpec) :=
  OpenClaim.holds_of_wide 3 Tryz.f3 rfl rfl rfl rfl rfl rfl rfl ⟨rfl, rfl, rfl, rfl, rfl⟩ rfl rfl rfl rfl rfl (by kernel_rfl) Tryz.func3 (by kernel_rfl)
    (of_decide_eq_true (by kernel_rfl)) (by unfold Func.isWrapper; first | (rw [if_pos (by decide +kernel)]; kernel_rfl) | (rw [if_neg (by decide +kernel)]; exact ⟨rfl, rfl⟩))
    (fun os started H enc _ => lifted os started H enc)

theorem proved : Rows.FnExactOfficialYearsCardSaid :=
  Claim7.holds_tied_plain_at .later [] Rows.fnExactOfficialYearsCard.laidKinds true Rows.fnExactOfficialYearsCard.stood.harness Rows.fnExactOfficialYearsCard.stood.looks over (fun _ h => by cases h) (by kernel_rfl) (fun _ h => by cases h) fnExactOfficialYears_row_tie rfl ⟨rfl, rfl⟩ (by kernel_rfl) rfl
    (fun f fn hf hfn => by
      obtain rfl : f = 3 := Option.some.inj ((show Tryz.prog.funcNamed "loop.example/g01030/laws.FnExactOfficialYears" = some 3 by kernel_rfl).symm.trans hf) |>.symm
      obtain rfl : fn = Tryz.f3 := (Option.some.inj (Tryz.func3.symm.trans hfn)).symm
      exact ⟨by kernel_rfl, fun j t ht => by
        rw [Tryz.params3] at ht
        have hm : t ∈ [22, 9] := by simpa using Array.mem_of_getElem? ht
        have hall : ([22, 9].all fun u => !Tryz.prog.wantsStandIn u) = true := by kernel_rfl
        exact (show Tryz.prog.wantsStandIn t = false by simpa using List.all_eq_true.1 hall t hm)⟩)
    (by kernel_rfl)


end Go.Proofs.YteencdgaldhanaaGreatDoor.fnExactOfficialYears

/-
  FnExactHomonymsIn returns true for every input: the program and the reference give the same answer, the arguments are left as they were, and what is handed back is new memory. No condition.
-/
import Derived.Test.YtdacmbclkpgngaaGreatDoorHO
import Derived.Test.YtdacmbclkpgngaaGreatDoorMPlace
import Derived.Test.YtdacmbclkpgngaaGreatDoorKPlace
import Derived.Test.YtdacmbclkpgngaaGreatDoorW3
import Derived.Test.YtdacmbclkpgngaaGreatDoorW
import Derived.Test.YtdacmbclkpgngaaGreatDoorW4
import Derived.Test.YtdacmbclkpgngaaGreatDoorTie
import Derived.Test.YtdacmbclkpgngaaGreatDoorCards
namespace Go.Proofs.YtdacmbclkpgngaaGreatDoor.fnExactHomonymsIn
open Go.ChangeShapes Go.WideShapes Go.ChangeAt Go.RowKit

set_option maxRecDepth 100000 in
set_option maxHeartbeats 2000000 in
theorem walk (a_aList : Option Addr) (n_aList c_aList : Nat) (z_aList : List PlaceV) (x_aYear : Int) (w : World) (hi_aList : InPlace w a_aList n_aList z_aList) (_ : (Lit.int .i64 x_aYear).wf = true) (hmax : MaxW w) :
    Calls Tryz.prog 3 #[.slice a_aList n_aList c_aList, .int .i64 x_aYear] w fun e w' => e = .returned (.bool true) ∧ Ext w w' := by
  go_enter Tryz.func3, Tryz.ntmps3
  go_wp2_with fail
  refine (szPlaceS_any _ _ _ _ _ _ hi_aList (by omega) (by omega)).mono ?_
  rintro e w1 ⟨r1, rfl, l1, x1⟩
  by_cases hl1 : r1 < 0
  · go_wp2
    go_ret
    exact ⟨rfl, x1⟩
  have hq1 := l1.1 (by omega)
  have hr_aList := leftPlace_rd hi_aList l1 (by omega) (by omega)
  go_wp2_with fail
  refine (toPlaceS_any _ _ _ _ _ (hr_aList.ext x1)).mono ?_
  rintro e w2 ⟨v2, rfl, a2, n2, c2, rfl, o2, x2⟩
  obtain rfl : n_aList = n2 := hr_aList.len.symm.trans o2.rd.len
  go_wp2_with fail
  refine (specHomonymsIn_any _ _ _ _ _ _ o2.rd).mono ?_
  rintro e w3 ⟨v3, rfl, a3, n3, c3, rfl, hn3, o3, x3⟩
  go_wp2_with fail
  refine (toPlaceS_any _ _ _ _ _ (hr_aList.ext ((x1.trans x2).trans x3))).mono ?_
  rintro e w4 ⟨v4, rfl, a4, n4, c4, rfl, o4, x4⟩
  obtain rfl : n_aList = n4 := hr_aList.len.symm.trans o4.rd.len
  go_wp2_with fail
  refine (implHomonymsIn_any _ _ _ _ _ _ o4.rd o4.cap (hmax.ext (((x1.trans x2).trans x3).trans x4))).mono ?_
  rintro e w5 ⟨v5, rfl, a5, n5, c5, rfl, hn5, o5, x5⟩
  obtain rfl : n3 = n5 := o3.rd.len.symm.trans o5.rd.len
  go_wp2_with fail
  refine (eqStringS_same _ _ _ _ _ _ _ o5.rd (o3.rd.ext (x4.trans x5))).mono ?_
  rintro e w6 ⟨rfl, s6⟩
  have x6 := s6.ext
  go_wp2_with fail
  refine (toPlaceS_any _ _ _ _ _ (hr_aList.ext (((((x1.trans x2).trans x3).trans x4).trans x5).trans x6))).mono ?_
  rintro e w7 ⟨v7, rfl, a7, n7, c7, rfl, o7, x7⟩
  obtain rfl : n_aList = n7 := hr_aList.len.symm.trans o7.rd.len
  go_wp2_with fail
  refine (eqPlaceS_same _ _ _ _ _ _ _ (o4.rd.ext ((x5.trans x6).trans x7)) o7.rd).mono ?_
  rintro e w8 ⟨rfl, x8⟩
  have hnt9 := names_tot z_aList
  go_wp2_with fail
  refine (markPlaceS_any _ _ _ _ _ _ _ _ o4 (((x5.trans x6).trans x7).trans x8) (by decide) (by decide) (by omega) (by omega)).mono ?_
  rintro e w9 ⟨rfl, k9⟩
  have x10 := k9.ext (((((((x1.trans x2).trans x3).trans x4).trans x5).trans x6).trans x7).trans x8)  ((x1.trans x2).trans x3).size
  have x11 := k9.ext (((((((x1.trans x2).trans x3).trans x4).trans x5).trans x6).trans x7).trans x8)  ((x1.trans x2).trans x3).size
  have x12 := k9.ext (((((x3.trans x4).trans x5).trans x6).trans x7).trans x8)  x3.size
  have x13 := k9.ext ((((x4.trans x5).trans x6).trans x7).trans x8)  (Nat.le_refl _)
  have q14 : OwnS _ _ _ _ _ _ := ⟨⟨k9.kept (o5.ext ((x6.trans x7).trans x8)).1.1 (Nat.le_refl _), (o5.ext ((x6.trans x7).trans x8)).1.2⟩, (o5.ext ((x6.trans x7).trans x8)).2⟩
  go_wp2_with fail
  refine (eqStringS_same _ _ _ _ _ _ _ q14.rd (o3.rd.ext x13)).mono ?_
  rintro e w16 ⟨rfl, s16⟩
  have x16 := s16.ext
  have y17 := (q14.ext x16)
  go_wp2_with fail
  refine (markStringS_any _ _ _ _ _ _ _ y17 (by decide) (by decide) (by omega)).mono ?_
  rintro e w17 ⟨rfl, m17, k17⟩
  have x18 := k17.ext (x10.trans x16) y17.1.1 (((x1.trans x2).trans x3).trans x4).size
  have x19 := k17.ext (x11.trans x16) y17.1.1 (((x1.trans x2).trans x3).trans x4).size
  have x20 := k17.ext (x12.trans x16) y17.1.1 (x3.trans x4).size
  have x21 := k17.ext (x13.trans x16) y17.1.1 x4.size
  go_wp2_with fail
  refine (heldStringS_marks _ _ _ _ _ m17.rd (by decide) (by decide) (by omega)).mono ?_
  rintro e w22 ⟨rfl, x22⟩
  go_wp2_with fail
  refine (toPlaceS_any _ _ _ _ _ (hr_aList.ext (x19.trans x22))).mono ?_
  rintro e w23 ⟨v23, rfl, a23, n23, c23, rfl, o23, x23⟩
  obtain rfl : n_aList = n23 := hr_aList.len.symm.trans o23.rd.len
  go_wp2_with fail
  refine (implHomonymsIn_any _ _ _ _ _ _ o23.rd o23.cap (hmax.ext ((x18.trans x22).trans x23))).mono ?_
  rintro e w24 ⟨v24, rfl, a24, n24, c24, rfl, hn24, o24, x24⟩
  obtain rfl : n3 = n24 := o3.rd.len.symm.trans o24.rd.len
  go_wp2_with fail
  refine (eqStringS_same _ _ _ _ _ _ _ o24.rd (o3.rd.ext (((x21.trans x22).trans x23).trans x24))).mono ?_
  rintro e w25 ⟨rfl, s25⟩
  have x25 := s25.ext
  go_wp2_with fail
  refine (heldStringS_marks _ _ _ _ _ (m17.rd.ext (((x22.trans x23).trans x24).trans x25)) (by decide) (by decide) (by omega)).mono ?_
  rintro e w26 ⟨rfl, x26⟩
  go_wp2
  go_ret
  exact ⟨rfl, (((((x18.trans x22).trans x23).trans x24).trans x25).trans x26)⟩

/-! The row. -/
set_option maxRecDepth 100000 in
theorem lifted (os : Os) (started : os.Started) (H : Type) (enc : TypeId × Value → H) :
    ReturnsInHanded {} Tryz.checked os 3 .any (fun w args => (Rows.fnExactHomonymsInSpec.pre enc Tryz.prog Tryz.f3 Rows.fnExactHomonymsInRow.domain false w args ∧ laidMetH Tryz.prog Rows.fnExactHomonymsInRow.laid w) ∧ sizedMet enc Tryz.prog Tryz.f3 (OpenSpec.ofChange Rows.fnExactHomonymsInSpec) false w args)
      (Rows.fnExactHomonymsInSpec.post enc Tryz.prog Tryz.f3 false true false false) := by
  refine handed_shaped_and (C := Tryz.checked) (X := fun w _ => laidMetH Tryz.prog Rows.fnExactHomonymsInRow.laid w) (fun _ _ _ hh h => h.of_heap hh) own started (by kernel_rfl) Tryz.func3
    (ChangeSpec.witness_shaped (enc := enc) (C := Tryz.checked) (os := os) (X := fun w _ => laidMetH Tryz.prog Rows.fnExactHomonymsInRow.laid w) false (World.laidAll Tryz.prog os Rows.fnExactHomonymsInRow.laid) #[.slice none 0 0, .int .i64 0] 8 (World.laidAll_os _ _ _)
      (World.shaped_of_ZipB (by kernel_rfl) (by kernel_rfl)) (by kernel_rfl) (by kernel_rfl) (by kernel_rfl)
      (by rw [MakeChecks.laidMetH_plain _ _ _ (by kernel_rfl)]; exact laidMet_laidAll _ (by kernel_rfl) (by kernel_rfl))) ?_
  intro W base args ds gs before hval0 hW hcnd hshaped hlaid
  have hval : ∀ (j : Nat) t v, Tryz.f3.params[j]? = some t → args[j]? = some v → Value.okWide Tryz.prog W .any base t v := hval0
  have hW' := hW
  obtain ⟨p, q, hA0, hV, rfl, hfz, hnd⟩ := hW
  have hA : DataW.TrodAll enc Tryz.prog W 0 (fun _ => true) true Tryz.f3.params.toList args.toList ds p := hA0
  rw [Tryz.params3] at hA hval
  obtain ⟨v0, vs0, d0, ds0, p0, q0, hargs, rfl, rfl, h0, r0⟩ := trodAll_cons hA
  obtain ⟨v1, vs1, d1, ds1, p1, q1, rfl, rfl, rfl, h1, r1⟩ := trodAll_cons r0
  obtain ⟨rfl, rfl, rfl⟩ := trodAll_nil r1
  obtain rfl : args = #[v0, v1] := by cases args; simp_all
  obtain ⟨rfl, rfl⟩ := trodVars_none hV
  obtain ⟨a0, n0, c0, rfl⟩ := okWide_slice Tryz.underlying22 (hval 0 22 v0 rfl rfl)
  have k0 := h0
  have lt0 := trod_lt h0
  obtain ⟨z0, f0, _⟩ := open_inPlace h0
  obtain ⟨a1, rfl, rfl, rfl, f1⟩ := open_int Tryz.underlying2 (hval 1 2 v1 rfl rfl) h1
  clear hA0 hval0
  refine (walk a0 n0 c0 z0 a1 W f0 f1 (MaxW.of_shaped hshaped)).mono fun e W' ⟨he, bel⟩ => ?_
  subst he
  exact ⟨_, rfl, _, _, _, [], _, [], hW', trodAll_mk1 (shut_bool Tryz.underlying4 _), (trodAll_cons_mk (Below.trod laidOut (by kernel_rfl) (of_decide_eq_true (by kernel_rfl)) k0 bel lt0) (trodAll_cons_mk (shut_int Tryz.underlying2 f1) trodAll_mk0)), rfl, Below.frame bel _, fun h => by cases h⟩

theorem over : Rows.fnExactHomonymsInRow.holds Tryz.pinned (OpenSpec.ofChange Rows.fnExactHomonymsInSpec) :=
  OpenClaim.holds_of_wide 3 Tryz.f3 rfl rfl rfl rfl rfl rfl rfl ⟨rfl, rfl, rfl, rfl, rfl⟩ rfl rfl rfl rfl rfl (by kernel_rfl) Tryz.func3 (by kernel_rfl)
    (of_decide_eq_true (by kernel_rfl)) (by unfold Func.isWrapper; first | (rw [if_pos (by decide +kernel)]; kernel_rfl) | (rw [if_neg (by decide +kernel)]; exact ⟨rfl, rfl⟩))
    (fun os started H enc _ => lifted os started H enc)

theorem proved : Rows.FnExactHomonymsInCardSaid :=
  Claim7.holds_tied_plain_at .later [] Rows.fnExactHomonymsInCard.laidKinds true Rows.fnExactHomonymsInCard.stood.harness Rows.fnExactHomonymsInCard.stood.looks over (fun _ h => by cases h) (by kernel_rfl) (fun _ h => by cases h) fnExactHomonymsIn_row_tie rfl ⟨rfl, rfl⟩ (by kernel_rfl) rfl
    (fun f fn hf hfn => by
      obtain rfl : f = 3 := Option.some.inj ((show Tryz.prog.funcNamed "loop.example/g01030/laws.FnExactHomonymsIn" = some 3 by kernel_rfl).symm.trans hf) |>.symm
      obtain rfl : fn = Tryz.f3 := (Option.some.inj (Tryz.func3.symm.trans hfn)).symm
      exact ⟨by kernel_rfl, fun j t ht => by
        rw [Tryz.params3] at ht
        have hm : t ∈ [22, 2] := by simpa using Array.mem_of_getElem? ht
        have hall : ([22, 2].all fun u => !Tryz.prog.wantsStandIn u) = true := by kernel_rfl
        exact (show Tryz.prog.wantsStandIn t = false by simpa using List.all_eq_true.1 hall t hm)⟩)
    (by kernel_rfl)


end Go.Proofs.YtdacmbclkpgngaaGreatDoor.fnExactHomonymsIn

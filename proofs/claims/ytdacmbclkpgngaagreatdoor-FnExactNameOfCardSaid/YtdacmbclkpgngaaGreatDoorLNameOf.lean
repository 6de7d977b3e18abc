/-
  FnExactNameOf returns true for every input: the program and the reference give the same answer, the arguments are left as they were, and what is handed back is new memory. No condition.
-/
import Derived.Test.YtdacmbclkpgngaaGreatDoorNO
import Derived.Test.YtdacmbclkpgngaaGreatDoorMPlace
import Derived.Test.YtdacmbclkpgngaaGreatDoorKPlace
import Derived.Test.YtdacmbclkpgngaaGreatDoorW3
import Derived.Test.YtdacmbclkpgngaaGreatDoorT4
import Derived.Test.YtdacmbclkpgngaaGreatDoorT5
import Derived.Test.YtdacmbclkpgngaaGreatDoorW
import Derived.Test.YtdacmbclkpgngaaGreatDoorW4
import Derived.Test.YtdacmbclkpgngaaGreatDoorTie
import Derived.Test.YtdacmbclkpgngaaGreatDoorCards
namespace Go.Proofs.YtdacmbclkpgngaaGreatDoor.fnExactNameOf
open Go.ChangeShapes Go.WideShapes Go.ChangeAt Go.RowKit
open Go.ChangeMaps (open_string shut_string)

set_option maxRecDepth 100000 in
set_option maxHeartbeats 2000000 in
theorem walk (a_aList : Option Addr) (n_aList c_aList : Nat) (z_aList : List PlaceV) (x_aCode : ByteArray) (a_aLanguages : Option Addr) (n_aLanguages c_aLanguages : Nat) (z_aLanguages : List ByteArray) (x_aYear : Int) (w : World) (hi_aList : InPlace w a_aList n_aList z_aList) (_ : x_aCode.size ≤ maxLen) (hi_aLanguages : InS w a_aLanguages n_aLanguages z_aLanguages) (_ : (Lit.int .i64 x_aYear).wf = true) (hmax : MaxW w) :
    Calls Tryz.prog 4 #[.slice a_aList n_aList c_aList, .string x_aCode, .slice a_aLanguages n_aLanguages c_aLanguages, .int .i64 x_aYear] w fun e w' => e = .returned (.bool true) ∧ Ext w w' := by
  by_cases hbig_aCode : 1048576 < x_aCode.size
  · have hb_aCode : (1048576 : Int) < x_aCode.size := by omega
    go_enter Tryz.func4, Tryz.ntmps4
    go_wp2
    go_ret
    exact ⟨rfl, Ext.refl _⟩
  have hs_aCode : x_aCode.size ≤ 1048576 := by omega
  go_enter Tryz.func4, Tryz.ntmps4
  go_wp2_with fail
  refine (szPlaceS_any _ _ _ _ _ _ hi_aList (by omega) (by omega)).mono ?_
  rintro e w1 ⟨r1, rfl, l1, x1⟩
  by_cases hl1 : r1 < 0
  · go_wp2
    go_ret
    exact ⟨rfl, x1⟩
  have hq1 := l1.1 (by omega)
  have hr_aList := leftPlace_rd hi_aList l1 (by omega) (by omega)
  go_wp2_with fail
  refine (szStringS_any _ _ _ _ _ _ (hi_aLanguages.ext x1) (by omega) (by omega)).mono ?_
  rintro e w2 ⟨⟨r2, rfl, l2⟩, rfl⟩
  by_cases hl2 : r2 < 0
  · go_wp2
    go_ret
    exact ⟨rfl, x1⟩
  have hq2 := l2.1 (by omega)
  have hr_aLanguages := l2.rdS hi_aLanguages (by omega) (by omega)
  go_wp2_with fail
  refine (toPlaceS_any _ _ _ _ _ (hr_aList.ext x1)).mono ?_
  rintro e w3 ⟨v3, rfl, a3, n3, c3, rfl, o3, x3⟩
  obtain rfl : n_aList = n3 := hr_aList.len.symm.trans o3.rd.len
  go_wp2_with fail
  refine (toStringS_any _ _ _ _ _ (hr_aLanguages.ext (x1.trans x3))).mono ?_
  rintro e w4 ⟨v4, rfl, a4, n4, c4, rfl, o4, x4⟩
  obtain rfl : n_aLanguages = n4 := hr_aLanguages.len.symm.trans o4.rd.len
  go_wp2_with fail
  refine (specNameOf_any _ _ _ _ _ _ _ _ _ _ _ (o3.rd.ext x4) (by omega) o4.rd).mono ?_
  rintro e w5 ⟨rfl, x5⟩
  go_wp2_with fail
  refine (toPlaceS_any _ _ _ _ _ (hr_aList.ext (((x1.trans x3).trans x4).trans x5))).mono ?_
  rintro e w6 ⟨v6, rfl, a6, n6, c6, rfl, o6, x6⟩
  obtain rfl : n_aList = n6 := hr_aList.len.symm.trans o6.rd.len
  go_wp2_with fail
  refine (toStringS_any _ _ _ _ _ (hr_aLanguages.ext ((((x1.trans x3).trans x4).trans x5).trans x6))).mono ?_
  rintro e w7 ⟨v7, rfl, a7, n7, c7, rfl, o7, x7⟩
  obtain rfl : n_aLanguages = n7 := hr_aLanguages.len.symm.trans o7.rd.len
  go_wp2_with fail
  refine (implNameOf_any _ _ _ _ _ _ _ _ _ _ _ (o6.rd.ext x7) (o6.ext x7).cap (by omega) o7.rd (hmax.ext (((((x1.trans x3).trans x4).trans x5).trans x6).trans x7))).mono ?_
  rintro e w8 ⟨rfl, x8⟩
  go_wp2_with fail
  refine (toPlaceS_any _ _ _ _ _ (hr_aList.ext ((((((x1.trans x3).trans x4).trans x5).trans x6).trans x7).trans x8))).mono ?_
  rintro e w9 ⟨v9, rfl, a9, n9, c9, rfl, o9, x9⟩
  obtain rfl : n_aList = n9 := hr_aList.len.symm.trans o9.rd.len
  go_wp2_with fail
  refine (eqPlaceS_same _ _ _ _ _ _ _ (o6.rd.ext ((x7.trans x8).trans x9)) o9.rd).mono ?_
  rintro e w10 ⟨rfl, x10⟩
  go_wp2_with fail
  refine (toStringS_any _ _ _ _ _ (hr_aLanguages.ext ((((((((x1.trans x3).trans x4).trans x5).trans x6).trans x7).trans x8).trans x9).trans x10))).mono ?_
  rintro e w11 ⟨v11, rfl, a11, n11, c11, rfl, o11, x11⟩
  obtain rfl : n_aLanguages = n11 := hr_aLanguages.len.symm.trans o11.rd.len
  go_wp2_with fail
  refine (eqStringS_same _ _ _ _ _ _ _ (o7.rd.ext (((x8.trans x9).trans x10).trans x11)) o11.rd).mono ?_
  rintro e w12 ⟨rfl, s12⟩
  have x12 := s12.ext
  go_wp2
  go_ret
  exact ⟨rfl, ((((((((((x1.trans x3).trans x4).trans x5).trans x6).trans x7).trans x8).trans x9).trans x10).trans x11).trans x12)⟩

/-! The row. -/
set_option maxRecDepth 100000 in
theorem lifted (os : Os) (started : os.Started) (H : Type) (enc : TypeId × Value → H) :
    ReturnsInHanded {} Tryz.checked os 4 .any (fun w args => (Rows.fnExactNameOfSpec.pre enc Tryz.prog Tryz.f4 Rows.fnExactNameOfRow.domain false w args ∧ laidMetH Tryz.prog Rows.fnExactNameOfRow.laid w) ∧ sizedMet enc Tryz.prog Tryz.f4 (OpenSpec.ofChange Rows.fnExactNameOfSpec) false w args)
      (Rows.fnExactNameOfSpec.post enc Tryz.prog Tryz.f4 false true false false) := by
  refine handed_shaped_and (C := Tryz.checked) (X := fun w _ => laidMetH Tryz.prog Rows.fnExactNameOfRow.laid w) (fun _ _ _ hh h => h.of_heap hh) own started (by kernel_rfl) Tryz.func4
    (ChangeSpec.witness_shaped (enc := enc) (C := Tryz.checked) (os := os) (X := fun w _ => laidMetH Tryz.prog Rows.fnExactNameOfRow.laid w) false (World.laidAll Tryz.prog os Rows.fnExactNameOfRow.laid) #[.slice none 0 0, .string ⟨#[]⟩, .slice none 0 0, .int .i64 0] 8 (World.laidAll_os _ _ _)
      (World.shaped_of_ZipB (by kernel_rfl) (by kernel_rfl)) (by kernel_rfl) (by kernel_rfl) (by kernel_rfl)
      (by rw [MakeChecks.laidMetH_plain _ _ _ (by kernel_rfl)]; exact laidMet_laidAll _ (by kernel_rfl) (by kernel_rfl))) ?_
  intro W base args ds gs before hval0 hW hcnd hshaped hlaid
  have hval : ∀ (j : Nat) t v, Tryz.f4.params[j]? = some t → args[j]? = some v → Value.okWide Tryz.prog W .any base t v := hval0
  have hW' := hW
  obtain ⟨p, q, hA0, hV, rfl, hfz, hnd⟩ := hW
  have hA : DataW.TrodAll enc Tryz.prog W 0 (fun _ => true) true Tryz.f4.params.toList args.toList ds p := hA0
  rw [Tryz.params4] at hA hval
  obtain ⟨v0, vs0, d0, ds0, p0, q0, hargs, rfl, rfl, h0, r0⟩ := trodAll_cons hA
  obtain ⟨v1, vs1, d1, ds1, p1, q1, rfl, rfl, rfl, h1, r1⟩ := trodAll_cons r0
  obtain ⟨v2, vs2, d2, ds2, p2, q2, rfl, rfl, rfl, h2, r2⟩ := trodAll_cons r1
  obtain ⟨v3, vs3, d3, ds3, p3, q3, rfl, rfl, rfl, h3, r3⟩ := trodAll_cons r2
  obtain ⟨rfl, rfl, rfl⟩ := trodAll_nil r3
  obtain rfl : args = #[v0, v1, v2, v3] := by cases args; simp_all
  obtain ⟨rfl, rfl⟩ := trodVars_none hV
  obtain ⟨a0, n0, c0, rfl⟩ := okWide_slice Tryz.underlying22 (hval 0 22 v0 rfl rfl)
  have k0 := h0
  have lt0 := trod_lt h0
  obtain ⟨z0, f0, _⟩ := open_inPlace h0
  obtain ⟨a1, rfl, rfl, rfl, f1⟩ := open_string Tryz.underlying9 (hval 1 9 v1 rfl rfl) h1
  obtain ⟨a2, n2, c2, rfl⟩ := okWide_slice Tryz.underlying24 (hval 2 24 v2 rfl rfl)
  have k2 := h2
  have lt2 := trod_lt h2
  obtain ⟨z2, f2, _⟩ := open_inS h2
  obtain ⟨a3, rfl, rfl, rfl, f3⟩ := open_int Tryz.underlying2 (hval 3 2 v3 rfl rfl) h3
  clear hA0 hval0
  refine (walk a0 n0 c0 z0 a1 a2 n2 c2 z2 a3 W f0 f1 f2 f3 (MaxW.of_shaped hshaped)).mono fun e W' ⟨he, bel⟩ => ?_
  subst he
  exact ⟨_, rfl, _, _, _, [], _, [], hW', trodAll_mk1 (shut_bool Tryz.underlying4 _), (trodAll_cons_mk (Below.trod laidOut (by kernel_rfl) (of_decide_eq_true (by kernel_rfl)) k0 bel lt0) (trodAll_cons_mk (shut_string Tryz.underlying9 f1) (trodAll_cons_mk (Below.trod laidOut (by kernel_rfl) (of_decide_eq_true (by kernel_rfl)) k2 bel lt2) (trodAll_cons_mk (shut_int Tryz.underlying2 f3) trodAll_mk0)))), rfl, Below.frame bel _, fun h => by cases h⟩

theorem over : Rows.fnExactNameOfRow.holds Tryz.pinned (OpenSpec.ofChange Rows.fnExactNameOfSpec) :=
  OpenClaim.holds_of_wide 4 Tryz.f4 rfl rfl rfl rfl rfl rfl rfl ⟨rfl, rfl, rfl, rfl, rfl⟩ rfl rfl rfl rfl rfl (by kernel_rfl) Tryz.func4 (by kernel_rfl)
    (of_decide_eq_true (by kernel_rfl)) (by unfold Func.isWrapper; first | (rw [if_pos (by decide +kernel)]; kernel_rfl) | (rw [if_neg (by decide +kernel)]; exact ⟨rfl, rfl⟩))
    (fun os started H enc _ => lifted os started H enc)

theorem proved : Rows.FnExactNameOfCardSaid :=
  Claim7.holds_tied_plain_at .later [] Rows.fnExactNameOfCard.laidKinds true Rows.fnExactNameOfCard.stood.harness Rows.fnExactNameOfCard.stood.looks over (fun _ h => by cases h) (by kernel_rfl) (fun _ h => by cases h) fnExactNameOf_row_tie rfl ⟨rfl, rfl⟩ (by kernel_rfl) rfl
    (fun f fn hf hfn => by
      obtain rfl : f = 4 := Option.some.inj ((show Tryz.prog.funcNamed "loop.example/g01030/laws.FnExactNameOf" = some 4 by kernel_rfl).symm.trans hf) |>.symm
      obtain rfl : fn = Tryz.f4 := (Option.some.inj (Tryz.func4.symm.trans hfn)).symm
      exact ⟨by kernel_rfl, fun j t ht => by
        rw [Tryz.params4] at ht
        have hm : t ∈ [22, 9, 24, 2] := by simpa using Array.mem_of_getElem? ht
        have hall : ([22, 9, 24, 2].all fun u => !Tryz.prog.wantsStandIn u) = true := by kernel_rfl
        exact (show Tryz.prog.wantsStandIn t = false by simpa using List.all_eq_true.1 hall t hm)⟩)
    (by kernel_rfl)


end Go.Proofs.YtdacmbclkpgngaaGreatDoor.fnExactNameOf

/-
  FnExactMeetingIn returns true for every input: the program and the reference give the same answer, the arguments are left as they were, and what is handed back is new memory. No condition.
-/
import Derived.Test.YtgbfihjimbpgnaaDoorLM
import Derived.Test.YtgbfihjimbpgnaaDoorMLink
import Derived.Test.YtgbfihjimbpgnaaDoorW6
import Derived.Test.YtgbfihjimbpgnaaDoorW
import Derived.Test.YtgbfihjimbpgnaaDoorW4
import Derived.Test.YtgbfihjimbpgnaaDoorTie
import Derived.Test.YtgbfihjimbpgnaaDoorCards
namespace Go.Proofs.YtgbfihjimbpgnaaDoor.fnExactMeetingIn
open Go.ChangeShapes Go.WideShapes Go.ChangeAt Go.RowKit
open Go.ChangeMaps (open_string shut_string)

set_option maxRecDepth 100000 in
set_option maxHeartbeats 2000000 in
theorem walk (a_aList : Option Addr) (n_aList c_aList : Nat) (z_aList : List LinkV) (x_aA : ByteArray) (x_aB : ByteArray) (x_aYear : Int) (w : World) (hi_aList : InLink w a_aList n_aList z_aList) (_ : x_aA.size ≤ maxLen) (_ : x_aB.size ≤ maxLen) (_ : (Lit.int .i64 x_aYear).wf = true) :
    Calls Tryd.prog 5 #[.slice a_aList n_aList c_aList, .string x_aA, .string x_aB, .int .i64 x_aYear] w fun e w' => e = .returned (.bool true) ∧ Ext w w' := by
  by_cases hbig_aA : 1048576 < x_aA.size
  · have hb_aA : (1048576 : Int) < x_aA.size := by omega
    go_enter Tryd.func5, Tryd.ntmps5
    go_wp2
    go_ret
    exact ⟨rfl, Ext.refl _⟩
  have hs_aA : x_aA.size ≤ 1048576 := by omega
  by_cases hbig_aB : 1048576 < x_aB.size
  · have hb_aB : (1048576 : Int) < x_aB.size := by omega
    go_enter Tryd.func5, Tryd.ntmps5
    go_wp2
    go_ret
    exact ⟨rfl, Ext.refl _⟩
  have hs_aB : x_aB.size ≤ 1048576 := by omega
  go_enter Tryd.func5, Tryd.ntmps5
  go_wp2_with fail
  refine (szLinkS_any _ _ _ _ _ _ hi_aList (by omega) (by omega)).mono ?_
  rintro e w1 ⟨r1, rfl, l1, x1⟩
  by_cases hl1 : r1 < 0
  · go_wp2
    go_ret
    exact ⟨rfl, x1⟩
  have hq1 := l1.1 (by omega)
  have hr_aList := leftLink_rd hi_aList l1 (by omega) (by omega)
  go_wp2_with fail
  refine (toLinkS_any _ _ _ _ _ (hr_aList.ext x1)).mono ?_
  rintro e w2 ⟨v2, rfl, a2, n2, c2, rfl, o2, x2⟩
  obtain rfl : n_aList = n2 := hr_aList.len.symm.trans o2.rd.len
  go_wp2_with fail
  refine (specMeetingIn_any _ _ _ _ _ _ _ _ o2.rd (by omega) (by omega) (by omega)).mono ?_
  rintro e w3 ⟨rfl, x3⟩
  go_wp2_with fail
  refine (toLinkS_any _ _ _ _ _ (hr_aList.ext ((x1.trans x2).trans x3))).mono ?_
  rintro e w4 ⟨v4, rfl, a4, n4, c4, rfl, o4, x4⟩
  obtain rfl : n_aList = n4 := hr_aList.len.symm.trans o4.rd.len
  go_wp2_with fail
  refine (implMeetingIn_any _ _ _ _ _ _ _ _ o4.rd o4.cap (by omega) (by omega) (by omega)).mono ?_
  rintro e w5 ⟨rfl, x5⟩
  go_wp2_with fail
  refine (toLinkS_any _ _ _ _ _ (hr_aList.ext ((((x1.trans x2).trans x3).trans x4).trans x5))).mono ?_
  rintro e w6 ⟨v6, rfl, a6, n6, c6, rfl, o6, x6⟩
  obtain rfl : n_aList = n6 := hr_aList.len.symm.trans o6.rd.len
  go_wp2_with fail
  refine (eqLinkS_same _ _ _ _ _ _ _ (o4.rd.ext (x5.trans x6)) o6.rd).mono ?_
  rintro e w7 ⟨rfl, x7⟩
  go_wp2
  go_ret
  exact ⟨rfl, ((((((x1.trans x2).trans x3).trans x4).trans x5).trans x6).trans x7)⟩

/-! The row. -/
set_option maxRecDepth 100000 in
theorem lifted (os : Os) (started : os.Started) (H : Type) (enc : TypeId × Value → H) :
    ReturnsInHanded {} Tryd.checked os 5 .any (fun w args => (Rows.fnExactMeetingInSpec.pre enc Tryd.prog Tryd.f5 Rows.fnExactMeetingInRow.domain false w args ∧ laidMetH Tryd.prog Rows.fnExactMeetingInRow.laid w) ∧ sizedMet enc Tryd.prog Tryd.f5 (OpenSpec.ofChange Rows.fnExactMeetingInSpec) false w args)
      (Rows.fnExactMeetingInSpec.post enc Tryd.prog Tryd.f5 false true false false) := by
  refine handed_shaped_and (C := Tryd.checked) (X := fun w _ => laidMetH Tryd.prog Rows.fnExactMeetingInRow.laid w) (fun _ _ _ hh h => h.of_heap hh) own started (by kernel_rfl) Tryd.func5
    (ChangeSpec.witness_shaped (enc := enc) (C := Tryd.checked) (os := os) (X := fun w _ => laidMetH Tryd.prog Rows.fnExactMeetingInRow.laid w) false (World.laidAll Tryd.prog os Rows.fnExactMeetingInRow.laid) #[.slice none 0 0, .string ⟨#[]⟩, .string ⟨#[]⟩, .int .i64 0] 8 (World.laidAll_os _ _ _)
      (World.shaped_of_ZipB (by kernel_rfl) (by kernel_rfl)) (by kernel_rfl) (by kernel_rfl) (by kernel_rfl)
      (by rw [MakeChecks.laidMetH_plain _ _ _ (by kernel_rfl)]; exact laidMet_laidAll _ (by kernel_rfl) (by kernel_rfl))) ?_
  intro W base args ds gs before hval0 hW hcnd hshaped hlaid
  have hval : ∀ (j : Nat) t v, Tryd.f5.params[j]? = some t → args[j]? = some v → Value.okWide Tryd.prog W .any base t v := hval0
  have hW' := hW
  obtain ⟨p, q, hA0, hV, rfl, hfz, hnd⟩ := hW
  have hA : DataW.TrodAll enc Tryd.prog W 0 (fun _ => true) true Tryd.f5.params.toList args.toList ds p := hA0
  rw [Tryd.params5] at hA hval
  obtain ⟨v0, vs0, d0, ds0, p0, q0, hargs, rfl, rfl, h0, r0⟩ := trodAll_cons hA
  obtain ⟨v1, vs1, d1, ds1, p1, q1, rfl, rfl, rfl, h1, r1⟩ := trodAll_cons r0
  obtain ⟨v2, vs2, d2, ds2, p2, q2, rfl, rfl, rfl, h2, r2⟩ := trodAll_cons r1
  obtain ⟨v3, vs3, d3, ds3, p3, q3, rfl, rfl, rfl, h3, r3⟩ := trodAll_cons r2
  obtain ⟨rfl, rfl, rfl⟩ := trodAll_nil r3
  obtain rfl : args = #[v0, v1, v2, v3] := by cases args; simp_all
  obtain ⟨rfl, rfl⟩ := trodVars_none hV
  obtain ⟨a0, n0, c0, rfl⟩ := okWide_slice Tryd.underlying22 (hval 0 22 v0 rfl rfl)
  have k0 := h0
  have lt0 := trod_lt h0
  obtain ⟨z0, f0, _⟩ := open_inLink h0
  obtain ⟨a1, rfl, rfl, rfl, f1⟩ := open_string Tryd.underlying9 (hval 1 9 v1 rfl rfl) h1
  obtain ⟨a2, rfl, rfl, rfl, f2⟩ := open_string Tryd.underlying9 (hval 2 9 v2 rfl rfl) h2
  obtain ⟨a3, rfl, rfl, rfl, f3⟩ := open_int Tryd.underlying2 (hval 3 2 v3 rfl rfl) h3
  clear hA0 hval0
  refine (walk a0 n0 c0 z0 a1 a2 a3 W f0 f1 f2 f3).mono fun e W' ⟨he, bel⟩ => ?_
  subst he
  exact ⟨_, rfl, _, _, _, [], _, [], hW', trodAll_mk1 (shut_bool Tryd.underlying4 _), (trodAll_cons_mk (Below.trod laidOut (by kernel_rfl) (of_decide_eq_true (by kernel_rfl)) k0 bel lt0) (trodAll_cons_mk (shut_string Tryd.underlying9 f1) (trodAll_cons_mk (shut_string Tryd.underlying9 f2) (trodAll_cons_mk (shut_int Tryd.underlying2 f3) trodAll_mk0)))), rfl, Below.frame bel _, fun h => by cases h⟩

theorem over : Rows.fnExactMeetingInRow.holds Tryd.pinned (OpenSpec.ofChange Rows.fnExactMeetingInSpec) :=
  OpenClaim.holds_of_wide 5 Tryd.f5 rfl rfl rfl rfl rfl rfl rfl ⟨rfl, rfl, rfl, rfl, rfl⟩ rfl rfl rfl rfl rfl (by kernel_rfl) Tryd.func5 (by kernel_rfl)
    (of_decide_eq_true (by kernel_rfl)) (by unfold Func.isWrapper; first | (rw [if_pos (by decide +kernel)]; kernel_rfl) | (rw [if_neg (by decide +kernel)]; exact ⟨rfl, rfl⟩))
    (fun os started H enc _ => lifted os started H enc)

theorem proved : Rows.FnExactMeetingInCardSaid :=
  Claim7.holds_tied_plain_at .later [] Rows.fnExactMeetingInCard.laidKinds true Rows.fnExactMeetingInCard.stood.harness Rows.fnExactMeetingInCard.stood.looks over (fun _ h => by cases h) (by kernel_rfl) (fun _ h => by cases h) fnExactMeetingIn_row_tie rfl ⟨rfl, rfl⟩ (by kernel_rfl) rfl
    (fun f fn hf hfn => by
      obtain rfl : f = 5 := Option.some.inj ((show Tryd.prog.funcNamed "loop.example/g01030/laws.FnExactMeetingIn" = some 5 by kernel_rfl).symm.trans hf) |>.symm
      obtain rfl : fn = Tryd.f5 := (Option.some.inj (Tryd.func5.symm.trans hfn)).symm
      exact ⟨by kernel_rfl, fun j t ht => by
        rw [Tryd.params5] at ht
        have hm : t ∈ [22, 9, 9, 2] := by simpa using Array.mem_of_getElem? ht
        have hall : ([22, 9, 9, 2].all fun u => !Tryd.prog.wantsStandIn u) = true := by kernel_rfl
        exact (show Tryd.prog.wantsStandIn t = false by simpa using List.all_eq_true.1 hall t hm)⟩)
    (by kernel_rfl)


end Go.Proofs.YtgbfihjimbpgnaaDoor.fnExactMeetingIn

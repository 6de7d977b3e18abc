/-
  FnExactAreLinks returns true for every input: the program and the reference give the same answer, the arguments are left as they were, and what is handed back is new memory. No condition.
-/
import Derived.Test.YtgbfihjimbpgnaaDoorLA2
import Derived.Test.YtgbfihjimbpgnaaDoorW6
import Derived.Test.YtgbfihjimbpgnaaDoorMLink
import Derived.Test.YtgbfihjimbpgnaaDoorW
import Derived.Test.YtgbfihjimbpgnaaDoorW4
import Derived.Test.YtgbfihjimbpgnaaDoorTie
import Derived.Test.YtgbfihjimbpgnaaDoorCards
namespace Go.Proofs.YtgbfihjimbpgnaaDoor.fnExactAreLinks
open Go.ChangeShapes Go.WideShapes Go.ChangeAt Go.RowKit

set_option maxRecDepth 100000 in
set_option maxHeartbeats 2000000 in
theorem walk (a_aList : Option Addr) (n_aList c_aList : Nat) (z_aList : List LinkV) (w : World) (hi_aList : InLink w a_aList n_aList z_aList) :
    Calls Tryd.prog 3 #[.slice a_aList n_aList c_aList] w fun e w' => e = .returned (.bool true) ∧ Ext w w' := by
  go_enter Tryd.func3, Tryd.ntmps3
  go_wp2_with fail
  refine (szLinkS_any _ _ _ _ _ _ hi_aList (by omega) (by omega)).mono ?_
  rintro e w1 ⟨r1, rfl, l1, x1⟩
  by_cases hl1 : r1 < 0
  · go_wp2
    go_ret
    exact ⟨rfl, x1⟩
  have hq1 := l1.1 (by omega)
  have hr_aList := leftLink_rd hi_aList l1 (by omega) (by omega)
  go_wp2_with fail
  refine (toLinkS_any _ _ _ _ _ (hr_aList.ext x1)).mono ?_
  rintro e w2 ⟨v2, rfl, a2, n2, c2, rfl, o2, x2⟩
  obtain rfl : n_aList = n2 := hr_aList.len.symm.trans o2.rd.len
  go_wp2_with fail
  refine (specAreLinks_any _ _ _ _ _ o2.rd (by omega)).mono ?_
  rintro e w3 ⟨rfl, x3⟩
  go_wp2_with fail
  refine (toLinkS_any _ _ _ _ _ (hr_aList.ext ((x1.trans x2).trans x3))).mono ?_
  rintro e w4 ⟨v4, rfl, a4, n4, c4, rfl, o4, x4⟩
  obtain rfl : n_aList = n4 := hr_aList.len.symm.trans o4.rd.len
  go_wp2_with fail
  refine (implAreLinks_any _ _ _ _ _ o4.rd o4.cap (by omega)).mono ?_
  rintro e w5 ⟨rfl, x5⟩
  go_wp2_with fail
  refine (toLinkS_any _ _ _ _ _ (hr_aList.ext ((((x1.trans x2).trans x3).trans x4).trans x5))).mono ?_
  rintro e w6 ⟨v6, rfl, a6, n6, c6, rfl, o6, x6⟩
  obtain rfl : n_aList = n6 := hr_aList.len.symm.trans o6.rd.len
  go_wp2_with fail
  refine (eqLinkS_same _ _ _ _ _ _ _ (o4.rd.ext (x5.trans x6)) o6.rd).mono ?_
  rintro e w7 ⟨rfl, x7⟩
  go_wp2
  go_ret
  exact ⟨rfl, ((((((x1.trans x2).trans x3).trans x4).trans x5).trans x6).trans x7)⟩

/-! The row. -/
set_option maxRecDepth 100000 in
theorem lifted (os : Os) (started : os.Started) (H : Type) (enc : TypeId × Value → H) :
    ReturnsInHanded {} Tryd.checked os 3 .any (fun w args => (Rows.fnExactAreLinksSpec.pre enc Tryd.prog Tryd.f3 Rows.fnExactAreLinksRow.domain false w args ∧ laidMetH Tryd.prog Rows.fnExactAreLinksRow.laid w) ∧ sizedMet enc Tryd.prog Tryd.f3 (OpenSpec.ofChange Rows.fnExactAreLinksSpec) false w args)
      (Rows.fnExactAreLinksSpec.post enc Tryd.prog Tryd.f3 false true false false) := by
  refine handed_shaped_and (C := Tryd.checked) (X := fun w _ => laidMetH Tryd.prog Rows.fnExactAreLinksRow.laid w) (fun _ _ _ hh h => h.of_heap hh) own started (by kernel_rfl) Tryd.func3
    (ChangeSpec.witness_shaped (enc := enc) (C := Tryd.checked) (os := os) (X := fun w _ => laidMetH Tryd.prog Rows.fnExactAreLinksRow.laid w) false (World.laidAll Tryd.prog os Rows.fnExactAreLinksRow.laid) #[.slice none 0 0] 8 (World.laidAll_os _ _ _)
      (World.shaped_of_ZipB (by kernel_rfl) (by kernel_rfl)) (by kernel_rfl) (by kernel_rfl) (by kernel_rfl)
      (by rw [MakeChecks.laidMetH_plain _ _ _ (by kernel_rfl)]; exact laidMet_laidAll _ (by kernel_rfl) (by kernel_rfl))) ?_
  intro W base args ds gs before hval0 hW hcnd hshaped hlaid
  have hval : ∀ (j : Nat) t v, Tryd.f3.params[j]? = some t → args[j]? = some v → Value.okWide Tryd.prog W .any base t v := hval0
  have hW' := hW
  obtain ⟨p, q, hA0, hV, rfl, hfz, hnd⟩ := hW
  have hA : DataW.TrodAll enc Tryd.prog W 0 (fun _ => true) true Tryd.f3.params.toList args.toList ds p := hA0
  rw [Tryd.params3] at hA hval
  obtain ⟨v0, vs0, d0, ds0, p0, q0, hargs, rfl, rfl, h0, r0⟩ := trodAll_cons hA
  obtain ⟨rfl, rfl, rfl⟩ := trodAll_nil r0
  obtain rfl : args = #[v0] := by cases args; simp_all
  obtain ⟨rfl, rfl⟩ := trodVars_none hV
  obtain ⟨a0, n0, c0, rfl⟩ := okWide_slice Tryd.underlying22 (hval 0 22 v0 rfl rfl)
  have k0 := h0
  have lt0 := trod_lt h0
  obtain ⟨z0, f0, _⟩ := open_inLink h0
  clear hA0 hval0
  refine (walk a0 n0 c0 z0 W f0).mono fun e W' ⟨he, bel⟩ => ?_
  subst he
  exact ⟨_, rfl, _, _, _, [], _, [], hW', trodAll_mk1 (shut_bool Tryd.underlying4 _), (trodAll_cons_mk (Below.trod laidOut (by kernel_rfl) (of_decide_eq_true (by kernel_rfl)) k0 bel lt0) trodAll_mk0), rfl, Below.frame bel _, fun h => by cases h⟩

theorem over : Rows.fnExactAreLinksRow.holds Tryd.pinned (OpenSpec.ofChange Rows.fnExactAreLinksSpec) :=
  OpenClaim.holds_of_wide 3 Tryd.f3 rfl rfl rfl rfl rfl rfl rfl ⟨rfl, rfl, rfl, rfl, rfl⟩ rfl rfl rfl rfl rfl (by kernel_rfl) Tryd.func3 (by kernel_rfl)
    (of_decide_eq_true (by kernel_rfl)) (by unfold Func.isWrapper; first | (rw [if_pos (by decide +kernel)]; kernel_rfl) | (rw [if_neg (by decide +kernel)]; exact ⟨rfl, rfl⟩))
    (fun os started H enc _ => lifted os started H enc)

theorem proved : Rows.FnExactAreLinksCardSaid :=
  Claim7.holds_tied_plain_at .later [] Rows.fnExactAreLinksCard.laidKinds true Rows.fnExactAreLinksCard.stood.harness Rows.fnExactAreLinksCard.stood.looks over (fun _ h => by cases h) (by kernel_rfl) (fun _ h => by cases h) fnExactAreLinks_row_tie rfl ⟨rfl, rfl⟩ (by kernel_rfl) rfl
    (fun f fn hf hfn => by
      obtain rfl : f = 3 := Option.some.inj ((show Tryd.prog.funcNamed "loop.example/g01030/laws.FnExactAreLinks" = some 3 by kernel_rfl).symm.trans hf) |>.symm
      obtain rfl : fn = Tryd.f3 := (Option.some.inj (Tryd.func3.symm.trans hfn)).symm
      exact ⟨by kernel_rfl, fun j t ht => by
        rw [Tryd.params3] at ht
        have hm : t ∈ [22] := by simpa using Array.mem_of_getElem? ht
        have hall : ([22].all fun u => !Tryd.prog.wantsStandIn u) = true := by kernel_rfl
        exact (show Tryd.prog.wantsStandIn t = false by simpa using List.all_eq_true.1 hall t hm)⟩)
    (by kernel_rfl)


end Go.Proofs.YtgbfihjimbpgnaaDoor.fnExactAreLinks

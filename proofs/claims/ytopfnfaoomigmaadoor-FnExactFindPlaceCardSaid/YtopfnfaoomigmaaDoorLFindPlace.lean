/-
  FnExactFindPlace returns true for every input: the program and the reference give the same answer, the arguments are left as they were, and what is handed back is new memory. No condition.
-/
import Derived.Test.YtopfnfaoomigmaaDoorFQ
import Derived.Test.YtopfnfaoomigmaaDoorMPlace
import Derived.Test.YtopfnfaoomigmaaDoorW3
import Derived.Test.YtopfnfaoomigmaaDoorW
import Derived.Test.YtopfnfaoomigmaaDoorW4
import Derived.Test.YtopfnfaoomigmaaDoorTie
import Derived.Test.YtopfnfaoomigmaaDoorCards
namespace Go.Proofs.YtopfnfaoomigmaaDoor.fnExactFindPlace
open Go.ChangeShapes Go.WideShapes Go.ChangeAt Go.RowKit
open Go.ChangeMaps (open_string shut_string)

set_option maxRecDepth 100000 in
set_option maxHeartbeats 2000000 in
theorem walk (a_aList : Option Addr) (n_aList c_aList : Nat) (z_aList : List PlaceV) (x_aCode : ByteArray) (w : World) (hi_aList : InPlace w a_aList n_aList z_aList) (_ : x_aCode.size ≤ maxLen) (hmax : MaxW w) :
    Calls Tryd.prog 5 #[.slice a_aList n_aList c_aList, .string x_aCode] w fun e w' => e = .returned (.bool true) ∧ Ext w w' := by
  by_cases hbig_aCode : 1048576 < x_aCode.size
  · have hb_aCode : (1048576 : Int) < x_aCode.size := by omega
    go_enter Tryd.func5, Tryd.ntmps5
    go_wp2
    go_ret
    exact ⟨rfl, Ext.refl _⟩
  have hs_aCode : x_aCode.size ≤ 1048576 := by omega
  go_enter Tryd.func5, Tryd.ntmps5
  go_wp2_with fail
  refine (szPlaceS_any _ _ _ _ _ _ hi_aList (by omega) (by omega)).mono ?_
  rintro e w1 ⟨r1, rfl, l1, x1⟩
  by_cases hl1 : r1 < 0
  · go_wp2
    go_ret
    exact ⟨rfl, x1⟩
  have hq1 := l1.1 (by omega)
  have hr_aList := leftPlace_rd hi_aList l1 (by omega) (by omega)
  go_wp2_with fail
  refine (toPlaceS_any _ _ _ _ _ (hr_aList.ext x1)).mono ?_
  rintro e w2 ⟨v2, rfl, a2, n2, c2, rfl, o2, x2⟩
  obtain rfl : n_aList = n2 := hr_aList.len.symm.trans o2.rd.len
  go_wp2_with fail
  refine (specFindPlace_any _ _ _ _ _ _ o2.rd (by omega)).mono ?_
  rintro e w3 ⟨rfl, x3⟩
  go_wp2_with fail
  refine (toPlaceS_any _ _ _ _ _ (hr_aList.ext ((x1.trans x2).trans x3))).mono ?_
  rintro e w4 ⟨v4, rfl, a4, n4, c4, rfl, o4, x4⟩
  obtain rfl : n_aList = n4 := hr_aList.len.symm.trans o4.rd.len
  go_wp2_with fail
  refine (implFindPlace_any _ _ _ _ _ _ o4.rd o4.cap (by omega) (hmax.ext (((x1.trans x2).trans x3).trans x4))).mono ?_
  rintro e w5 ⟨rfl, x5⟩
  go_wp2_with fail
  refine (toPlaceS_any _ _ _ _ _ (hr_aList.ext ((((x1.trans x2).trans x3).trans x4).trans x5))).mono ?_
  rintro e w6 ⟨v6, rfl, a6, n6, c6, rfl, o6, x6⟩
  obtain rfl : n_aList = n6 := hr_aList.len.symm.trans o6.rd.len
  go_wp2_with fail
  refine (eqPlaceS_same _ _ _ _ _ _ _ (o4.rd.ext (x5.trans x6)) o6.rd).mono ?_
  rintro e w7 ⟨rfl, x7⟩
  go_wp2
  go_ret
  exact ⟨rfl, ((((((x1.trans x2).trans x3).trans x4).trans x5).trans x6).trans x7)⟩

/-! The row. -/
set_option maxRecDepth 100000 in
theorem lifted (os : Os) (started : os.Started) (H : Type) (enc : TypeId × Value → H) :
    ReturnsInHanded {} Tryd.checked os 5 .any (fun w args => (Rows.fnExactFindPlaceSpec.pre enc Tryd.prog Tryd.f5 Rows.fnExactFindPlaceRow.domain false w args ∧ laidMetH Tryd.prog Rows.fnExactFindPlaceRow.laid w) ∧ sizedMet enc Tryd.prog Tryd.f5 (OpenSpec.ofChange Rows.fnExactFindPlaceSpec) false w args)
      (Rows.fnExactFindPlaceSpec.post enc Tryd.prog Tryd.f5 false true false false) := by
  refine handed_shaped_and (C := Tryd.checked) (X := fun w _ => laidMetH Tryd.prog Rows.fnExactFindPlaceRow.laid w) (fun _ _ _ hh h => h.of_heap hh) own started (by kernel_rfl) Tryd.func5
    (ChangeSpec.witness_shaped (enc := enc) (C := Tryd.checked) (os := os) (X := fun w _ => laidMetH Tryd.prog Rows.fnExactFindPlaceRow.laid w) false (World.laidAll Tryd.prog os Rows.fnExactFindPlaceRow.laid) #[.slice none 0 0, .string ⟨#[]⟩] 8 (World.laidAll_os _ _ _)
      (World.shaped_of_ZipB (by kernel_rfl) (by kernel_rfl)) (by kernel_rfl) (by kernel_rfl) (by kernel_rfl)
      (by rw [MakeChecks.laidMetH_plain _ _ _ (by kernel_rfl)]; exact laidMet_laidAll _ (by kernel_rfl) (by kernel_rfl))) ?_
  intro W base args ds gs before hval0 hW hcnd hshaped hlaid
  have hval : ∀ (j : Nat) t v, Tryd.f5.params[j]? = some t → args[j]? = some v → Value.okWide Tryd.prog W .any base t v := hval0
  have hW' := hW
  obtain ⟨p, q, hA0, hV, rfl, hfz, hnd⟩ := hW
  have hA : DataW.TrodAll enc Tryd.prog W 0 (fun _ => true) true Tryd.f5.params.toList args.toList ds p := hA0
  rw [Tryd.params5] at hA hval
  obtain ⟨v0, vs0, d0, ds0, p0, q0, hargs, rfl, rfl, h0, r0⟩ := trodAll_cons hA
  obtain ⟨v1, vs1, d1, ds1, p1, q1, rfl, rfl, rfl, h1, r1⟩ := trodAll_cons r0
  obtain ⟨rfl, rfl, rfl⟩ := trodAll_nil r1
  obtain rfl : args = #[v0, v1] := by cases args; simp_all
  obtain ⟨rfl, rfl⟩ := trodVars_none hV
  obtain ⟨a0, n0, c0, rfl⟩ := okWide_slice Tryd.underlying36 (hval 0 36 v0 rfl rfl)
  have k0 := h0
  have lt0 := trod_lt h0
  obtain ⟨z0, f0, _⟩ := open_inPlace h0
  obtain ⟨a1, rfl, rfl, rfl, f1⟩ := open_string Tryd.underlying9 (hval 1 9 v1 rfl rfl) h1
  clear hA0 hval0
  refine (walk a0 n0 c0 z0 a1 W f0 f1 (MaxW.of_shaped hshaped)).mono fun e W' ⟨he, bel⟩ => ?_
  subst he
  exact ⟨_, rfl, _, _, _, [], _, [], hW', trodAll_mk1 (shut_bool Tryd.underlying4 _), (trodAll_cons_mk (Below.trod laidOut (by kernel_rfl) (of_decide_eq_true (by kernel_rfl)) k0 bel lt0) (trodAll_cons_mk (shut_string Tryd.underlying9 f1) trodAll_mk0)), rfl, Below.frame bel _, fun h => by cases h⟩

theorem over : Rows.fnExactFindPlaceRow.holds Tryd.pinned (OpenSpec.ofChange Rows.fnExactFindPlaceSpec) :=
  OpenClaim.holds_of_wide 5 Tryd.f5 rfl rfl rfl rfl rfl rfl rfl ⟨rfl, rfl, rfl, rfl, rfl⟩ rfl rfl rfl rfl rfl (by kernel_rfl) Tryd.func5 (by kernel_rfl)
    (of_decide_eq_true (by kernel_rfl)) (by unfold Func.isWrapper; first | (rw [if_pos (by decide +kernel)]; kernel_rfl) | (rw [if_neg (by decide +kernel)]; exact ⟨rfl, rfl⟩))
    (fun os started H enc _ => lifted os started H enc)

theorem proved : Rows.FnExactFindPlaceCardSaid :=
  Claim7.holds_tied_plain_at .later [] Rows.fnExactFindPlaceCard.laidKinds true Rows.fnExactFindPlaceCard.stood.harness Rows.fnExactFindPlaceCard.stood.looks over (fun _ h => by cases h) (by kernel_rfl) (fun _ h => by cases h) fnExactFindPlace_row_tie rfl ⟨rfl, rfl⟩ (by kernel_rfl) rfl
    (fun f fn hf hfn => by
      obtain rfl : f = 5 := Option.some.inj ((show Tryd.prog.funcNamed "loop.example/g01030/laws.FnExactFindPlace" = some 5 by kernel_rfl).symm.trans hf) |>.symm
      obtain rfl : fn = Tryd.f5 := (Option.some.inj (Tryd.func5.symm.trans hfn)).symm
      exact ⟨by kernel_rfl, fun j t ht => by
        rw [Tryd.params5] at ht
        have hm : t ∈ [36, 9] := by simpa using Array.mem_of_getElem? ht
        have hall : ([36, 9].all fun u => !Tryd.prog.wantsStandIn u) = true := by kernel_rfl
        exact (show Tryd.prog.wantsStandIn t = false by simpa using List.all_eq_true.1 hall t hm)⟩)
    (by kernel_rfl)


end Go.Proofs.YtopfnfaoomigmaaDoor.fnExactFindPlace

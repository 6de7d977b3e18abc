/-
  FnExactBestIn returns true for every input: the program and the reference give the same answer, the arguments are left as they were, and what is handed back is new memory. No condition.
-/
import Derived.Test.YtmphikmnepmnlaaDoorNB2
import Derived.Test.YtmphikmnepmnlaaDoorMName
import Derived.Test.YtmphikmnepmnlaaDoorW3
import Derived.Test.YtmphikmnepmnlaaDoorW
import Derived.Test.YtmphikmnepmnlaaDoorW4
import Derived.Test.YtmphikmnepmnlaaDoorTie
import Derived.Test.YtmphikmnepmnlaaDoorCards
namespace Go.Proofs.YtmphikmnepmnlaaDoor.fnExactBestIn
open Go.ChangeShapes Go.WideShapes Go.ChangeAt Go.RowKit

set_option maxRecDepth 100000 in
set_option maxHeartbeats 2000000 in
theorem walk (a_aList : Option Addr) (n_aList c_aList : Nat) (z_aList : List NameV) (a_aLanguages : Option Addr) (n_aLanguages c_aLanguages : Nat) (z_aLanguages : List ByteArray) (x_aYear : Int) (w : World) (hi_aList : InName w a_aList n_aList z_aList) (hi_aLanguages : InS w a_aLanguages n_aLanguages z_aLanguages) (_ : (Lit.int .i64 x_aYear).wf = true) (hmax : MaxW w) :
    Calls Tryd.prog 3 #[.slice a_aList n_aList c_aList, .slice a_aLanguages n_aLanguages c_aLanguages, .int .i64 x_aYear] w fun e w' => e = .returned (.bool true) ∧ Ext w w' := by
  go_enter Tryd.func3, Tryd.ntmps3
  go_wp2_with fail
  refine (szNameS_any _ _ _ _ _ _ hi_aList (by omega) (by omega)).mono ?_
  rintro e w1 ⟨r1, rfl, l1, x1⟩
  by_cases hl1 : r1 < 0
  · go_wp2
    go_ret
    exact ⟨rfl, x1⟩
  have hq1 := l1.1 (by omega)
  have hr_aList := leftName_rd hi_aList l1 (by omega) (by omega)
  go_wp2_with fail
  refine (szStringS_any _ _ _ _ _ _ (hi_aLanguages.ext x1) (by omega) (by omega)).mono ?_
  rintro e w2 ⟨⟨r2, rfl, l2⟩, rfl⟩
  by_cases hl2 : r2 < 0
  · go_wp2
    go_ret
    exact ⟨rfl, x1⟩
  have hq2 := l2.1 (by omega)
  have hr_aLanguages := l2.rdS hi_aLanguages (by omega) (by omega)
  go_wp2_with fail
  refine (toNameS_any _ _ _ _ _ (hr_aList.ext x1)).mono ?_
  rintro e w3 ⟨v3, rfl, a3, n3, c3, rfl, o3, x3⟩
  obtain rfl : n_aList = n3 := hr_aList.len.symm.trans o3.rd.len
  go_wp2_with fail
  refine (toStringS_any _ _ _ _ _ (hr_aLanguages.ext (x1.trans x3))).mono ?_
  rintro e w4 ⟨v4, rfl, a4, n4, c4, rfl, o4, x4⟩
  obtain rfl : n_aLanguages = n4 := hr_aLanguages.len.symm.trans o4.rd.len
  go_wp2_with fail
  refine (specBestIn_any _ _ _ _ _ _ _ _ _ _ (o3.rd.ext x4) o4.rd).mono ?_
  rintro e w5 ⟨rfl, x5⟩
  go_wp2_with fail
  refine (toNameS_any _ _ _ _ _ (hr_aList.ext (((x1.trans x3).trans x4).trans x5))).mono ?_
  rintro e w6 ⟨v6, rfl, a6, n6, c6, rfl, o6, x6⟩
  obtain rfl : n_aList = n6 := hr_aList.len.symm.trans o6.rd.len
  go_wp2_with fail
  refine (toStringS_any _ _ _ _ _ (hr_aLanguages.ext ((((x1.trans x3).trans x4).trans x5).trans x6))).mono ?_
  rintro e w7 ⟨v7, rfl, a7, n7, c7, rfl, o7, x7⟩
  obtain rfl : n_aLanguages = n7 := hr_aLanguages.len.symm.trans o7.rd.len
  go_wp2_with fail
  refine (implBestIn_any _ _ _ _ _ _ _ _ _ _ (o6.rd.ext x7) (o6.ext x7).cap o7.rd (hmax.ext (((((x1.trans x3).trans x4).trans x5).trans x6).trans x7))).mono ?_
  rintro e w8 ⟨rfl, x8⟩
  go_wp2_with fail
  refine (toNameS_any _ _ _ _ _ (hr_aList.ext ((((((x1.trans x3).trans x4).trans x5).trans x6).trans x7).trans x8))).mono ?_
  rintro e w9 ⟨v9, rfl, a9, n9, c9, rfl, o9, x9⟩
  obtain rfl : n_aList = n9 := hr_aList.len.symm.trans o9.rd.len
  go_wp2_with fail
  refine (eqNameS_same _ _ _ _ _ _ _ (o6.rd.ext ((x7.trans x8).trans x9)) o9.rd).mono ?_
  rintro e w10 ⟨rfl, x10⟩
  go_wp2_with fail
  refine (toStringS_any _ _ _ _ _ (hr_aLanguages.ext ((((((((x1.trans x3).trans x4).trans x5).trans x6).trans x7).trans x8).trans x9).trans x10))).mono ?_
  rintro e w11 ⟨v11, rfl, a11, n11, c11, rfl, o11, x11⟩
  obtain rfl : n_aLanguages = n11 := hr_aLanguages.len.symm.trans o11.rd.len
  go_wp2_with fail
  refine (eqStringS_same _ _ _ _ _ _ _ (o7.rd.ext (((x8.trans x9).trans x10).trans x11)) o11.rd).mono ?_
  rintro e w12 ⟨rfl, s12⟩
  have x12 := s12.ext
  go_wp2
  go_ret
  exact ⟨rfl, ((((((((((x1.trans x3).trans x4).trans x5).trans x6).trans x7).trans x8).trans x9).trans x10).trans x11).trans x12)⟩

/-! The row. -/
set_option maxRecDepth 100000 in
theorem lifted (os : Os) (started : os.Started) (H : Type) (enc : TypeId × Value → H) :
    ReturnsInHanded {} Tryd.checked os 3 .any (fun w args => (Rows.fnExactBestInSpec.pre enc Tryd.prog Tryd.f3 Rows.fnExactBestInRow.domain false w args ∧ laidMetH Tryd.prog Rows.fnExactBestInRow.laid w) ∧ sizedMet enc Tryd.prog Tryd.f3 (OpenSpec.ofChange Rows.fnExactBestInSpec) false w args)
      (Rows.fnExactBestInSpec.post enc Tryd.prog Tryd.f3 false true false false) := by
  refine handed_shaped_and (C := Tryd.checked) (X := fun w _ => laidMetH Tryd.prog Rows.fnExactBestInRow.laid w) (fun _ _ _ hh h => h.of_heap hh) own started (by kernel_rfl) Tryd.func3
    (ChangeSpec.witness_shaped (enc := enc) (C := Tryd.checked) (os := os) (X := fun w _ => laidMetH Tryd.prog Rows.fnExactBestInRow.laid w) false (World.laidAll Tryd.prog os Rows.fnExactBestInRow.laid) #[.slice none 0 0, .slice none 0 0, .int .i64 0] 8 (World.laidAll_os _ _ _)
      (World.shaped_of_ZipB (by kernel_rfl) (by kernel_rfl)) (by kernel_rfl) (by kernel_rfl) (by kernel_rfl)
      (by rw [MakeChecks.laidMetH_plain _ _ _ (by kernel_rfl)]; exact laidMet_laidAll _ (by kernel_rfl) (by kernel_rfl))) ?_
  intro W base args ds gs before hval0 hW hcnd hshaped hlaid
  have hval : ∀ (j : Nat) t v, Tryd.f3.params[j]? = some t → args[j]? = some v → Value.okWide Tryd.prog W .any base t v := hval0
  have hW' := hW
  obtain ⟨p, q, hA0, hV, rfl, hfz, hnd⟩ := hW
  have hA : DataW.TrodAll enc Tryd.prog W 0 (fun _ => true) true Tryd.f3.params.toList args.toList ds p := hA0
  rw [Tryd.params3] at hA hval
  obtain ⟨v0, vs0, d0, ds0, p0, q0, hargs, rfl, rfl, h0, r0⟩ := trodAll_cons hA
  obtain ⟨v1, vs1, d1, ds1, p1, q1, rfl, rfl, rfl, h1, r1⟩ := trodAll_cons r0
  obtain ⟨v2, vs2, d2, ds2, p2, q2, rfl, rfl, rfl, h2, r2⟩ := trodAll_cons r1
  obtain ⟨rfl, rfl, rfl⟩ := trodAll_nil r2
  obtain rfl : args = #[v0, v1, v2] := by cases args; simp_all
  obtain ⟨rfl, rfl⟩ := trodVars_none hV
  obtain ⟨a0, n0, c0, rfl⟩ := okWide_slice Tryd.underlying22 (hval 0 22 v0 rfl rfl)
  have k0 := h0
  have lt0 := trod_lt h0
  obtain ⟨z0, f0, _⟩ := open_inName h0
  obtain ⟨a1, n1, c1, rfl⟩ := okWide_slice Tryd.underlying23 (hval 1 23 v1 rfl rfl)
  have k1 := h1
  have lt1 := trod_lt h1
  obtain ⟨z1, f1, _⟩ := open_inS h1
  obtain ⟨a2, rfl, rfl, rfl, f2⟩ := open_int Tryd.underlying2 (hval 2 2 v2 rfl rfl) h2
  clear hA0 hval0
  refine (walk a0 n0 c0 z0 a1 n1 c1 z1 a2 W f0 f1 f2 (MaxW.of_shaped hshaped)).mono fun e W' ⟨he, bel⟩ => ?_
  subst he
  exact ⟨_, rfl, _, _, _, [], _, [], hW', trodAll_mk1 (shut_bool Tryd.underlying4 _), (trodAll_cons_mk (Below.trod laidOut (by kernel_rfl) (of_decide_eq_true (by kernel_rfl)) k0 bel lt0) (trodAll_cons_mk (Below.trod laidOut (by kernel_rfl) (of_decide_eq_true (by kernel_rfl)) k1 bel lt1) (trodAll_cons_mk (shut_int Tryd.underlying2 f2) trodAll_mk0))), rfl, Below.frame bel _, fun h => by cases h⟩

theorem over : Rows.fnExactBestInRow.holds Tryd.pinned (OpenSpec.ofChange Rows.fnExactBestInSpec) :=
  OpenClaim.holds_of_wide 3 Tryd.f3 rfl rfl rfl rfl rfl rfl rfl ⟨rfl, rfl, rfl, rfl, rfl⟩ rfl rfl rfl rfl rfl (by kernel_rfl) Tryd.func3 (by kernel_rfl)
    (of_decide_eq_true (by kernel_rfl)) (by unfold Func.isWrapper; first | (rw [if_pos (by decide +kernel)]; kernel_rfl) | (rw [if_neg (by decide +kernel)]; exact ⟨rfl, rfl⟩))
    (fun os started H enc _ => lifted os started H enc)

theorem proved : Rows.FnExactBestInCardSaid :=
  Claim7.holds_tied_plain_at .later [] Rows.fnExactBestInCard.laidKinds true Rows.fnExactBestInCard.stood.harness Rows.fnExactBestInCard.stood.looks over (fun _ h => by cases h) (by kernel_rfl) (fun _ h => by cases h) fnExactBestIn_row_tie rfl ⟨rfl, rfl⟩ (by kernel_rfl) rfl
    (fun f fn hf hfn => by
      obtain rfl : f = 3 := Option.some.inj ((show Tryd.prog.funcNamed "loop.example/g01030/laws.FnExactBestIn" = some 3 by kernel_rfl).symm.trans hf) |>.symm
      obtain rfl : fn = Tryd.f3 := (Option.some.inj (Tryd.func3.symm.trans hfn)).symm
      exact ⟨by kernel_rfl, fun j t ht => by
        rw [Tryd.params3] at ht
        have hm : t ∈ [22, 23, 2] := by simpa using Array.mem_of_getElem? ht
        have hall : ([22, 23, 2].all fun u => !Tryd.prog.wantsStandIn u) = true := by kernel_rfl
        exact (show Tryd.prog.wantsStandIn t = false by simpa using List.all_eq_true.1 hall t hm)⟩)
    (by kernel_rfl)


end Go.Proofs.YtmphikmnepmnlaaDoor.fnExactBestIn

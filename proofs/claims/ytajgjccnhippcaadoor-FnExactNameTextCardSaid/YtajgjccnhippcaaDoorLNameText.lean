/-
  FnExactNameText returns true for every input: the program and the reference give the same answer, the arguments are left as they were, and what is handed back is new memory. No condition.
-/
import Derived.Test.YtajgjccnhippcaaDoorNX
import Derived.Test.YtajgjccnhippcaaDoorMName
import Derived.Test.YtajgjccnhippcaaDoorKName
import Derived.Test.YtajgjccnhippcaaDoorTB
import Derived.Test.YtajgjccnhippcaaDoorW3
import Derived.Test.YtajgjccnhippcaaDoorW
import Derived.Test.YtajgjccnhippcaaDoorW4
import Derived.Test.YtajgjccnhippcaaDoorTie
import Derived.Test.YtajgjccnhippcaaDoorCards
namespace Go.Proofs.YtajgjccnhippcaaDoor.fnExactNameText
open Go.ChangeShapes Go.WideShapes Go.ChangeAt Go.RowKit

set_option maxRecDepth 100000 in
set_option maxHeartbeats 2000000 in
theorem walk (z_aN : NameV) (w : World) (hi_aN : ok0Name z_aN) (hmax : MaxW w) (htab : TabW w) :
    Calls Tryd.prog 4 #[valName z_aN] w fun e w' => e = .returned (.bool true) ∧ Ext w w' := by
  obtain ⟨v0_aN, v1_aN, v2_aN, v3_aN, v4_aN⟩ := z_aN
  simp only [valName]
  have xb := (Ext.refl w).alloc (.cells #[.string v0_aN, .string v1_aN, .int .i64 v2_aN, .int .i64 v3_aN, .int .i64 v4_aN] 34)
  go_enter Tryd.func4, Tryd.ntmps4
  go_wp2_with fail
  refine (szName_any ⟨v0_aN, v1_aN, v2_aN, v3_aN, v4_aN⟩ _ _ hi_aN (by omega) (by omega)).mono ?_
  rintro e w1 ⟨r1, rfl, l1, x1⟩
  by_cases hl1 : r1 < 0
  · go_wp2
    go_ret
    exact ⟨rfl, (xb.trans x1)⟩
  have hq1 := l1.1 (by omega)
  have hr_aN := leftName_ok l1 (by omega) (by omega)
  have b2 : _ = some (Value.string v0_aN) := box_keptG x1 0
  have b3 : _ = some (Value.string v1_aN) := box_keptG x1 1
  have b4 : _ = some (Value.int .i64 v2_aN) := box_keptG x1 2
  have b5 : _ = some (Value.int .i64 v3_aN) := box_keptG x1 3
  have b6 : _ = some (Value.int .i64 v4_aN) := box_keptG x1 4
  go_wp2_with fail
  refine (toName_any ⟨v0_aN, v1_aN, v2_aN, v3_aN, v4_aN⟩ _).mono ?_
  rintro e w7 ⟨rfl, x7⟩
  go_wp2_with fail
  refine (specNameText_any ⟨v0_aN, v1_aN, v2_aN, v3_aN, v4_aN⟩ _ hr_aN).mono ?_
  rintro e w8 ⟨rfl, x8⟩
  have b9 : _ = some (Value.string v0_aN) := box_keptG ((x1.trans x7).trans x8) 0
  have b10 : _ = some (Value.string v1_aN) := box_keptG ((x1.trans x7).trans x8) 1
  have b11 : _ = some (Value.int .i64 v2_aN) := box_keptG ((x1.trans x7).trans x8) 2
  have b12 : _ = some (Value.int .i64 v3_aN) := box_keptG ((x1.trans x7).trans x8) 3
  have b13 : _ = some (Value.int .i64 v4_aN) := box_keptG ((x1.trans x7).trans x8) 4
  go_wp2_with fail
  refine (toName_any ⟨v0_aN, v1_aN, v2_aN, v3_aN, v4_aN⟩ _).mono ?_
  rintro e w14 ⟨rfl, x14⟩
  go_wp2_with fail
  refine (implNameText_any ⟨v0_aN, v1_aN, v2_aN, v3_aN, v4_aN⟩ _ hr_aN (hmax.ext ((((xb.trans x1).trans x7).trans x8).trans x14)) (htab.ext ((((xb.trans x1).trans x7).trans x8).trans x14))).mono ?_
  rintro e w15 ⟨rfl, x15⟩
  go_wp2
  go_ret
  exact ⟨rfl, (((((xb.trans x1).trans x7).trans x8).trans x14).trans x15)⟩

/-! The row. -/
set_option maxRecDepth 100000 in
theorem lifted (os : Os) (started : os.Started) (H : Type) (enc : TypeId × Value → H) :
    ReturnsInHanded {} Tryd.checked os 4 .any (fun w args => (Rows.fnExactNameTextSpec.pre enc Tryd.prog Tryd.f4 Rows.fnExactNameTextRow.domain false w args ∧ laidMetH Tryd.prog Rows.fnExactNameTextRow.laid w) ∧ sizedMet enc Tryd.prog Tryd.f4 (OpenSpec.ofChange Rows.fnExactNameTextSpec) false w args)
      (Rows.fnExactNameTextSpec.post enc Tryd.prog Tryd.f4 false true false false) := by
  refine handed_shaped_and (C := Tryd.checked) (X := fun w _ => laidMetH Tryd.prog Rows.fnExactNameTextRow.laid w) (fun _ _ _ hh h => h.of_heap hh) own started (by kernel_rfl) Tryd.func4
    (ChangeSpec.witness_shaped (enc := enc) (C := Tryd.checked) (os := os) (X := fun w _ => laidMetH Tryd.prog Rows.fnExactNameTextRow.laid w) false (World.laidAll Tryd.prog os Rows.fnExactNameTextRow.laid) #[.agg #[.string ⟨#[]⟩, .string ⟨#[]⟩, .int .i64 0, .int .i64 0, .int .i64 0]] 8 (World.laidAll_os _ _ _)
      (World.shaped_of_ZipB (by kernel_rfl) (by kernel_rfl)) (by kernel_rfl) (by kernel_rfl) (by kernel_rfl)
      (by rw [MakeChecks.laidMetH_plain _ _ _ (by kernel_rfl)]; exact laidMet_laidAll _ (by kernel_rfl) (by kernel_rfl))) ?_
  intro W base args ds gs before hval0 hW hcnd hshaped hlaid
  have hval : ∀ (j : Nat) t v, Tryd.f4.params[j]? = some t → args[j]? = some v → Value.okWide Tryd.prog W .any base t v := hval0
  have hW' := hW
  obtain ⟨p, q, hA0, hV, rfl, hfz, hnd⟩ := hW
  have hA : DataW.TrodAll enc Tryd.prog W 0 (fun _ => true) true Tryd.f4.params.toList args.toList ds p := hA0
  rw [Tryd.params4] at hA hval
  obtain ⟨v0, vs0, d0, ds0, p0, q0, hargs, rfl, rfl, h0, r0⟩ := trodAll_cons hA
  obtain ⟨rfl, rfl, rfl⟩ := trodAll_nil r0
  obtain rfl : args = #[v0] := by cases args; simp_all
  obtain ⟨rfl, rfl⟩ := trodVars_none hV
  have k0 := h0
  have lt0 := trod_lt h0
  obtain ⟨z0, rfl, f0⟩ := open_valName (hval 0 34 v0 rfl rfl) h0
  clear hA0 hval0
  refine (walk z0 W f0 (MaxW.of_shaped hshaped) (TabW.of_laid hlaid (by kernel_rfl))).mono fun e W' ⟨he, bel⟩ => ?_
  subst he
  exact ⟨_, rfl, _, _, _, [], _, [], hW', trodAll_mk1 (shut_bool Tryd.underlying4 _), (trodAll_cons_mk (Below.trod laidOut (by kernel_rfl) (of_decide_eq_true (by kernel_rfl)) k0 bel lt0) trodAll_mk0), rfl, Below.frame bel _, fun h => by cases h⟩

theorem over : Rows.fnExactNameTextRow.holds Tryd.pinned (OpenSpec.ofChange Rows.fnExactNameTextSpec) :=
  OpenClaim.holds_of_wide 4 Tryd.f4 rfl rfl rfl rfl rfl rfl rfl ⟨rfl, rfl, rfl, rfl, rfl⟩ rfl rfl rfl rfl rfl (by kernel_rfl) Tryd.func4 (by kernel_rfl)
    (of_decide_eq_true (by kernel_rfl)) (by unfold Func.isWrapper; first | (rw [if_pos (by decide +kernel)]; kernel_rfl) | (rw [if_neg (by decide +kernel)]; exact ⟨rfl, rfl⟩))
    (fun os started H enc _ => lifted os started H enc)

theorem proved : Rows.FnExactNameTextCardSaid :=
  Claim7.holds_tied_plain_at .later [] Rows.fnExactNameTextCard.laidKinds true Rows.fnExactNameTextCard.stood.harness Rows.fnExactNameTextCard.stood.looks over (fun _ h => by cases h) (by kernel_rfl) (fun _ h => by cases h) fnExactNameText_row_tie rfl ⟨rfl, rfl⟩ (by kernel_rfl) rfl
    (fun f fn hf hfn => by
      obtain rfl : f = 4 := Option.some.inj ((show Tryd.prog.funcNamed "loop.example/g01030/laws.FnExactNameText" = some 4 by kernel_rfl).symm.trans hf) |>.symm
      obtain rfl : fn = Tryd.f4 := (Option.some.inj (Tryd.func4.symm.trans hfn)).symm
      exact ⟨by kernel_rfl, fun j t ht => by
        rw [Tryd.params4] at ht
        have hm : t ∈ [34] := by simpa using Array.mem_of_getElem? ht
        have hall : ([34].all fun u => !Tryd.prog.wantsStandIn u) = true := by kernel_rfl
        exact (show Tryd.prog.wantsStandIn t = false by simpa using List.all_eq_true.1 hall t hm)⟩)
    (by kernel_rfl)


end Go.Proofs.YtajgjccnhippcaaDoor.fnExactNameText

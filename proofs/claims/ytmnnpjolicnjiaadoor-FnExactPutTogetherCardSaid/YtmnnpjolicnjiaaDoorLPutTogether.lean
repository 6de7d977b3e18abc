/-
  FnExactPutTogether returns true for every input.
-/
import Derived.Test.YtmnnpjolicnjiaaDoorZ
import Derived.Test.YtmnnpjolicnjiaaDoorW
import Derived.Test.YtmnnpjolicnjiaaDoorW4
import Derived.Test.YtmnnpjolicnjiaaDoorTie
import Derived.Test.YtmnnpjolicnjiaaDoorCards
import Derived.Lib.SmallJoins
namespace Go.Proofs.YtmnnpjolicnjiaaDoor.fnExactPutTogether
open Go.ChangeShapes Go.WideShapes Go.ChangeAt Go.RowKit

set_option maxRecDepth 100000 in
set_option maxHeartbeats 2000000 in
theorem walk (z : PartsV) (b : Bool) (w : World) (hi : ok0Parts z) (hmax : MaxW w) :
    Calls Tryd.prog 5 #[valParts z, .bool b] w fun e w' => e = .returned (.bool true) ∧ Ext w w' := by
  obtain ⟨x0, x1⟩ := z
  simp only [valParts]
  have hm1 := hmax.ext ((Ext.refl w).alloc (.cells #[.string x0, .string x1] 35))
  go_enter Tryd.func5, Tryd.ntmps5
  go_wp2_with fail
  refine (szParts_any ⟨x0, x1⟩ _ _ hi (by omega) (by omega)).mono ?_
  rintro e w1 ⟨r1, rfl, l1, e1⟩
  by_cases hl1 : r1 < 0
  · go_wp2
    go_ret
    exact ⟨rfl, ((Ext.refl _).alloc _).trans e1⟩
  have hq := l1.1 (by omega)
  simp only [sizeParts] at hq
  have hok : okParts ⟨x0, x1⟩ := ⟨by show x0.size ≤ _; omega, by show x1.size ≤ _; omega⟩
  have hsum : (PartsV.mk x0 x1).spec.size + (PartsV.mk x0 x1).gen.size ≤ 1073741823 := by show x0.size + x1.size ≤ _; omega
  have b0 : _ = some (Value.string x0) := box_keptG e1 0
  have b1 : _ = some (Value.string x1) := box_keptG e1 1
  go_wp2_with fail
  refine (toParts_any ⟨x0, x1⟩ _).mono ?_
  rintro e w2 ⟨rfl, e2⟩
  go_wp2_with fail
  refine (specPutTogether_any ⟨x0, x1⟩ b _ hok hsum).mono ?_
  rintro e w3 ⟨rfl, e3⟩
  have c0 : _ = some (Value.string x0) := box_keptG ((e1.trans e2).trans e3) 0
  have c1 : _ = some (Value.string x1) := box_keptG ((e1.trans e2).trans e3) 1
  go_wp2_with fail
  refine (toParts_any ⟨x0, x1⟩ _).mono ?_
  rintro e w4 ⟨rfl, e4⟩
  go_wp2_with fail
  refine (implPutTogether_any ⟨x0, x1⟩ b _ hok hsum (hm1.ext (((e1.trans e2).trans e3).trans e4))).mono ?_
  rintro e w5 ⟨rfl, e5⟩
  go_wp2
  go_ret
  exact ⟨rfl, ((Ext.refl _).alloc _).trans ((((e1.trans e2).trans e3).trans e4).trans e5)⟩

/-! The row. -/
set_option maxRecDepth 100000 in
theorem lifted (os : Os) (started : os.Started) (H : Type) (enc : TypeId × Value → H) :
    ReturnsInHanded {} Tryd.checked os 5 .any (fun w args => (Rows.fnExactPutTogetherSpec.pre enc Tryd.prog Tryd.f5 Rows.fnExactPutTogetherRow.domain false w args ∧ laidMetH Tryd.prog Rows.fnExactPutTogetherRow.laid w) ∧ sizedMet enc Tryd.prog Tryd.f5 (OpenSpec.ofChange Rows.fnExactPutTogetherSpec) false w args)
      (Rows.fnExactPutTogetherSpec.post enc Tryd.prog Tryd.f5 false true false false) := by
  refine handed_shaped_and (C := Tryd.checked) (X := fun w _ => laidMetH Tryd.prog Rows.fnExactPutTogetherRow.laid w) (fun _ _ _ hh h => h.of_heap hh) own started (by kernel_rfl) Tryd.func5
    (ChangeSpec.witness_shaped (enc := enc) (C := Tryd.checked) (os := os) (X := fun w _ => laidMetH Tryd.prog Rows.fnExactPutTogetherRow.laid w) false (World.laidAll Tryd.prog os Rows.fnExactPutTogetherRow.laid) #[.agg #[.string ⟨#[]⟩, .string ⟨#[]⟩], .bool false] 8 (World.laidAll_os _ _ _)
      (World.shaped_of_ZipB (by kernel_rfl) (by kernel_rfl)) (by kernel_rfl) (by kernel_rfl) (by kernel_rfl)
      (by rw [MakeChecks.laidMetH_plain _ _ _ (by kernel_rfl)]; exact laidMet_laidAll _ (by kernel_rfl) (by kernel_rfl))) ?_
  intro W base args ds gs before hval0 hW hcnd hshaped hlaid
  have hval : ∀ (j : Nat) t v, Tryd.f5.params[j]? = some t → args[j]? = some v → Value.okWide Tryd.prog W .any base t v := hval0
  have hW' := hW
  obtain ⟨p, q, hA0, hV, rfl, hfz, hnd⟩ := hW
  have hA : DataW.TrodAll enc Tryd.prog W 0 (fun _ => true) true Tryd.f5.params.toList args.toList ds p := hA0
  rw [Tryd.params5] at hA hval
  obtain ⟨v0, vs0, d0, ds0, p0, q0, hargs, rfl, rfl, h0, r0⟩ := trodAll_cons hA
  obtain ⟨v1, vs1, d1, ds1, p1, q1, rfl, rfl, rfl, h1, r1⟩ := trodAll_cons r0
  obtain ⟨rfl, rfl, rfl⟩ := trodAll_nil r1
  obtain rfl : args = #[v0, v1] := by cases args; simp_all
  obtain ⟨rfl, rfl⟩ := trodVars_none hV
  have k0 := h0
  have lt0 := trod_lt h0
  obtain ⟨u0, u1, y0, y1, n0, rfl, rfl, rfl, t0, t1⟩ := Go.Joins.open_agg2 Tryd.underlying35 (by kernel_rfl) (by kernel_rfl) (hval 0 35 v0 rfl rfl) h0
  obtain ⟨s0, hs0, _, hz0⟩ := DataW.trod_string Tryd.underlying9 t0
  obtain ⟨s1, hs1, _, hz1⟩ := DataW.trod_string Tryd.underlying9 t1
  obtain rfl := List.singleton_inj.1 hs0
  obtain rfl := List.singleton_inj.1 hs1
  obtain ⟨a1, rfl, rfl, rfl⟩ := open_bool Tryd.underlying4 (hval 1 4 v1 rfl rfl) h1
  clear hA0 hval0
  have hmx : maxLen = 9223372036854775807 := rfl
  refine (walk ⟨s0, s1⟩ a1 W ⟨by show s0.size ≤ _; omega, by show s1.size ≤ _; omega⟩ (MaxW.of_shaped hshaped)).mono fun e W' ⟨he, bel⟩ => ?_
  subst he
  exact ⟨_, rfl, _, _, _, [], _, [], hW', trodAll_mk1 (shut_bool Tryd.underlying4 _), (trodAll_cons_mk (Below.trod laidOut (by kernel_rfl) (of_decide_eq_true (by kernel_rfl)) k0 bel lt0) (trodAll_cons_mk (shut_bool Tryd.underlying4 _) trodAll_mk0)), rfl, Below.frame bel _, fun h => by cases h⟩

theorem over : Rows.fnExactPutTogetherRow.holds Tryd.pinned (OpenSpec.ofChange Rows.fnExactPutTogetherSpec) :=
  OpenClaim.holds_of_wide 5 Tryd.f5 rfl rfl rfl rfl rfl rfl rfl ⟨rfl, rfl, rfl, rfl, rfl⟩ rfl rfl rfl rfl rfl (by kernel_rfl) Tryd.func5 (by kernel_rfl)
    (of_decide_eq_true (by kernel_rfl)) (by unfold Func.isWrapper; first | (rw [if_pos (by decide +kernel)]; kernel_rfl) | (rw [if_neg (by decide +kernel)]; exact ⟨rfl, rfl⟩))
    (fun os started H enc _ => lifted os started H enc)

theorem proved : Rows.FnExactPutTogetherCardSaid :=
  Claim7.holds_tied_plain_at .later [] Rows.fnExactPutTogetherCard.laidKinds true Rows.fnExactPutTogetherCard.stood.harness false over (fun _ h => by cases h) (by kernel_rfl) (fun _ h => by cases h) fnExactPutTogether_row_tie rfl ⟨rfl, rfl⟩ (by kernel_rfl) rfl
    (fun f fn hf hfn => by
      obtain rfl : f = 5 := Option.some.inj ((show Tryd.prog.funcNamed "loop.example/g01030/laws.FnExactPutTogether" = some 5 by kernel_rfl).symm.trans hf) |>.symm
      obtain rfl : fn = Tryd.f5 := (Option.some.inj (Tryd.func5.symm.trans hfn)).symm
      exact ⟨by kernel_rfl, fun j t ht => by
        rw [Tryd.params5] at ht
        have hm : t ∈ [35, 4] := by simpa using Array.mem_of_getElem? ht
        have hall : ([35, 4].all fun u => !Tryd.prog.wantsStandIn u) = true := by kernel_rfl
        exact (show Tryd.prog.wantsStandIn t = false by simpa using List.all_eq_true.1 hall t hm)⟩)
    (by kernel_rfl)
end Go.Proofs.YtmnnpjolicnjiaaDoor.fnExactPutTogether

/-
  FnExactReadName returns true for every input.
-/
import Derived.Test.YtajgjccnhippcaaDoorRD5
import Derived.Test.YtajgjccnhippcaaDoorMName
import Derived.Test.YtajgjccnhippcaaDoorKName
import Derived.Test.YtajgjccnhippcaaDoorTB
import Derived.Test.YtajgjccnhippcaaDoorEV
import Derived.Test.YtajgjccnhippcaaDoorW3
import Derived.Test.YtajgjccnhippcaaDoorW
import Derived.Test.YtajgjccnhippcaaDoorW4
import Derived.Test.YtajgjccnhippcaaDoorTie
import Derived.Test.YtajgjccnhippcaaDoorCards
namespace Go.Proofs.YtajgjccnhippcaaDoor.fnExactReadName
open Go.ChangeShapes Go.WideShapes Go.ChangeAt Go.RowKit
open Go.ChangeMaps (open_string shut_string)

set_option maxRecDepth 100000 in
set_option maxHeartbeats 2000000 in
theorem walk (x_aS : ByteArray) (w : World) (_ : x_aS.size ≤ maxLen) (hmax : MaxW w) (htab : TabW w) (herr : ErrW w) :
    Calls Tryd.prog 5 #[.string x_aS] w fun e w' => e = .returned (.bool true) ∧ Ext w w' := by
  by_cases hbig_aS : 1048576 < x_aS.size
  · have hb_aS : (1048576 : Int) < x_aS.size := by omega
    go_enter Tryd.func5, Tryd.ntmps5
    go_wp2
    go_ret
    exact ⟨rfl, Ext.refl _⟩
  have hs_aS : x_aS.size ≤ 1048576 := by omega
  have h1 := specReadName_any x_aS
  have h2 := implReadName_any x_aS
  generalize rdV x_aS = g at h1 h2
  generalize rdC x_aS = cd at h1 h2
  obtain ⟨p0, p1, p2, p3, p4⟩ := g
  have H1 := Lib.hid h1
  have H2 := Lib.hid h2
  clear h1 h2
  go_enter Tryd.func5, Tryd.ntmps5
  go_wp2_with fail
  refine (H1.out _ (by omega)).mono ?_
  rintro e w1 ⟨rfl, x1⟩
  rw [valName]
  have xc := x1.alloc (.cells #[.string p0, .string p1, .int .i64 p2, .int .i64 p3, .int .i64 p4] 40)
  go_wp2_with fail
  refine (H2.out _ (by omega) (htab.ext xc) (herr.ext xc) (hmax.ext xc)).mono ?_
  rintro e w2 ⟨rfl, x2⟩
  rw [valName]
  have x3 := x2.alloc (.cells #[.string p0, .string p1, .int .i64 p2, .int .i64 p3, .int .i64 p4] 40)
  have b0 : _ = some (Value.string p0) := box_keptG x3 0
  have b1 : _ = some (Value.string p1) := box_keptG x3 1
  have b2 : _ = some (Value.int .i64 p2) := box_keptG x3 2
  have b3 : _ = some (Value.int .i64 p3) := box_keptG x3 3
  have b4 : _ = some (Value.int .i64 p4) := box_keptG x3 4
  go_wp2_with fail
  refine (eqName_same ⟨p0, p1, p2, p3, p4⟩ _).mono ?_
  rintro e w3 ⟨rfl, x4⟩
  go_wp2
  go_ret
  exact ⟨rfl, (xc.trans x3).trans x4⟩

/-! The row. -/
set_option maxRecDepth 100000 in
theorem lifted (os : Os) (started : os.Started) (H : Type) (enc : TypeId × Value → H) :
    ReturnsInHanded {} Tryd.checked os 5 .any (fun w args => (Rows.fnExactReadNameSpec.pre enc Tryd.prog Tryd.f5 Rows.fnExactReadNameRow.domain false w args ∧ laidMetH Tryd.prog Rows.fnExactReadNameRow.laid w) ∧ sizedMet enc Tryd.prog Tryd.f5 (OpenSpec.ofChange Rows.fnExactReadNameSpec) false w args)
      (Rows.fnExactReadNameSpec.post enc Tryd.prog Tryd.f5 false true false false) := by
  refine handed_shaped_and (C := Tryd.checked) (X := fun w _ => laidMetH Tryd.prog Rows.fnExactReadNameRow.laid w) (fun _ _ _ hh h => h.of_heap hh) own started (by kernel_rfl) Tryd.func5
    (ChangeSpec.witness_shaped (enc := enc) (C := Tryd.checked) (os := os) (X := fun w _ => laidMetH Tryd.prog Rows.fnExactReadNameRow.laid w) false (World.laidAll Tryd.prog os Rows.fnExactReadNameRow.laid) #[.string ⟨#[]⟩] 8 (World.laidAll_os _ _ _)
      (World.shaped_of_ZipB (by kernel_rfl) (by kernel_rfl)) (by kernel_rfl) (by kernel_rfl) (by kernel_rfl)
      (by rw [MakeChecks.laidMetH_plain _ _ _ (by kernel_rfl)]; exact laidMet_laidAll _ (by kernel_rfl) (by kernel_rfl))) ?_
  intro W base args ds gs before hval0 hW hcnd hshaped hlaid
  have hval : ∀ (j : Nat) t v, Tryd.f5.params[j]? = some t → args[j]? = some v → Value.okWide Tryd.prog W .any base t v := hval0
  have hW' := hW
  obtain ⟨p, q, hA0, hV, rfl, hfz, hnd⟩ := hW
  have hA : DataW.TrodAll enc Tryd.prog W 0 (fun _ => true) true Tryd.f5.params.toList args.toList ds p := hA0
  rw [Tryd.params5] at hA hval
  obtain ⟨v0, vs0, d0, ds0, p0, q0, hargs, rfl, rfl, h0, r0⟩ := trodAll_cons hA
  obtain ⟨rfl, rfl, rfl⟩ := trodAll_nil r0
  obtain rfl : args = #[v0] := by cases args; simp_all
  obtain ⟨rfl, rfl⟩ := trodVars_none hV
  obtain ⟨a0, rfl, rfl, rfl, f0⟩ := open_string Tryd.underlying9 (hval 0 9 v0 rfl rfl) h0
  clear hA0 hval0
  refine (walk a0 W f0 (MaxW.of_shaped hshaped) (TabW.of_laid hlaid (by kernel_rfl)) (ErrW.of_laid hlaid (by kernel_rfl) (by kernel_rfl))).mono fun e W' ⟨he, bel⟩ => ?_
  subst he
  exact ⟨_, rfl, _, _, _, [], _, [], hW', trodAll_mk1 (shut_bool Tryd.underlying4 _), (trodAll_cons_mk (shut_string Tryd.underlying9 f0) trodAll_mk0), rfl, Below.frame bel _, fun h => by cases h⟩

theorem over : Rows.fnExactReadNameRow.holds Tryd.pinned (OpenSpec.ofChange Rows.fnExactReadNameSpec) :=
  OpenClaim.holds_of_wide 5 Tryd.f5 rfl rfl rfl rfl rfl rfl rfl ⟨rfl, rfl, rfl, rfl, rfl⟩ rfl rfl rfl rfl rfl (by kernel_rfl) Tryd.func5 (by kernel_rfl)
    (of_decide_eq_true (by kernel_rfl)) (by unfold Func.isWrapper; first | (rw [if_pos (by decide +kernel)]; kernel_rfl) | (rw [if_neg (by decide +kernel)]; exact ⟨rfl, rfl⟩))
    (fun os started H enc _ => lifted os started H enc)

theorem proved : Rows.FnExactReadNameCardSaid :=
  Claim7.holds_tied_plain_at .later [] Rows.fnExactReadNameCard.laidKinds true Rows.fnExactReadNameCard.stood.harness Rows.fnExactReadNameCard.stood.looks over (fun _ h => by cases h) (by kernel_rfl) (fun _ h => by cases h) fnExactReadName_row_tie rfl ⟨rfl, rfl⟩ (by kernel_rfl) rfl
    (fun f fn hf hfn => by
      obtain rfl : f = 5 := Option.some.inj ((show Tryd.prog.funcNamed "loop.example/g01030/laws.FnExactReadName" = some 5 by kernel_rfl).symm.trans hf) |>.symm
      obtain rfl : fn = Tryd.f5 := (Option.some.inj (Tryd.func5.symm.trans hfn)).symm
      exact ⟨by kernel_rfl, fun j t ht => by
        rw [Tryd.params5] at ht
        have hm : t ∈ [9] := by simpa using Array.mem_of_getElem? ht
        have hall : ([9].all fun u => !Tryd.prog.wantsStandIn u) = true := by kernel_rfl
        exact (show Tryd.prog.wantsStandIn t = false by simpa using List.all_eq_true.1 hall t hm)⟩)
    (by kernel_rfl)



end Go.Proofs.YtajgjccnhippcaaDoor.fnExactReadName

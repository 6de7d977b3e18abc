/-
  FnExactPhraseSound returns true for every input: the program and the reference give the same answer, the arguments are left as they were, and what is handed back is new memory. No condition.
-/
import Derived.Test.YthdinjdbblppdaaDoorPS
import Derived.Test.YthdinjdbblppdaaDoorW3
import Derived.Test.YthdinjdbblppdaaDoorW
import Derived.Test.YthdinjdbblppdaaDoorW4
import Derived.Test.YthdinjdbblppdaaDoorTie
import Derived.Test.YthdinjdbblppdaaDoorCards
namespace Go.Proofs.YthdinjdbblppdaaDoor.fnExactPhraseSound
open Go.ChangeShapes Go.WideShapes Go.ChangeAt Go.RowKit
open Go.ChangeMaps (open_string shut_string)

set_option maxRecDepth 100000 in
set_option maxHeartbeats 2000000 in
theorem walk (a_aTable : Option Addr) (n_aTable c_aTable : Nat) (z_aTable : List Int) (x_aS : ByteArray) (w : World) (hi_aTable : InI w a_aTable n_aTable z_aTable) (_ : x_aS.size ≤ maxLen) (hmax : MaxW w) :
    Calls Tryd.prog 9 #[.slice a_aTable n_aTable c_aTable, .string x_aS] w fun e w' => e = .returned (.bool true) ∧ Ext w w' := by
  by_cases hbig_aTable : 1048576 < n_aTable
  · have hb_aTable : (1048576 : Int) < n_aTable := by omega
    go_enter Tryd.func9, Tryd.ntmps9
    go_wp2
    go_ret
    exact ⟨rfl, Ext.refl _⟩
  by_cases hbig_aS : 1048576 < x_aS.size
  · have hb_aS : (1048576 : Int) < x_aS.size := by omega
    go_enter Tryd.func9, Tryd.ntmps9
    go_wp2
    go_ret
    exact ⟨rfl, Ext.refl _⟩
  have hs_aS : x_aS.size ≤ 1048576 := by omega
  have hr_aTable := hi_aTable.rdI (by omega)
  clear hi_aTable
  go_enter Tryd.func9, Tryd.ntmps9
  go_wp2_with fail
  refine (toInt64S_any _ _ _ _ _ hr_aTable).mono ?_
  rintro e w1 ⟨v1, rfl, a1, n1, c1, rfl, o1, x1⟩
  obtain rfl : n_aTable = n1 := hr_aTable.len.symm.trans o1.rd.len
  go_wp2_with fail
  refine (specPhraseSound_any _ _ _ _ _ _ o1.rd (by omega)).mono ?_
  rintro e w2 ⟨rfl, x2⟩
  go_wp2_with fail
  refine (toInt64S_any _ _ _ _ _ (hr_aTable.ext (x1.trans x2))).mono ?_
  rintro e w3 ⟨v3, rfl, a3, n3, c3, rfl, o3, x3⟩
  obtain rfl : n_aTable = n3 := hr_aTable.len.symm.trans o3.rd.len
  go_wp2_with fail
  refine (implPhraseSound_any _ _ _ _ _ _ o3.rd (by omega) (hmax.ext ((x1.trans x2).trans x3))).mono ?_
  rintro e w4 ⟨rfl, x4⟩
  go_wp2_with fail
  refine (toInt64S_any _ _ _ _ _ (hr_aTable.ext (((x1.trans x2).trans x3).trans x4))).mono ?_
  rintro e w5 ⟨v5, rfl, a5, n5, c5, rfl, o5, x5⟩
  obtain rfl : n_aTable = n5 := hr_aTable.len.symm.trans o5.rd.len
  go_wp2_with fail
  refine (eqInt64S_same _ _ _ _ _ _ _ (o3.rd.ext (x4.trans x5)) o5.rd).mono ?_
  rintro e w6 ⟨rfl, s6⟩
  have x6 := s6.ext
  go_wp2
  go_ret
  exact ⟨rfl, (((((x1.trans x2).trans x3).trans x4).trans x5).trans x6)⟩

/-! The row. -/
set_option maxRecDepth 100000 in
theorem lifted (os : Os) (started : os.Started) (H : Type) (enc : TypeId × Value → H) :
    ReturnsInHanded {} Tryd.checked os 9 .any (fun w args => (Rows.fnExactPhraseSoundSpec.pre enc Tryd.prog Tryd.f9 Rows.fnExactPhraseSoundRow.domain false w args ∧ laidMetH Tryd.prog Rows.fnExactPhraseSoundRow.laid w) ∧ sizedMet enc Tryd.prog Tryd.f9 (OpenSpec.ofChange Rows.fnExactPhraseSoundSpec) false w args)
      (Rows.fnExactPhraseSoundSpec.post enc Tryd.prog Tryd.f9 false true false false) := by
  refine handed_shaped_and (C := Tryd.checked) (X := fun w _ => laidMetH Tryd.prog Rows.fnExactPhraseSoundRow.laid w) (fun _ _ _ hh h => h.of_heap hh) own started (by kernel_rfl) Tryd.func9
    (ChangeSpec.witness_shaped (enc := enc) (C := Tryd.checked) (os := os) (X := fun w _ => laidMetH Tryd.prog Rows.fnExactPhraseSoundRow.laid w) false (World.laidAll Tryd.prog os Rows.fnExactPhraseSoundRow.laid) #[.slice none 0 0, .string ⟨#[]⟩] 8 (World.laidAll_os _ _ _)
      (World.shaped_of_ZipB (by kernel_rfl) (by kernel_rfl)) (by kernel_rfl) (by kernel_rfl) (by kernel_rfl)
      (by rw [MakeChecks.laidMetH_plain _ _ _ (by kernel_rfl)]; exact laidMet_laidAll _ (by kernel_rfl) (by kernel_rfl))) ?_
  intro W base args ds gs before hval0 hW hcnd hshaped hlaid
  have hval : ∀ (j : Nat) t v, Tryd.f9.params[j]? = some t → args[j]? = some v → Value.okWide Tryd.prog W .any base t v := hval0
  have hW' := hW
  obtain ⟨p, q, hA0, hV, rfl, hfz, hnd⟩ := hW
  have hA : DataW.TrodAll enc Tryd.prog W 0 (fun _ => true) true Tryd.f9.params.toList args.toList ds p := hA0
  rw [Tryd.params9] at hA hval
  obtain ⟨v0, vs0, d0, ds0, p0, q0, hargs, rfl, rfl, h0, r0⟩ := trodAll_cons hA
  obtain ⟨v1, vs1, d1, ds1, p1, q1, rfl, rfl, rfl, h1, r1⟩ := trodAll_cons r0
  obtain ⟨rfl, rfl, rfl⟩ := trodAll_nil r1
  obtain rfl : args = #[v0, v1] := by cases args; simp_all
  obtain ⟨rfl, rfl⟩ := trodVars_none hV
  obtain ⟨a0, n0, c0, rfl⟩ := okWide_slice Tryd.underlying24 (hval 0 24 v0 rfl rfl)
  have k0 := h0
  have lt0 := trod_lt h0
  obtain ⟨z0, f0⟩ := open_inI h0
  obtain ⟨a1, rfl, rfl, rfl, f1⟩ := open_string Tryd.underlying9 (hval 1 9 v1 rfl rfl) h1
  clear hA0 hval0
  refine (walk a0 n0 c0 z0 a1 W f0 f1 (MaxW.of_shaped hshaped)).mono fun e W' ⟨he, bel⟩ => ?_
  subst he
  exact ⟨_, rfl, _, _, _, [], _, [], hW', trodAll_mk1 (shut_bool Tryd.underlying4 _), (trodAll_cons_mk (Below.trod laidOut (by kernel_rfl) (of_decide_eq_true (by kernel_rfl)) k0 bel lt0) (trodAll_cons_mk (shut_string Tryd.underlying9 f1) trodAll_mk0)), rfl, Below.frame bel _, fun h => by cases h⟩

theorem over : Rows.fnExactPhraseSoundRow.holds Tryd.pinned (OpenSpec.ofChange Rows.fnExactPhraseSoundSpec) :=
  OpenClaim.holds_of_wide 9 Tryd.f9 rfl rfl rfl rfl rfl rfl rfl ⟨rfl, rfl, rfl, rfl, rfl⟩ rfl rfl rfl rfl rfl (by kernel_rfl) Tryd.func9 (by kernel_rfl)
    (of_decide_eq_true (by kernel_rfl)) (by unfold Func.isWrapper; first | (rw [if_pos (by decide +kernel)]; kernel_rfl) | (rw [if_neg (by decide +kernel)]; exact ⟨rfl, rfl⟩))
    (fun os started H enc _ => lifted os started H enc)

theorem proved : Rows.FnExactPhraseSoundCardSaid :=
  Claim7.holds_tied_plain_at .later [] Rows.fnExactPhraseSoundCard.laidKinds true Rows.fnExactPhraseSoundCard.stood.harness Rows.fnExactPhraseSoundCard.stood.looks over (fun _ h => by cases h) (by kernel_rfl) (fun _ h => by cases h) fnExactPhraseSound_row_tie rfl ⟨rfl, rfl⟩ (by kernel_rfl) rfl
    (fun f fn hf hfn => by
      obtain rfl : f = 9 := Option.some.inj ((show Tryd.prog.funcNamed "loop.example/g01030/laws.FnExactPhraseSound" = some 9 by kernel_rfl).symm.trans hf) |>.symm
      obtain rfl : fn = Tryd.f9 := (Option.some.inj (Tryd.func9.symm.trans hfn)).symm
      exact ⟨by kernel_rfl, fun j t ht => by
        rw [Tryd.params9] at ht
        have hm : t ∈ [24, 9] := by simpa using Array.mem_of_getElem? ht
        have hall : ([24, 9].all fun u => !Tryd.prog.wantsStandIn u) = true := by kernel_rfl
        exact (show Tryd.prog.wantsStandIn t = false by simpa using List.all_eq_true.1 hall t hm)⟩)
    (by kernel_rfl)


end Go.Proofs.YthdinjdbblppdaaDoor.fnExactPhraseSound

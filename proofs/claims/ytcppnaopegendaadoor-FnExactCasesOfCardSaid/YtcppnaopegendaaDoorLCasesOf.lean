/-
  FnExactCasesOf returns true for every input: the program and the reference give the same answer, the arguments are left as they were, and what is handed back is new memory. No condition.
-/
import Derived.Test.YtcppnaopegendaaDoorCS
import Derived.Test.YtcppnaopegendaaDoorMEnding
import Derived.Test.YtcppnaopegendaaDoorKEnding
import Derived.Test.YtcppnaopegendaaDoorW
import Derived.Test.YtcppnaopegendaaDoorW4
import Derived.Test.YtcppnaopegendaaDoorTie
import Derived.Test.YtcppnaopegendaaDoorCards
namespace Go.Proofs.YtcppnaopegendaaDoor.fnExactCasesOf
open Go.ChangeShapes Go.WideShapes Go.ChangeAt Go.RowKit
open Go.ChangeMaps (open_string shut_string)

set_option maxRecDepth 100000 in
set_option maxHeartbeats 2000000 in
theorem walk (a_aTable : Option Addr) (n_aTable c_aTable : Nat) (z_aTable : List EndingV) (x_aBase : ByteArray) (x_aWord : ByteArray) (w : World) (hi_aTable : InEnding w a_aTable n_aTable z_aTable) (_ : x_aBase.size ≤ maxLen) (_ : x_aWord.size ≤ maxLen) :
    Calls Tryd.prog 5 #[.slice a_aTable n_aTable c_aTable, .string x_aBase, .string x_aWord] w fun e w' => e = .returned (.bool true) ∧ Ext w w' := by
  by_cases hbig_aBase : 1048576 < x_aBase.size
  · have hb_aBase : (1048576 : Int) < x_aBase.size := by omega
    go_enter Tryd.func5, Tryd.ntmps5
    go_wp2
    go_ret
    exact ⟨rfl, Ext.refl _⟩
  have hs_aBase : x_aBase.size ≤ 1048576 := by omega
  by_cases hbig_aWord : 1048576 < x_aWord.size
  · have hb_aWord : (1048576 : Int) < x_aWord.size := by omega
    go_enter Tryd.func5, Tryd.ntmps5
    go_wp2
    go_ret
    exact ⟨rfl, Ext.refl _⟩
  have hs_aWord : x_aWord.size ≤ 1048576 := by omega
  go_enter Tryd.func5, Tryd.ntmps5
  go_wp2_with fail
  refine (szEndingS_any _ _ _ _ _ _ hi_aTable (by omega) (by omega)).mono ?_
  rintro e w1 ⟨r1, rfl, l1, x1⟩
  by_cases hl1 : r1 < 0
  · go_wp2
    go_ret
    exact ⟨rfl, x1⟩
  have hq1 := l1.1 (by omega)
  have hr_aTable := leftEnding_rd hi_aTable l1 (by omega) (by omega)
  go_wp2_with fail
  refine (toEndingS_any _ _ _ _ _ (hr_aTable.ext x1)).mono ?_
  rintro e w2 ⟨v2, rfl, a2, n2, c2, rfl, o2, x2⟩
  obtain rfl : n_aTable = n2 := hr_aTable.len.symm.trans o2.rd.len
  go_wp2_with fail
  refine (specCasesOf_any _ _ _ _ _ _ _ o2.rd (by omega) (by omega) (by omega)).mono ?_
  rintro e w3 ⟨v3, rfl, a3, n3, c3, rfl, o3, x3⟩
  go_wp2_with fail
  refine (toEndingS_any _ _ _ _ _ (hr_aTable.ext ((x1.trans x2).trans x3))).mono ?_
  rintro e w4 ⟨v4, rfl, a4, n4, c4, rfl, o4, x4⟩
  obtain rfl : n_aTable = n4 := hr_aTable.len.symm.trans o4.rd.len
  go_wp2_with fail
  refine (implCasesOf_any _ _ _ _ _ _ _ o4.rd o4.cap (by omega) (by omega) (by omega)).mono ?_
  rintro e w5 ⟨v5, rfl, a5, n5, c5, rfl, o5, x5⟩
  obtain rfl : n3 = n5 := o3.rd.len.symm.trans o5.rd.len
  go_wp2_with fail
  refine (eqInt64S_same _ _ _ _ _ _ _ o5.rd (o3.rd.ext (x4.trans x5))).mono ?_
  rintro e w6 ⟨rfl, s6⟩
  have x6 := s6.ext
  go_wp2_with fail
  refine (toEndingS_any _ _ _ _ _ (hr_aTable.ext (((((x1.trans x2).trans x3).trans x4).trans x5).trans x6))).mono ?_
  rintro e w7 ⟨v7, rfl, a7, n7, c7, rfl, o7, x7⟩
  obtain rfl : n_aTable = n7 := hr_aTable.len.symm.trans o7.rd.len
  go_wp2_with fail
  refine (eqEndingS_same _ _ _ _ _ _ _ (o4.rd.ext ((x5.trans x6).trans x7)) o7.rd).mono ?_
  rintro e w8 ⟨rfl, x8⟩
  have y9 := (o4.ext (((x5.trans x6).trans x7).trans x8))
  go_wp2_with fail
  refine (markEndingS_any _ _ _ _ _ _ _ y9 (by decide) (by decide) (by omega)).mono ?_
  rintro e w9 ⟨rfl, m9, k9⟩
  have x10 := k9.ext (((((((x1.trans x2).trans x3).trans x4).trans x5).trans x6).trans x7).trans x8) y9.1.1 ((x1.trans x2).trans x3).size
  have x11 := k9.ext (((((((x1.trans x2).trans x3).trans x4).trans x5).trans x6).trans x7).trans x8) y9.1.1 ((x1.trans x2).trans x3).size
  have x12 := k9.ext (((((x3.trans x4).trans x5).trans x6).trans x7).trans x8) y9.1.1 x3.size
  have x13 := k9.ext ((((x4.trans x5).trans x6).trans x7).trans x8) y9.1.1 (Nat.le_refl _)
  have q14 : OwnI _ _ _ _ _ _ := ⟨k9.kept (o5.ext ((x6.trans x7).trans x8)).1 ⟨_, o4.1.1, Nat.le_refl _⟩, (o5.ext ((x6.trans x7).trans x8)).2⟩
  have q15 : OwnEnding _ _ _ _ _ _ := ⟨⟨k9.kept (o7.ext x8).1.1 ⟨_, o4.1.1, (x5.trans x6).size⟩, (o7.ext x8).1.2⟩, (o7.ext x8).2⟩
  go_wp2_with fail
  refine (eqInt64S_same _ _ _ _ _ _ _ q14.rd (o3.rd.ext x13)).mono ?_
  rintro e w16 ⟨rfl, s16⟩
  have x16 := s16.ext
  have y17 := (q14.ext x16)
  go_wp2_with fail
  refine (markInt64S_any _ _ _ _ _ _ _ y17 (by decide) (by decide)).mono ?_
  rintro e w17 ⟨rfl, m17, k17⟩
  have x18 := k17.ext (x10.trans x16) y17.1 (((x1.trans x2).trans x3).trans x4).size
  have x19 := k17.ext (x11.trans x16) y17.1 (((x1.trans x2).trans x3).trans x4).size
  have x20 := k17.ext (x12.trans x16) y17.1 (x3.trans x4).size
  have x21 := k17.ext (x13.trans x16) y17.1 x4.size
  have q22 : OwnEnding _ _ _ _ _ _ := ⟨⟨k17.kept (q15.ext x16).1.1 ⟨_, o5.1, x6.size⟩, (q15.ext x16).1.2⟩, (q15.ext x16).2⟩
  go_wp2_with fail
  refine (heldInt64S_marks _ _ _ _ _ m17.rd (by decide) (by decide)).mono ?_
  rintro e w23 ⟨rfl, rfl⟩
  go_wp2_with fail
  refine (toEndingS_any _ _ _ _ _ (hr_aTable.ext x19)).mono ?_
  rintro e w24 ⟨v24, rfl, a24, n24, c24, rfl, o24, x24⟩
  obtain rfl : n_aTable = n24 := hr_aTable.len.symm.trans o24.rd.len
  go_wp2_with fail
  refine (implCasesOf_any _ _ _ _ _ _ _ o24.rd o24.cap (by omega) (by omega) (by omega)).mono ?_
  rintro e w25 ⟨v25, rfl, a25, n25, c25, rfl, o25, x25⟩
  obtain rfl : n3 = n25 := o3.rd.len.symm.trans o25.rd.len
  go_wp2_with fail
  refine (eqInt64S_same _ _ _ _ _ _ _ o25.rd (o3.rd.ext ((x21.trans x24).trans x25))).mono ?_
  rintro e w26 ⟨rfl, s26⟩
  have x26 := s26.ext
  go_wp2_with fail
  refine (heldInt64S_marks _ _ _ _ _ (m17.rd.ext ((x24.trans x25).trans x26)) (by decide) (by decide)).mono ?_
  rintro e w27 ⟨rfl, rfl⟩
  go_wp2
  go_ret
  exact ⟨rfl, (((x18.trans x24).trans x25).trans x26)⟩

/-! The row. -/
set_option maxRecDepth 100000 in
theorem lifted (os : Os) (started : os.Started) (H : Type) (enc : TypeId × Value → H) :
    ReturnsInHanded {} Tryd.checked os 5 .any (fun w args => (Rows.fnExactCasesOfSpec.pre enc Tryd.prog Tryd.f5 Rows.fnExactCasesOfRow.domain false w args ∧ laidMetH Tryd.prog Rows.fnExactCasesOfRow.laid w) ∧ sizedMet enc Tryd.prog Tryd.f5 (OpenSpec.ofChange Rows.fnExactCasesOfSpec) false w args)
      (Rows.fnExactCasesOfSpec.post enc Tryd.prog Tryd.f5 false true false false) := by
  refine handed_shaped_and (C := Tryd.checked) (X := fun w _ => laidMetH Tryd.prog Rows.fnExactCasesOfRow.laid w) (fun _ _ _ hh h => h.of_heap hh) own started (by kernel_rfl) Tryd.func5
    (ChangeSpec.witness_shaped (enc := enc) (C := Tryd.checked) (os := os) (X := fun w _ => laidMetH Tryd.prog Rows.fnExactCasesOfRow.laid w) false (World.laidAll Tryd.prog os Rows.fnExactCasesOfRow.laid) #[.slice none 0 0, .string ⟨#[]⟩, .string ⟨#[]⟩] 8 (World.laidAll_os _ _ _)
      (World.shaped_of_ZipB (by kernel_rfl) (by kernel_rfl)) (by kernel_rfl) (by kernel_rfl) (by kernel_rfl)
      (by rw [MakeChecks.laidMetH_plain _ _ _ (by kernel_rfl)]; exact laidMet_laidAll _ (by kernel_rfl) (by kernel_rfl))) ?_
  intro W base args ds gs before hval0 hW hcnd hshaped hlaid
  have hval : ∀ (j : Nat) t v, Tryd.f5.params[j]? = some t → args[j]? = some v → Value.okWide Tryd.prog W .any base t v := hval0
  have hW' := hW
  obtain ⟨p, q, hA0, hV, rfl, hfz, hnd⟩ := hW
  have hA : DataW.TrodAll enc Tryd.prog W 0 (fun _ => true) true Tryd.f5.params.toList args.toList ds p := hA0
  rw [Tryd.params5] at hA hval
  obtain ⟨v0, vs0, d0, ds0, p0, q0, hargs, rfl, rfl, h0, r0⟩ := trodAll_cons hA
  obtain ⟨v1, vs1, d1, ds1, p1, q1, rfl, rfl, rfl, h1, r1⟩ := trodAll_cons r0
  obtain ⟨v2, vs2, d2, ds2, p2, q2, rfl, rfl, rfl, h2, r2⟩ := trodAll_cons r1
  obtain ⟨rfl, rfl, rfl⟩ := trodAll_nil r2
  obtain rfl : args = #[v0, v1, v2] := by cases args; simp_all
  obtain ⟨rfl, rfl⟩ := trodVars_none hV
  obtain ⟨a0, n0, c0, rfl⟩ := okWide_slice Tryd.underlying22 (hval 0 22 v0 rfl rfl)
  have k0 := h0
  have lt0 := trod_lt h0
  obtain ⟨z0, f0, _⟩ := open_inEnding h0
  obtain ⟨a1, rfl, rfl, rfl, f1⟩ := open_string Tryd.underlying9 (hval 1 9 v1 rfl rfl) h1
  obtain ⟨a2, rfl, rfl, rfl, f2⟩ := open_string Tryd.underlying9 (hval 2 9 v2 rfl rfl) h2
  clear hA0 hval0
  refine (walk a0 n0 c0 z0 a1 a2 W f0 f1 f2).mono fun e W' ⟨he, bel⟩ => ?_
  subst he
  exact ⟨_, rfl, _, _, _, [], _, [], hW', trodAll_mk1 (shut_bool Tryd.underlying4 _), (trodAll_cons_mk (Below.trod laidOut (by kernel_rfl) (of_decide_eq_true (by kernel_rfl)) k0 bel lt0) (trodAll_cons_mk (shut_string Tryd.underlying9 f1) (trodAll_cons_mk (shut_string Tryd.underlying9 f2) trodAll_mk0))), rfl, Below.frame bel _, fun h => by cases h⟩

theorem over : Rows.fnExactCasesOfRow.holds Tryd.pinned (OpenSpec.ofChange Rows.fnExactCasesOfSpec) :=
  OpenClaim.holds_of_wide 5 Tryd.f5 rfl rfl rfl rfl rfl rfl rfl ⟨rfl, rfl, rfl, rfl, rfl⟩ rfl rfl rfl rfl rfl (by kernel_rfl) Tryd.func5 (by kernel_rfl)
    (of_decide_eq_true (by kernel_rfl)) (by unfold Func.isWrapper; first | (rw [if_pos (by decide +kernel)]; kernel_rfl) | (rw [if_neg (by decide +kernel)]; exact ⟨rfl, rfl⟩))
    (fun os started H enc _ => lifted os started H enc)

theorem proved : Rows.FnExactCasesOfCardSaid :=
  Claim7.holds_tied_plain_at .later [] Rows.fnExactCasesOfCard.laidKinds true Rows.fnExactCasesOfCard.stood.harness Rows.fnExactCasesOfCard.stood.looks over (fun _ h => by cases h) (by kernel_rfl) (fun _ h => by cases h) fnExactCasesOf_row_tie rfl ⟨rfl, rfl⟩ (by kernel_rfl) rfl
    (fun f fn hf hfn => by
      obtain rfl : f = 5 := Option.some.inj ((show Tryd.prog.funcNamed "loop.example/g01030/laws.FnExactCasesOf" = some 5 by kernel_rfl).symm.trans hf) |>.symm
      obtain rfl : fn = Tryd.f5 := (Option.some.inj (Tryd.func5.symm.trans hfn)).symm
      exact ⟨by kernel_rfl, fun j t ht => by
        rw [Tryd.params5] at ht
        have hm : t ∈ [22, 9, 9] := by simpa using Array.mem_of_getElem? ht
        have hall : ([22, 9, 9].all fun u => !Tryd.prog.wantsStandIn u) = true := by kernel_rfl
        exact (show Tryd.prog.wantsStandIn t = false by simpa using List.all_eq_true.1 hall t hm)⟩)
    (by kernel_rfl)


end Go.Proofs.YtcppnaopegendaaDoor.fnExactCasesOf

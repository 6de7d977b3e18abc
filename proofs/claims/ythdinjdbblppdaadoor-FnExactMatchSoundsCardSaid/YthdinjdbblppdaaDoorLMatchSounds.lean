/-
  FnExactMatchSounds returns true for every input: the program and the reference give the same answer, the arguments are left as they were, and what is handed back is new memory. No condition.
-/
import Derived.Test.YthdinjdbblppdaaDoorSO3
import Derived.Test.YthdinjdbblppdaaDoorT5
import Derived.Test.YthdinjdbblppdaaDoorW3
import Derived.Test.YthdinjdbblppdaaDoorW
import Derived.Test.YthdinjdbblppdaaDoorW4
import Derived.Test.YthdinjdbblppdaaDoorTie
import Derived.Test.YthdinjdbblppdaaDoorCards
namespace Go.Proofs.YthdinjdbblppdaaDoor.fnExactMatchSounds
open Go.ChangeShapes Go.WideShapes Go.ChangeAt Go.RowKit
open Go.ChangeMaps (open_string shut_string)

set_option maxRecDepth 100000 in
set_option maxHeartbeats 2000000 in
theorem walk (a_aTable : Option Addr) (n_aTable c_aTable : Nat) (z_aTable : List Int) (a_aList : Option Addr) (n_aList c_aList : Nat) (z_aList : List ByteArray) (x_aWord : ByteArray) (w : World) (hi_aTable : InI w a_aTable n_aTable z_aTable) (hi_aList : InS w a_aList n_aList z_aList) (_ : x_aWord.size ≤ maxLen) :
    Calls Tryd.prog 7 #[.slice a_aTable n_aTable c_aTable, .slice a_aList n_aList c_aList, .string x_aWord] w fun e w' => e = .returned (.bool true) ∧ Ext w w' := by
  by_cases hbig_aTable : 1048576 < n_aTable
  · have hb_aTable : (1048576 : Int) < n_aTable := by omega
    go_enter Tryd.func7, Tryd.ntmps7
    go_wp2
    go_ret
    exact ⟨rfl, Ext.refl _⟩
  by_cases hbig_aWord : 1048576 < x_aWord.size
  · have hb_aWord : (1048576 : Int) < x_aWord.size := by omega
    go_enter Tryd.func7, Tryd.ntmps7
    go_wp2
    go_ret
    exact ⟨rfl, Ext.refl _⟩
  have hs_aWord : x_aWord.size ≤ 1048576 := by omega
  have hr_aTable := hi_aTable.rdI (by omega)
  clear hi_aTable
  go_enter Tryd.func7, Tryd.ntmps7
  go_wp2_with fail
  refine (szStringS_any _ _ _ _ _ _ hi_aList (by omega) (by omega)).mono ?_
  rintro e w1 ⟨⟨r1, rfl, l1⟩, rfl⟩
  by_cases hl1 : r1 < 0
  · go_wp2
    go_ret
    exact ⟨rfl, Ext.refl _⟩
  have hq1 := l1.1 (by omega)
  have hr_aList := l1.rdS hi_aList (by omega) (by omega)
  go_wp2_with fail
  refine (toInt64S_any _ _ _ _ _ hr_aTable).mono ?_
  rintro e w2 ⟨v2, rfl, a2, n2, c2, rfl, o2, x2⟩
  obtain rfl : n_aTable = n2 := hr_aTable.len.symm.trans o2.rd.len
  go_wp2_with fail
  refine (toStringS_any _ _ _ _ _ (hr_aList.ext x2)).mono ?_
  rintro e w3 ⟨v3, rfl, a3, n3, c3, rfl, o3, x3⟩
  obtain rfl : n_aList = n3 := hr_aList.len.symm.trans o3.rd.len
  go_wp2_with fail
  refine (specMatchSounds_any _ _ _ _ _ _ _ _ _ _ (o2.rd.ext x3) o3.rd (by omega)).mono ?_
  rintro e w4 ⟨v4, rfl, a4, n4, c4, rfl, o4, x4⟩
  go_wp2_with fail
  refine (toInt64S_any _ _ _ _ _ (hr_aTable.ext ((x2.trans x3).trans x4))).mono ?_
  rintro e w5 ⟨v5, rfl, a5, n5, c5, rfl, o5, x5⟩
  obtain rfl : n_aTable = n5 := hr_aTable.len.symm.trans o5.rd.len
  go_wp2_with fail
  refine (toStringS_any _ _ _ _ _ (hr_aList.ext (((x2.trans x3).trans x4).trans x5))).mono ?_
  rintro e w6 ⟨v6, rfl, a6, n6, c6, rfl, o6, x6⟩
  obtain rfl : n_aList = n6 := hr_aList.len.symm.trans o6.rd.len
  go_wp2_with fail
  refine (implMatchSounds_any _ _ _ _ _ _ _ _ _ _ (o5.rd.ext x6) o6.rd (by omega)).mono ?_
  rintro e w7 ⟨v7, rfl, a7, n7, c7, rfl, o7, x7⟩
  obtain rfl : n4 = n7 := o4.rd.len.symm.trans o7.rd.len
  go_wp2_with fail
  refine (eqInt64S_same _ _ _ _ _ _ _ o7.rd (o4.rd.ext ((x5.trans x6).trans x7))).mono ?_
  rintro e w8 ⟨rfl, s8⟩
  have x8 := s8.ext
  go_wp2_with fail
  refine (toInt64S_any _ _ _ _ _ (hr_aTable.ext ((((((x2.trans x3).trans x4).trans x5).trans x6).trans x7).trans x8))).mono ?_
  rintro e w9 ⟨v9, rfl, a9, n9, c9, rfl, o9, x9⟩
  obtain rfl : n_aTable = n9 := hr_aTable.len.symm.trans o9.rd.len
  go_wp2_with fail
  refine (eqInt64S_same _ _ _ _ _ _ _ (o5.rd.ext (((x6.trans x7).trans x8).trans x9)) o9.rd).mono ?_
  rintro e w10 ⟨rfl, s10⟩
  have x10 := s10.ext
  go_wp2_with fail
  refine (toStringS_any _ _ _ _ _ (hr_aList.ext ((((((((x2.trans x3).trans x4).trans x5).trans x6).trans x7).trans x8).trans x9).trans x10))).mono ?_
  rintro e w11 ⟨v11, rfl, a11, n11, c11, rfl, o11, x11⟩
  obtain rfl : n_aList = n11 := hr_aList.len.symm.trans o11.rd.len
  go_wp2_with fail
  refine (eqStringS_same _ _ _ _ _ _ _ (o6.rd.ext ((((x7.trans x8).trans x9).trans x10).trans x11)) o11.rd).mono ?_
  rintro e w12 ⟨rfl, s12⟩
  have x12 := s12.ext
  have y13 := (o5.ext ((((((x6.trans x7).trans x8).trans x9).trans x10).trans x11).trans x12))
  go_wp2_with fail
  refine (markInt64S_any _ _ _ _ _ _ _ y13 (by decide) (by decide)).mono ?_
  rintro e w13 ⟨rfl, m13, k13⟩
  have x14 := k13.ext ((((((((((x2.trans x3).trans x4).trans x5).trans x6).trans x7).trans x8).trans x9).trans x10).trans x11).trans x12) y13.1 ((x2.trans x3).trans x4).size
  have x15 := k13.ext ((((((((((x2.trans x3).trans x4).trans x5).trans x6).trans x7).trans x8).trans x9).trans x10).trans x11).trans x12) y13.1 ((x2.trans x3).trans x4).size
  have x16 := k13.ext ((((((((((x2.trans x3).trans x4).trans x5).trans x6).trans x7).trans x8).trans x9).trans x10).trans x11).trans x12) y13.1 ((x2.trans x3).trans x4).size
  have x17 := k13.ext (((((((((x3.trans x4).trans x5).trans x6).trans x7).trans x8).trans x9).trans x10).trans x11).trans x12) y13.1 (x3.trans x4).size
  have x18 := k13.ext ((((((((x4.trans x5).trans x6).trans x7).trans x8).trans x9).trans x10).trans x11).trans x12) y13.1 x4.size
  have x19 := k13.ext (((((((x5.trans x6).trans x7).trans x8).trans x9).trans x10).trans x11).trans x12) y13.1 (Nat.le_refl _)
  have q20 : OwnS _ _ _ _ _ _ := ⟨⟨k13.kept (o6.ext (((((x7.trans x8).trans x9).trans x10).trans x11).trans x12)).1.1 ⟨_, o5.1, Nat.le_refl _⟩, (o6.ext (((((x7.trans x8).trans x9).trans x10).trans x11).trans x12)).1.2⟩, (o6.ext (((((x7.trans x8).trans x9).trans x10).trans x11).trans x12)).2⟩
  have q21 : OwnI _ _ _ _ _ _ := ⟨k13.kept (o7.ext ((((x8.trans x9).trans x10).trans x11).trans x12)).1 ⟨_, o5.1, x6.size⟩, (o7.ext ((((x8.trans x9).trans x10).trans x11).trans x12)).2⟩
  have q22 : OwnI _ _ _ _ _ _ := ⟨k13.kept (o9.ext ((x10.trans x11).trans x12)).1 ⟨_, o5.1, ((x6.trans x7).trans x8).size⟩, (o9.ext ((x10.trans x11).trans x12)).2⟩
  have q23 : OwnS _ _ _ _ _ _ := ⟨⟨k13.kept (o11.ext x12).1.1 ⟨_, o5.1, ((((x6.trans x7).trans x8).trans x9).trans x10).size⟩, (o11.ext x12).1.2⟩, (o11.ext x12).2⟩
  have y24 := q20
  go_wp2_with fail
  refine (markStringS_any _ _ _ _ _ _ _ y24 (by omega) (by omega) (by omega)).mono ?_
  rintro e w24 ⟨rfl, m24, k24⟩
  have x25 := k24.ext x14 y24.1.1 (((x2.trans x3).trans x4).trans x5).size
  have x26 := k24.ext x15 y24.1.1 (((x2.trans x3).trans x4).trans x5).size
  have x27 := k24.ext x16 y24.1.1 (((x2.trans x3).trans x4).trans x5).size
  have x28 := k24.ext x17 y24.1.1 ((x3.trans x4).trans x5).size
  have x29 := k24.ext x18 y24.1.1 (x4.trans x5).size
  have x30 := k24.ext x19 y24.1.1 x5.size
  have q31 : OwnI _ _ _ _ _ _ := ⟨k24.kept q21.1 ⟨_, o6.1.1, Nat.le_refl _⟩, q21.2⟩
  have q32 : OwnI _ _ _ _ _ _ := ⟨k24.kept q22.1 ⟨_, o6.1.1, (x7.trans x8).size⟩, q22.2⟩
  have q33 : OwnS _ _ _ _ _ _ := ⟨⟨k24.kept q23.1.1 ⟨_, o6.1.1, (((x7.trans x8).trans x9).trans x10).size⟩, q23.1.2⟩, q23.2⟩
  go_wp2_with fail
  refine (eqInt64S_same _ _ _ _ _ _ _ q31.rd (o4.rd.ext x30)).mono ?_
  rintro e w34 ⟨rfl, s34⟩
  have x34 := s34.ext
  have y35 := (q31.ext x34)
  go_wp2_with fail
  refine (markInt64S_any _ _ _ _ _ _ _ y35 (by decide) (by decide)).mono ?_
  rintro e w35 ⟨rfl, m35, k35⟩
  have x36 := k35.ext (x25.trans x34) y35.1 ((((x2.trans x3).trans x4).trans x5).trans x6).size
  have x37 := k35.ext (x26.trans x34) y35.1 ((((x2.trans x3).trans x4).trans x5).trans x6).size
  have x38 := k35.ext (x27.trans x34) y35.1 ((((x2.trans x3).trans x4).trans x5).trans x6).size
  have x39 := k35.ext (x28.trans x34) y35.1 (((x3.trans x4).trans x5).trans x6).size
  have x40 := k35.ext (x29.trans x34) y35.1 ((x4.trans x5).trans x6).size
  have x41 := k35.ext (x30.trans x34) y35.1 (x5.trans x6).size
  have q42 : OwnI _ _ _ _ _ _ := ⟨k35.kept (q32.ext x34).1 ⟨_, o7.1, x8.size⟩, (q32.ext x34).2⟩
  have q43 : OwnS _ _ _ _ _ _ := ⟨⟨k35.kept (q33.ext x34).1.1 ⟨_, o7.1, ((x8.trans x9).trans x10).size⟩, (q33.ext x34).1.2⟩, (q33.ext x34).2⟩
  go_wp2_with fail
  refine (heldInt64S_marks _ _ _ _ _ m35.rd (by decide) (by decide)).mono ?_
  rintro e w44 ⟨rfl, rfl⟩
  go_wp2_with fail
  refine (toInt64S_any _ _ _ _ _ (hr_aTable.ext x37)).mono ?_
  rintro e w45 ⟨v45, rfl, a45, n45, c45, rfl, o45, x45⟩
  obtain rfl : n_aTable = n45 := hr_aTable.len.symm.trans o45.rd.len
  go_wp2_with fail
  refine (toStringS_any _ _ _ _ _ (hr_aList.ext (x38.trans x45))).mono ?_
  rintro e w46 ⟨v46, rfl, a46, n46, c46, rfl, o46, x46⟩
  obtain rfl : n_aList = n46 := hr_aList.len.symm.trans o46.rd.len
  go_wp2_with fail
  refine (implMatchSounds_any _ _ _ _ _ _ _ _ _ _ (o45.rd.ext x46) o46.rd (by omega)).mono ?_
  rintro e w47 ⟨v47, rfl, a47, n47, c47, rfl, o47, x47⟩
  obtain rfl : n4 = n47 := o4.rd.len.symm.trans o47.rd.len
  go_wp2_with fail
  refine (eqInt64S_same _ _ _ _ _ _ _ o47.rd (o4.rd.ext (((x41.trans x45).trans x46).trans x47))).mono ?_
  rintro e w48 ⟨rfl, s48⟩
  have x48 := s48.ext
  go_wp2_with fail
  refine (heldInt64S_marks _ _ _ _ _ (m35.rd.ext (((x45.trans x46).trans x47).trans x48)) (by decide) (by decide)).mono ?_
  rintro e w49 ⟨rfl, rfl⟩
  go_wp2
  go_ret
  exact ⟨rfl, ((((x36.trans x45).trans x46).trans x47).trans x48)⟩

/-! The row. -/
set_option maxRecDepth 100000 in
theorem lifted (os : Os) (started : os.Started) (H : Type) (enc : TypeId × Value → H) :
    ReturnsInHanded {} Tryd.checked os 7 .any (fun w args => (Rows.fnExactMatchSoundsSpec.pre enc Tryd.prog Tryd.f7 Rows.fnExactMatchSoundsRow.domain false w args ∧ laidMetH Tryd.prog Rows.fnExactMatchSoundsRow.laid w) ∧ sizedMet enc Tryd.prog Tryd.f7 (OpenSpec.ofChange Rows.fnExactMatchSoundsSpec) false w args)
      (Rows.fnExactMatchSoundsSpec.post enc Tryd.prog Tryd.f7 false true false false) := by
  refine handed_shaped_and (C := Tryd.checked) (X := fun w _ => laidMetH Tryd.prog Rows.fnExactMatchSoundsRow.laid w) (fun _ _ _ hh h => h.of_heap hh) own started (by kernel_rfl) Tryd.func7
    (ChangeSpec.witness_shaped (enc := enc) (C := Tryd.checked) (os := os) (X := fun w _ => laidMetH Tryd.prog Rows.fnExactMatchSoundsRow.laid w) false (World.laidAll Tryd.prog os Rows.fnExactMatchSoundsRow.laid) #[.slice none 0 0, .slice none 0 0, .string ⟨#[]⟩] 8 (World.laidAll_os _ _ _)
      (World.shaped_of_ZipB (by kernel_rfl) (by kernel_rfl)) (by kernel_rfl) (by kernel_rfl) (by kernel_rfl)
      (by rw [MakeChecks.laidMetH_plain _ _ _ (by kernel_rfl)]; exact laidMet_laidAll _ (by kernel_rfl) (by kernel_rfl))) ?_
  intro W base args ds gs before hval0 hW hcnd hshaped hlaid
  have hval : ∀ (j : Nat) t v, Tryd.f7.params[j]? = some t → args[j]? = some v → Value.okWide Tryd.prog W .any base t v := hval0
  have hW' := hW
  obtain ⟨p, q, hA0, hV, rfl, hfz, hnd⟩ := hW
  have hA : DataW.TrodAll enc Tryd.prog W 0 (fun _ => true) true Tryd.f7.params.toList args.toList ds p := hA0
  rw [Tryd.params7] at hA hval
  obtain ⟨v0, vs0, d0, ds0, p0, q0, hargs, rfl, rfl, h0, r0⟩ := trodAll_cons hA
  obtain ⟨v1, vs1, d1, ds1, p1, q1, rfl, rfl, rfl, h1, r1⟩ := trodAll_cons r0
  obtain ⟨v2, vs2, d2, ds2, p2, q2, rfl, rfl, rfl, h2, r2⟩ := trodAll_cons r1
  obtain ⟨rfl, rfl, rfl⟩ := trodAll_nil r2
  obtain rfl : args = #[v0, v1, v2] := by cases args; simp_all
  obtain ⟨rfl, rfl⟩ := trodVars_none hV
  obtain ⟨a0, n0, c0, rfl⟩ := okWide_slice Tryd.underlying24 (hval 0 24 v0 rfl rfl)
  have k0 := h0
  have lt0 := trod_lt h0
  obtain ⟨z0, f0⟩ := open_inI h0
  obtain ⟨a1, n1, c1, rfl⟩ := okWide_slice Tryd.underlying22 (hval 1 22 v1 rfl rfl)
  have k1 := h1
  have lt1 := trod_lt h1
  obtain ⟨z1, f1, _⟩ := open_inS h1
  obtain ⟨a2, rfl, rfl, rfl, f2⟩ := open_string Tryd.underlying9 (hval 2 9 v2 rfl rfl) h2
  clear hA0 hval0
  refine (walk a0 n0 c0 z0 a1 n1 c1 z1 a2 W f0 f1 f2).mono fun e W' ⟨he, bel⟩ => ?_
  subst he
  exact ⟨_, rfl, _, _, _, [], _, [], hW', trodAll_mk1 (shut_bool Tryd.underlying4 _), (trodAll_cons_mk (Below.trod laidOut (by kernel_rfl) (of_decide_eq_true (by kernel_rfl)) k0 bel lt0) (trodAll_cons_mk (Below.trod laidOut (by kernel_rfl) (of_decide_eq_true (by kernel_rfl)) k1 bel lt1) (trodAll_cons_mk (shut_string Tryd.underlying9 f2) trodAll_mk0))), rfl, Below.frame bel _, fun h => by cases h⟩

theorem over : Rows.fnExactMatchSoundsRow.holds Tryd.pinned (OpenSpec.ofChange Rows.fnExactMatchSoundsSpec) :=
  OpenClaim.holds_of_wide 7 Tryd.f7 rfl rfl rfl rfl rfl rfl rfl ⟨rfl, rfl, rfl, rfl, rfl⟩ rfl rfl rfl rfl rfl (by kernel_rfl) Tryd.func7 (by kernel_rfl)
    (of_decide_eq_true (by kernel_rfl)) (by unfold Func.isWrapper; first | (rw [if_pos (by decide +kernel)]; kernel_rfl) | (rw [if_neg (by decide +kernel)]; exact ⟨rfl, rfl⟩))
    (fun os started H enc _ => lifted os started H enc)

theorem proved : Rows.FnExactMatchSoundsCardSaid :=
  Claim7.holds_tied_plain_at .later [] Rows.fnExactMatchSoundsCard.laidKinds true Rows.fnExactMatchSoundsCard.stood.harness Rows.fnExactMatchSoundsCard.stood.looks over (fun _ h => by cases h) (by kernel_rfl) (fun _ h => by cases h) fnExactMatchSounds_row_tie rfl ⟨rfl, rfl⟩ (by kernel_rfl) rfl
    (fun f fn hf hfn => by
      obtain rfl : f = 7 := Option.some.inj ((show Tryd.prog.funcNamed "loop.example/g01030/laws.FnExactMatchSounds" = some 7 by kernel_rfl).symm.trans hf) |>.symm
      obtain rfl : fn = Tryd.f7 := (Option.some.inj (Tryd.func7.symm.trans hfn)).symm
      exact ⟨by kernel_rfl, fun j t ht => by
        rw [Tryd.params7] at ht
        have hm : t ∈ [24, 22, 9] := by simpa using Array.mem_of_getElem? ht
        have hall : ([24, 22, 9].all fun u => !Tryd.prog.wantsStandIn u) = true := by kernel_rfl
        exact (show Tryd.prog.wantsStandIn t = false by simpa using List.all_eq_true.1 hall t hm)⟩)
    (by kernel_rfl)


end Go.Proofs.YthdinjdbblppdaaDoor.fnExactMatchSounds

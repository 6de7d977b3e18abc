/-
  FnExactPlacesOfKind returns true for every input: the program and the reference give the same answer, the arguments are left as they were, and what is handed back is new memory. No condition.
-/
import Derived.Test.YtdacmbclkpgngaaGreatDoorKO
import Derived.Test.YtdacmbclkpgngaaGreatDoorMPlace
import Derived.Test.YtdacmbclkpgngaaGreatDoorKPlace
import Derived.Test.YtdacmbclkpgngaaGreatDoorW3
import Derived.Test.YtdacmbclkpgngaaGreatDoorT4
import Derived.Test.YtdacmbclkpgngaaGreatDoorT5
import Derived.Test.YtdacmbclkpgngaaGreatDoorW
import Derived.Test.YtdacmbclkpgngaaGreatDoorW4
import Derived.Test.YtdacmbclkpgngaaGreatDoorTie
import Derived.Test.YtdacmbclkpgngaaGreatDoorCards
namespace Go.Proofs.YtdacmbclkpgngaaGreatDoor.fnExactPlacesOfKind
open Go.ChangeShapes Go.WideShapes Go.ChangeAt Go.RowKit

set_option maxRecDepth 100000 in
set_option maxHeartbeats 2000000 in
theorem walk (a_aList : Option Addr) (n_aList c_aList : Nat) (z_aList : List PlaceV) (a_aTree : Option Addr) (n_aTree c_aTree : Nat) (z_aTree : List Int) (x_aClass : Int) (x_aYear : Int) (w : World) (hi_aList : InPlace w a_aList n_aList z_aList) (hi_aTree : InI w a_aTree n_aTree z_aTree) (_ : (Lit.int .i64 x_aClass).wf = true) (_ : (Lit.int .i64 x_aYear).wf = true) (hmax : MaxW w) :
    Calls Tryz.prog 5 #[.slice a_aList n_aList c_aList, .slice a_aTree n_aTree c_aTree, .int .i64 x_aClass, .int .i64 x_aYear] w fun e w' => e = .returned (.bool true) ∧ Ext w w' := by
  by_cases hbig_aTree : 1048576 < n_aTree
  · have hb_aTree : (1048576 : Int) < n_aTree := by omega
    go_enter Tryz.func5, Tryz.ntmps5
    go_wp2
    go_ret
    exact ⟨rfl, Ext.refl _⟩
  have hr_aTree := hi_aTree.rdI (by omega)
  clear hi_aTree
  go_enter Tryz.func5, Tryz.ntmps5
  go_wp2_with fail
  refine (szPlaceS_any _ _ _ _ _ _ hi_aList (by omega) (by omega)).mono ?_
  rintro e w1 ⟨r1, rfl, l1, x1⟩
  by_cases hl1 : r1 < 0
  · go_wp2
    go_ret
    exact ⟨rfl, x1⟩
  have hq1 := l1.1 (by omega)
  have hr_aList := leftPlace_rd hi_aList l1 (by omega) (by omega)
  go_wp2_with fail
  refine (toPlaceS_any _ _ _ _ _ (hr_aList.ext x1)).mono ?_
  rintro e w2 ⟨v2, rfl, a2, n2, c2, rfl, o2, x2⟩
  obtain rfl : n_aList = n2 := hr_aList.len.symm.trans o2.rd.len
  go_wp2_with fail
  refine (toInt64S_any _ _ _ _ _ (hr_aTree.ext (x1.trans x2))).mono ?_
  rintro e w3 ⟨v3, rfl, a3, n3, c3, rfl, o3, x3⟩
  obtain rfl : n_aTree = n3 := hr_aTree.len.symm.trans o3.rd.len
  go_wp2_with fail
  refine (specPlacesOfKind_any _ _ _ _ _ _ _ _ _ _ _ (o2.rd.ext x3) o3.rd).mono ?_
  rintro e w4 ⟨v4, rfl, a4, n4, c4, rfl, hn4, o4, x4⟩
  go_wp2_with fail
  refine (toPlaceS_any _ _ _ _ _ (hr_aList.ext (((x1.trans x2).trans x3).trans x4))).mono ?_
  rintro e w5 ⟨v5, rfl, a5, n5, c5, rfl, o5, x5⟩
  obtain rfl : n_aList = n5 := hr_aList.len.symm.trans o5.rd.len
  go_wp2_with fail
  refine (toInt64S_any _ _ _ _ _ (hr_aTree.ext ((((x1.trans x2).trans x3).trans x4).trans x5))).mono ?_
  rintro e w6 ⟨v6, rfl, a6, n6, c6, rfl, o6, x6⟩
  obtain rfl : n_aTree = n6 := hr_aTree.len.symm.trans o6.rd.len
  go_wp2_with fail
  refine (implPlacesOfKind_any _ _ _ _ _ _ _ _ _ _ _ (o5.rd.ext x6) (o5.ext x6).cap o6.rd (hmax.ext (((((x1.trans x2).trans x3).trans x4).trans x5).trans x6))).mono ?_
  rintro e w7 ⟨v7, rfl, a7, n7, c7, rfl, hn7, o7, x7⟩
  obtain rfl : n4 = n7 := o4.rd.len.symm.trans o7.rd.len
  go_wp2_with fail
  refine (eqStringS_same _ _ _ _ _ _ _ o7.rd (o4.rd.ext ((x5.trans x6).trans x7))).mono ?_
  rintro e w8 ⟨rfl, s8⟩
  have x8 := s8.ext
  go_wp2_with fail
  refine (toPlaceS_any _ _ _ _ _ (hr_aList.ext (((((((x1.trans x2).trans x3).trans x4).trans x5).trans x6).trans x7).trans x8))).mono ?_
  rintro e w9 ⟨v9, rfl, a9, n9, c9, rfl, o9, x9⟩
  obtain rfl : n_aList = n9 := hr_aList.len.symm.trans o9.rd.len
  go_wp2_with fail
  refine (eqPlaceS_same _ _ _ _ _ _ _ (o5.rd.ext (((x6.trans x7).trans x8).trans x9)) o9.rd).mono ?_
  rintro e w10 ⟨rfl, x10⟩
  go_wp2_with fail
  refine (toInt64S_any _ _ _ _ _ (hr_aTree.ext (((((((((x1.trans x2).trans x3).trans x4).trans x5).trans x6).trans x7).trans x8).trans x9).trans x10))).mono ?_
  rintro e w11 ⟨v11, rfl, a11, n11, c11, rfl, o11, x11⟩
  obtain rfl : n_aTree = n11 := hr_aTree.len.symm.trans o11.rd.len
  go_wp2_with fail
  refine (eqInt64S_same _ _ _ _ _ _ _ (o6.rd.ext ((((x7.trans x8).trans x9).trans x10).trans x11)) o11.rd).mono ?_
  rintro e w12 ⟨rfl, s12⟩
  have x12 := s12.ext
  have hnt13 := names_tot z_aList
  go_wp2_with fail
  refine (markPlaceS_any _ _ _ _ _ _ _ _ o5 ((((((x6.trans x7).trans x8).trans x9).trans x10).trans x11).trans x12) (by decide) (by decide) (by omega) (by omega)).mono ?_
  rintro e w13 ⟨rfl, k13⟩
  have x14 := k13.ext (((((((((((x1.trans x2).trans x3).trans x4).trans x5).trans x6).trans x7).trans x8).trans x9).trans x10).trans x11).trans x12)  (((x1.trans x2).trans x3).trans x4).size
  have x15 := k13.ext (((((((((((x1.trans x2).trans x3).trans x4).trans x5).trans x6).trans x7).trans x8).trans x9).trans x10).trans x11).trans x12)  (((x1.trans x2).trans x3).trans x4).size
  have x16 := k13.ext (((((((((((x1.trans x2).trans x3).trans x4).trans x5).trans x6).trans x7).trans x8).trans x9).trans x10).trans x11).trans x12)  (((x1.trans x2).trans x3).trans x4).size
  have x17 := k13.ext (((((((((x3.trans x4).trans x5).trans x6).trans x7).trans x8).trans x9).trans x10).trans x11).trans x12)  (x3.trans x4).size
  have x18 := k13.ext ((((((((x4.trans x5).trans x6).trans x7).trans x8).trans x9).trans x10).trans x11).trans x12)  x4.size
  have x19 := k13.ext (((((((x5.trans x6).trans x7).trans x8).trans x9).trans x10).trans x11).trans x12)  (Nat.le_refl _)
  have q20 : OwnI _ _ _ _ _ _ := ⟨k13.kept (o6.ext (((((x7.trans x8).trans x9).trans x10).trans x11).trans x12)).1 (Nat.le_refl _), (o6.ext (((((x7.trans x8).trans x9).trans x10).trans x11).trans x12)).2⟩
  have q21 : OwnS _ _ _ _ _ _ := ⟨⟨k13.kept (o7.ext ((((x8.trans x9).trans x10).trans x11).trans x12)).1.1 (x6.size), (o7.ext ((((x8.trans x9).trans x10).trans x11).trans x12)).1.2⟩, (o7.ext ((((x8.trans x9).trans x10).trans x11).trans x12)).2⟩
  have q23 : OwnI _ _ _ _ _ _ := ⟨k13.kept (o11.ext x12).1 (((((x6.trans x7).trans x8).trans x9).trans x10).size), (o11.ext x12).2⟩
  have y24 := q20
  go_wp2_with fail
  refine (markInt64S_any _ _ _ _ _ _ _ y24 (by omega) (by omega)).mono ?_
  rintro e w24 ⟨rfl, m24, k24⟩
  have x25 := k24.ext x14 y24.1 ((((x1.trans x2).trans x3).trans x4).trans x5).size
  have x26 := k24.ext x15 y24.1 ((((x1.trans x2).trans x3).trans x4).trans x5).size
  have x27 := k24.ext x16 y24.1 ((((x1.trans x2).trans x3).trans x4).trans x5).size
  have x28 := k24.ext x17 y24.1 ((x3.trans x4).trans x5).size
  have x29 := k24.ext x18 y24.1 (x4.trans x5).size
  have x30 := k24.ext x19 y24.1 x5.size
  have q31 : OwnS _ _ _ _ _ _ := ⟨⟨k24.kept q21.1.1 ⟨_, o6.1, Nat.le_refl _⟩, q21.1.2⟩, q21.2⟩
  have q32 : OwnI _ _ _ _ _ _ := ⟨k24.kept q23.1 ⟨_, o6.1, (((x7.trans x8).trans x9).trans x10).size⟩, q23.2⟩
  go_wp2_with fail
  refine (eqStringS_same _ _ _ _ _ _ _ q31.rd (o4.rd.ext x30)).mono ?_
  rintro e w33 ⟨rfl, s33⟩
  have x33 := s33.ext
  have y34 := (q31.ext x33)
  go_wp2_with fail
  refine (markStringS_any _ _ _ _ _ _ _ y34 (by decide) (by decide) (by omega)).mono ?_
  rintro e w34 ⟨rfl, m34, k34⟩
  have x35 := k34.ext (x25.trans x33) y34.1.1 (((((x1.trans x2).trans x3).trans x4).trans x5).trans x6).size
  have x36 := k34.ext (x26.trans x33) y34.1.1 (((((x1.trans x2).trans x3).trans x4).trans x5).trans x6).size
  have x37 := k34.ext (x27.trans x33) y34.1.1 (((((x1.trans x2).trans x3).trans x4).trans x5).trans x6).size
  have x38 := k34.ext (x28.trans x33) y34.1.1 (((x3.trans x4).trans x5).trans x6).size
  have x39 := k34.ext (x29.trans x33) y34.1.1 ((x4.trans x5).trans x6).size
  have x40 := k34.ext (x30.trans x33) y34.1.1 (x5.trans x6).size
  have q41 : OwnI _ _ _ _ _ _ := ⟨k34.kept (q32.ext x33).1 ⟨_, o7.1.1, ((x8.trans x9).trans x10).size⟩, (q32.ext x33).2⟩
  go_wp2_with fail
  refine (heldStringS_marks _ _ _ _ _ m34.rd (by decide) (by decide) (by omega)).mono ?_
  rintro e w42 ⟨rfl, x42⟩
  go_wp2_with fail
  refine (toPlaceS_any _ _ _ _ _ (hr_aList.ext (x36.trans x42))).mono ?_
  rintro e w43 ⟨v43, rfl, a43, n43, c43, rfl, o43, x43⟩
  obtain rfl : n_aList = n43 := hr_aList.len.symm.trans o43.rd.len
  go_wp2_with fail
  refine (toInt64S_any _ _ _ _ _ (hr_aTree.ext ((x37.trans x42).trans x43))).mono ?_
  rintro e w44 ⟨v44, rfl, a44, n44, c44, rfl, o44, x44⟩
  obtain rfl : n_aTree = n44 := hr_aTree.len.symm.trans o44.rd.len
  go_wp2_with fail
  refine (implPlacesOfKind_any _ _ _ _ _ _ _ _ _ _ _ (o43.rd.ext x44) (o43.ext x44).cap o44.rd (hmax.ext (((x35.trans x42).trans x43).trans x44))).mono ?_
  rintro e w45 ⟨v45, rfl, a45, n45, c45, rfl, hn45, o45, x45⟩
  obtain rfl : n4 = n45 := o4.rd.len.symm.trans o45.rd.len
  go_wp2_with fail
  refine (eqStringS_same _ _ _ _ _ _ _ o45.rd (o4.rd.ext ((((x40.trans x42).trans x43).trans x44).trans x45))).mono ?_
  rintro e w46 ⟨rfl, s46⟩
  have x46 := s46.ext
  go_wp2_with fail
  refine (heldStringS_marks _ _ _ _ _ (m34.rd.ext ((((x42.trans x43).trans x44).trans x45).trans x46)) (by decide) (by decide) (by omega)).mono ?_
  rintro e w47 ⟨rfl, x47⟩
  go_wp2
  go_ret
  exact ⟨rfl, ((((((x35.trans x42).trans x43).trans x44).trans x45).trans x46).trans x47)⟩

/-! The row. -/
set_option maxRecDepth 100000 in
theorem lifted (os : Os) (started : os.Started) (H : Type) (enc : TypeId × Value → H) :
    ReturnsInHanded {} Tryz.checked os 5 .any (fun w args => (Rows.fnExactPlacesOfKindSpec.pre enc Tryz.prog Tryz.f5 Rows.fnExactPlacesOfKindRow.domain false w args ∧ laidMetH Tryz.prog Rows.fnExactPlacesOfKindRow.laid w) ∧ sizedMet enc Tryz.prog Tryz.f5 (OpenSpec.ofChange Rows.fnExactPlacesOfKindSpec) false w args)
      (Rows.fnExactPlacesOfKindSpec.post enc Tryz.prog Tryz.f5 false true false false) := by
  refine handed_shaped_and (C := Tryz.checked) (X := fun w _ => laidMetH Tryz.prog Rows.fnExactPlacesOfKindRow.laid w) (fun _ _ _ hh h => h.of_heap hh) own started (by kernel_rfl) Tryz.func5
    (ChangeSpec.witness_shaped (enc := enc) (C := Tryz.checked) (os := os) (X := fun w _ => laidMetH Tryz.prog Rows.fnExactPlacesOfKindRow.laid w) false (World.laidAll Tryz.prog os Rows.fnExactPlacesOfKindRow.laid) #[.slice none 0 0, .slice none 0 0, .int .i64 0, .int .i64 0] 8 (World.laidAll_os _ _ _)
      (World.shaped_of_ZipB (by kernel_rfl) (by kernel_rfl)) (by kernel_rfl) (by kernel_rfl) (by kernel_rfl)
      (by rw [MakeChecks.laidMetH_plain _ _ _ (by kernel_rfl)]; exact laidMet_laidAll _ (by kernel_rfl) (by kernel_rfl))) ?_
  intro W base args ds gs before hval0 hW hcnd hshaped hlaid
  have hval : ∀ (j : Nat) t v, Tryz.f5.params[j]? = some t → args[j]? = some v → Value.okWide Tryz.prog W .any base t v := hval0
  have hW' := hW
  obtain ⟨p, q, hA0, hV, rfl, hfz, hnd⟩ := hW
  have hA : DataW.TrodAll enc Tryz.prog W 0 (fun _ => true) true Tryz.f5.params.toList args.toList ds p := hA0
  rw [Tryz.params5] at hA hval
  obtain ⟨v0, vs0, d0, ds0, p0, q0, hargs, rfl, rfl, h0, r0⟩ := trodAll_cons hA
  obtain ⟨v1, vs1, d1, ds1, p1, q1, rfl, rfl, rfl, h1, r1⟩ := trodAll_cons r0
  obtain ⟨v2, vs2, d2, ds2, p2, q2, rfl, rfl, rfl, h2, r2⟩ := trodAll_cons r1
  obtain ⟨v3, vs3, d3, ds3, p3, q3, rfl, rfl, rfl, h3, r3⟩ := trodAll_cons r2
  obtain ⟨rfl, rfl, rfl⟩ := trodAll_nil r3
  obtain rfl : args = #[v0, v1, v2, v3] := by cases args; simp_all
  obtain ⟨rfl, rfl⟩ := trodVars_none hV
  obtain ⟨a0, n0, c0, rfl⟩ := okWide_slice Tryz.underlying22 (hval 0 22 v0 rfl rfl)
  have k0 := h0
  have lt0 := trod_lt h0
  obtain ⟨z0, f0, _⟩ := open_inPlace h0
  obtain ⟨a1, n1, c1, rfl⟩ := okWide_slice Tryz.underlying38 (hval 1 38 v1 rfl rfl)
  have k1 := h1
  have lt1 := trod_lt h1
  obtain ⟨z1, f1⟩ := open_inI h1
  obtain ⟨a2, rfl, rfl, rfl, f2⟩ := open_int Tryz.underlying2 (hval 2 2 v2 rfl rfl) h2
  obtain ⟨a3, rfl, rfl, rfl, f3⟩ := open_int Tryz.underlying2 (hval 3 2 v3 rfl rfl) h3
  clear hA0 hval0
  refine (walk a0 n0 c0 z0 a1 n1 c1 z1 a2 a3 W f0 f1 f2 f3 (MaxW.of_shaped hshaped)).mono fun e W' ⟨he, bel⟩ => ?_
  subst he
  exact ⟨_, rfl, _, _, _, [], _, [], hW', trodAll_mk1 (shut_bool Tryz.underlying4 _), (trodAll_cons_mk (Below.trod laidOut (by kernel_rfl) (of_decide_eq_true (by kernel_rfl)) k0 bel lt0) (trodAll_cons_mk (Below.trod laidOut (by kernel_rfl) (of_decide_eq_true (by kernel_rfl)) k1 bel lt1) (trodAll_cons_mk (shut_int Tryz.underlying2 f2) (trodAll_cons_mk (shut_int Tryz.underlying2 f3) trodAll_mk0)))), rfl, Below.frame bel _, fun h => by cases h⟩

theorem over : Rows.fnExactPlacesOfKindRow.holds Tryz.pinned (OpenSpec.ofChange Rows.fnExactPlacesOfKindSpec) :=
  OpenClaim.holds_of_wide 5 Tryz.f5 rfl rfl rfl rfl rfl rfl rfl ⟨rfl, rfl, rfl, rfl, rfl⟩ rfl rfl rfl rfl rfl (by kernel_rfl) Tryz.func5 (by kernel_rfl)
    (of_decide_eq_true (by kernel_rfl)) (by unfold Func.isWrapper; first | (rw [if_pos (by decide +kernel)]; kernel_rfl) | (rw [if_neg (by decide +kernel)]; exact ⟨rfl, rfl⟩))
    (fun os started H enc _ => lifted os started H enc)

theorem proved : Rows.FnExactPlacesOfKindCardSaid :=
  Claim7.holds_tied_plain_at .later [] Rows.fnExactPlacesOfKindCard.laidKinds true Rows.fnExactPlacesOfKindCard.stood.harness Rows.fnExactPlacesOfKindCard.stood.looks over (fun _ h => by cases h) (by kernel_rfl) (fun _ h => by cases h) fnExactPlacesOfKind_row_tie rfl ⟨rfl, rfl⟩ (by kernel_rfl) rfl
    (fun f fn hf hfn => by
      obtain rfl : f = 5 := Option.some.inj ((show Tryz.prog.funcNamed "loop.example/g01030/laws.FnExactPlacesOfKind" = some 5 by kernel_rfl).symm.trans hf) |>.symm
      obtain rfl : fn = Tryz.f5 := (Option.some.inj (Tryz.func5.symm.trans hfn)).symm
      exact ⟨by kernel_rfl, fun j t ht => by
        rw [Tryz.params5] at ht
        have hm : t ∈ [22, 38, 2, 2] := by simpa using Array.mem_of_getElem? ht
        have hall : ([22, 38, 2, 2].all fun u => !Tryz.prog.wantsStandIn u) = true := by kernel_rfl
        exact (show Tryz.prog.wantsStandIn t = false by simpa using List.all_eq_true.1 hall t hm)⟩)
    (by kernel_rfl)


end Go.Proofs.YtdacmbclkpgngaaGreatDoor.fnExactPlacesOfKind

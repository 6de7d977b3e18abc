/-
  FnExactAddLink returns true for every input: the program and the reference give the same answer, the arguments are left as they were, and what is handed back is new memory. No condition.
-/
import Derived.Test.YtkljdmdlmhdpiaaDoorLD2
import Derived.Test.YtkljdmdlmhdpiaaDoorMLink
import Derived.Test.YtkljdmdlmhdpiaaDoorKLink
import Derived.Test.YtkljdmdlmhdpiaaDoorW6
import Derived.Test.YtkljdmdlmhdpiaaDoorW
import Derived.Deep.RegionHeld3
import Derived.Deep.DrawnRows
import Derived.Test.YtkljdmdlmhdpiaaDoorW4
import Derived.Test.YtkljdmdlmhdpiaaDoorTie
import Derived.Test.YtkljdmdlmhdpiaaDoorCards
namespace Go.Proofs.YtkljdmdlmhdpiaaDoor.fnExactAddLink
open Go.ChangeShapes Go.WideShapes Go.ChangeAt Go.RowKit
attribute [local go_sem ↓] Go.wp_at_zero Go.wp_at_succ

set_option maxRecDepth 100000 in
set_option maxHeartbeats 2000000 in
theorem walk (a_aList : Option Addr) (n_aList c_aList : Nat) (z_aList : List LinkV) (z_aL : LinkV) (w : World) (hi_aList : InLink w a_aList n_aList z_aList) (hi_aL : ok0Link z_aL) :
    Calls Tryd.prog 3 #[.slice a_aList n_aList c_aList, valLink z_aL] w fun e w' => e = .returned (.bool true) ∧ Ext w w' := by
  obtain ⟨v0_aL, v1_aL, v2_aL, v3_aL⟩ := z_aL
  simp only [valLink]
  have xb := (Ext.refl w).alloc (.cells #[.string v0_aL, .string v1_aL, .int .i64 v2_aL, .int .i64 v3_aL] 26)
  go_enter Tryd.func3, Tryd.ntmps3
  go_wp2_with fail
  refine (szLinkS_any _ _ _ _ _ _ (hi_aList.ext xb) (by omega) (by omega)).mono ?_
  rintro e w1 ⟨r1, rfl, l1, x1⟩
  by_cases hl1 : r1 < 0
  · go_wp2
    go_ret
    exact ⟨rfl, (xb.trans x1)⟩
  have hq1 := l1.1 (by omega)
  have hr_aList := leftLink_rd hi_aList l1 (by omega) (by omega)
  have b3 : _ = some (Value.string v0_aL) := box_keptG x1 0
  have b4 : _ = some (Value.string v1_aL) := box_keptG x1 1
  have b5 : _ = some (Value.int .i64 v2_aL) := box_keptG x1 2
  have b6 : _ = some (Value.int .i64 v3_aL) := box_keptG x1 3
  go_wp2_with fail
  refine (szLink_any ⟨v0_aL, v1_aL, v2_aL, v3_aL⟩ _ _ hi_aL (by omega) (by omega)).mono ?_
  rintro e w2 ⟨r2, rfl, l2, x2⟩
  by_cases hl2 : r2 < 0
  · go_wp2
    go_ret
    exact ⟨rfl, ((xb.trans x1).trans x2)⟩
  have hq2 := l2.1 (by omega)
  have hr_aL := leftLink_ok l2 (by omega) (by omega)
  have p1z0 : _ = some (Value.string v0_aL) := box_keptG (x1.trans x2) 0
  have p1z1 : _ = some (Value.string v1_aL) := box_keptG (x1.trans x2) 1
  have p1z2 : _ = some (Value.int .i64 v2_aL) := box_keptG (x1.trans x2) 2
  have p1z3 : _ = some (Value.int .i64 v3_aL) := box_keptG (x1.trans x2) 3
  go_wp2
  go_region_held3 (fun w' => w'.cell? ⟨w.heap.size, 0, none⟩ = some (Value.string v0_aL) ∧ w'.cell? ⟨w.heap.size, 1, none⟩ = some (Value.string v1_aL) ∧ w'.cell? ⟨w.heap.size, 2, none⟩ = some (Value.int .i64 v2_aL) ∧ w'.cell? ⟨w.heap.size, 3, none⟩ = some (Value.int .i64 v3_aL)) (go_keep) (first | (go_at_call 8; refine (toLinkS_any _ _ _ _ _ (hr_aList.ext (((xb.trans x1).trans x2).drew))).mono ?_; rintro e w7 ⟨v7, rfl, a7, n7, c7, rfl, o7, x7d⟩; have x7 := (Ext.refl _).drew.trans x7d; obtain rfl : n_aList = n7 := hr_aList.len.symm.trans o7.rd.len; have p1a0 : _ = some (Value.string v0_aL) := box_keptG ((x1.trans x2).trans x7) 0; have p1a1 : _ = some (Value.string v1_aL) := box_keptG ((x1.trans x2).trans x7) 1; have p1a2 : _ = some (Value.int .i64 v2_aL) := box_keptG ((x1.trans x2).trans x7) 2; have p1a3 : _ = some (Value.int .i64 v3_aL) := box_keptG ((x1.trans x2).trans x7) 3) | (go_at_call 9; refine (toLink_any ⟨v0_aL, v1_aL, v2_aL, v3_aL⟩ _).mono ?_; rintro e w12 ⟨rfl, x12⟩; have p1b0 : _ = some (Value.string v0_aL) := box_keptG (((x1.trans x2).trans x7).trans x12) 0; have p1b1 : _ = some (Value.string v1_aL) := box_keptG (((x1.trans x2).trans x7).trans x12) 1; have p1b2 : _ = some (Value.int .i64 v2_aL) := box_keptG (((x1.trans x2).trans x7).trans x12) 2; have p1b3 : _ = some (Value.int .i64 v3_aL) := box_keptG (((x1.trans x2).trans x7).trans x12) 3) | (go_at_call 7; refine (specAddLink_any _ _ _ _ ⟨v0_aL, v1_aL, v2_aL, v3_aL⟩ _ (o7.rd.ext x12) hr_aL (by omega)).mono ?_; rintro e w13 ⟨v13, rfl, a13, n13, c13, rfl, hn13, o13, x13⟩; have p1c0 : _ = some (Value.string v0_aL) := box_keptG ((((x1.trans x2).trans x7).trans x12).trans x13) 0; have p1c1 : _ = some (Value.string v1_aL) := box_keptG ((((x1.trans x2).trans x7).trans x12).trans x13) 1; have p1c2 : _ = some (Value.int .i64 v2_aL) := box_keptG ((((x1.trans x2).trans x7).trans x12).trans x13) 2; have p1c3 : _ = some (Value.int .i64 v3_aL) := box_keptG ((((x1.trans x2).trans x7).trans x12).trans x13) 3))
  go_wp2_with fail
  refine (toLinkS_any _ _ _ _ _ (hr_aList.ext (((((xb.trans x1).trans x2).trans x7).trans x12).trans x13))).mono ?_
  rintro e w14 ⟨v14, rfl, a14, n14, c14, rfl, o14, x14⟩
  obtain rfl : n_aList = n14 := hr_aList.len.symm.trans o14.rd.len
  have b15 : _ = some (Value.string v0_aL) := box_keptG (((((x1.trans x2).trans x7).trans x12).trans x13).trans x14) 0
  have b16 : _ = some (Value.string v1_aL) := box_keptG (((((x1.trans x2).trans x7).trans x12).trans x13).trans x14) 1
  have b17 : _ = some (Value.int .i64 v2_aL) := box_keptG (((((x1.trans x2).trans x7).trans x12).trans x13).trans x14) 2
  have b18 : _ = some (Value.int .i64 v3_aL) := box_keptG (((((x1.trans x2).trans x7).trans x12).trans x13).trans x14) 3
  go_wp2_with fail
  refine (toLink_any ⟨v0_aL, v1_aL, v2_aL, v3_aL⟩ _).mono ?_
  rintro e w19 ⟨rfl, x19⟩
  go_wp2_with fail
  refine (implAddLink_any _ _ _ _ ⟨v0_aL, v1_aL, v2_aL, v3_aL⟩ _ (o14.rd.ext x19) (o14.ext x19).cap hr_aL (by omega)).mono ?_
  rintro e w20 ⟨v20, rfl, a20, n20, c20, rfl, hn20, o20, x20⟩
  obtain rfl : n13 = n20 := o13.rd.len.symm.trans o20.rd.len
  go_wp2_with fail
  refine (eqLinkS_same _ _ _ _ _ _ _ o20.rd (o13.rd.ext ((x14.trans x19).trans x20))).mono ?_
  rintro e w21 ⟨rfl, x21⟩
  go_wp2_with fail
  refine (toLinkS_any _ _ _ _ _ (hr_aList.ext (((((((((xb.trans x1).trans x2).trans x7).trans x12).trans x13).trans x14).trans x19).trans x20).trans x21))).mono ?_
  rintro e w22 ⟨v22, rfl, a22, n22, c22, rfl, o22, x22⟩
  obtain rfl : n_aList = n22 := hr_aList.len.symm.trans o22.rd.len
  go_wp2_with fail
  refine (eqLinkS_same _ _ _ _ _ _ _ (o14.rd.ext (((x19.trans x20).trans x21).trans x22)) o22.rd).mono ?_
  rintro e w23 ⟨rfl, x23⟩
  have y24 := (o14.ext ((((x19.trans x20).trans x21).trans x22).trans x23))
  go_wp2_with fail
  refine (markLinkS_any _ _ _ _ _ _ _ y24 (by decide) (by decide) (by omega)).mono ?_
  rintro e w24 ⟨rfl, m24, k24⟩
  have x25 := k24.ext (((((((((((xb.trans x1).trans x2).trans x7).trans x12).trans x13).trans x14).trans x19).trans x20).trans x21).trans x22).trans x23) y24.1.1 (((((xb.trans x1).trans x2).trans x7).trans x12).trans x13).size
  have x26 := k24.ext (((((((((((xb.trans x1).trans x2).trans x7).trans x12).trans x13).trans x14).trans x19).trans x20).trans x21).trans x22).trans x23) y24.1.1 (((((xb.trans x1).trans x2).trans x7).trans x12).trans x13).size
  have x27 := k24.ext ((((((((((x1.trans x2).trans x7).trans x12).trans x13).trans x14).trans x19).trans x20).trans x21).trans x22).trans x23) y24.1.1 ((((x1.trans x2).trans x7).trans x12).trans x13).size
  have x28 := k24.ext (((((((x12.trans x13).trans x14).trans x19).trans x20).trans x21).trans x22).trans x23) y24.1.1 (x12.trans x13).size
  have x29 := k24.ext (((((x14.trans x19).trans x20).trans x21).trans x22).trans x23) y24.1.1 (Nat.le_refl _)
  have q30 : OwnLink _ _ _ _ _ _ := ⟨⟨k24.kept (o20.ext ((x21.trans x22).trans x23)).1.1 ⟨_, o14.1.1, x19.size⟩, (o20.ext ((x21.trans x22).trans x23)).1.2⟩, (o20.ext ((x21.trans x22).trans x23)).2⟩
  have q31 : OwnLink _ _ _ _ _ _ := ⟨⟨k24.kept (o22.ext x23).1.1 ⟨_, o14.1.1, ((x19.trans x20).trans x21).size⟩, (o22.ext x23).1.2⟩, (o22.ext x23).2⟩
  go_wp2_with fail
  refine (eqLinkS_same _ _ _ _ _ _ _ q30.rd (o13.rd.ext x29)).mono ?_
  rintro e w32 ⟨rfl, x32⟩
  have y33 := (q30.ext x32)
  go_wp2_with fail
  refine (markLinkS_any _ _ _ _ _ _ _ y33 (by decide) (by decide) (by omega)).mono ?_
  rintro e w33 ⟨rfl, m33, k33⟩
  have x34 := k33.ext (x25.trans x32) y33.1.1 (((((((xb.trans x1).trans x2).trans x7).trans x12).trans x13).trans x14).trans x19).size
  have x35 := k33.ext (x26.trans x32) y33.1.1 (((((((xb.trans x1).trans x2).trans x7).trans x12).trans x13).trans x14).trans x19).size
  have x36 := k33.ext (x27.trans x32) y33.1.1 ((((((x1.trans x2).trans x7).trans x12).trans x13).trans x14).trans x19).size
  have x37 := k33.ext (x28.trans x32) y33.1.1 (((x12.trans x13).trans x14).trans x19).size
  have x38 := k33.ext (x29.trans x32) y33.1.1 (x14.trans x19).size
  have q39 : OwnLink _ _ _ _ _ _ := ⟨⟨k33.kept (q31.ext x32).1.1 ⟨_, o20.1.1, x21.size⟩, (q31.ext x32).1.2⟩, (q31.ext x32).2⟩
  go_wp2_with fail
  refine (heldLinkS_marks _ _ _ _ _ m33.rd (by decide) (by decide) (by omega)).mono ?_
  rintro e w40 ⟨rfl, x40⟩
  have p2z0 : _ = some (Value.string v0_aL) := box_keptG (x36.trans x40) 0
  have p2z1 : _ = some (Value.string v1_aL) := box_keptG (x36.trans x40) 1
  have p2z2 : _ = some (Value.int .i64 v2_aL) := box_keptG (x36.trans x40) 2
  have p2z3 : _ = some (Value.int .i64 v3_aL) := box_keptG (x36.trans x40) 3
  go_wp2
  go_region_held3 (fun w' => w'.cell? ⟨w.heap.size, 0, none⟩ = some (Value.string v0_aL) ∧ w'.cell? ⟨w.heap.size, 1, none⟩ = some (Value.string v1_aL) ∧ w'.cell? ⟨w.heap.size, 2, none⟩ = some (Value.int .i64 v2_aL) ∧ w'.cell? ⟨w.heap.size, 3, none⟩ = some (Value.int .i64 v3_aL)) (go_keep) (first | (go_at_call 8; refine (toLinkS_any _ _ _ _ _ (hr_aList.ext ((x35.trans x40).drew))).mono ?_; rintro e w41 ⟨v41, rfl, a41, n41, c41, rfl, o41, x41d⟩; have x41 := (Ext.refl _).drew.trans x41d; obtain rfl : n_aList = n41 := hr_aList.len.symm.trans o41.rd.len; have p2a0 : _ = some (Value.string v0_aL) := box_keptG ((x36.trans x40).trans x41) 0; have p2a1 : _ = some (Value.string v1_aL) := box_keptG ((x36.trans x40).trans x41) 1; have p2a2 : _ = some (Value.int .i64 v2_aL) := box_keptG ((x36.trans x40).trans x41) 2; have p2a3 : _ = some (Value.int .i64 v3_aL) := box_keptG ((x36.trans x40).trans x41) 3) | (go_at_call 9; refine (toLink_any ⟨v0_aL, v1_aL, v2_aL, v3_aL⟩ _).mono ?_; rintro e w46 ⟨rfl, x46⟩; have p2b0 : _ = some (Value.string v0_aL) := box_keptG (((x36.trans x40).trans x41).trans x46) 0; have p2b1 : _ = some (Value.string v1_aL) := box_keptG (((x36.trans x40).trans x41).trans x46) 1; have p2b2 : _ = some (Value.int .i64 v2_aL) := box_keptG (((x36.trans x40).trans x41).trans x46) 2; have p2b3 : _ = some (Value.int .i64 v3_aL) := box_keptG (((x36.trans x40).trans x41).trans x46) 3) | (go_at_call 10; refine (implAddLink_any _ _ _ _ ⟨v0_aL, v1_aL, v2_aL, v3_aL⟩ _ (o41.rd.ext x46) (o41.ext x46).cap hr_aL (by omega)).mono ?_; rintro e w47 ⟨v47, rfl, a47, n47, c47, rfl, hn47, o47, x47⟩; have p2c0 : _ = some (Value.string v0_aL) := box_keptG ((((x36.trans x40).trans x41).trans x46).trans x47) 0; have p2c1 : _ = some (Value.string v1_aL) := box_keptG ((((x36.trans x40).trans x41).trans x46).trans x47) 1; have p2c2 : _ = some (Value.int .i64 v2_aL) := box_keptG ((((x36.trans x40).trans x41).trans x46).trans x47) 2; have p2c3 : _ = some (Value.int .i64 v3_aL) := box_keptG ((((x36.trans x40).trans x41).trans x46).trans x47) 3))
  obtain rfl : n13 = n47 := o13.rd.len.symm.trans o47.rd.len
  go_wp2_with fail
  refine (eqLinkS_same _ _ _ _ _ _ _ o47.rd (o13.rd.ext ((((x38.trans x40).trans x41).trans x46).trans x47))).mono ?_
  rintro e w48 ⟨rfl, x48⟩
  go_wp2_with fail
  refine (heldLinkS_marks _ _ _ _ _ (m33.rd.ext ((((x40.trans x41).trans x46).trans x47).trans x48)) (by decide) (by decide) (by omega)).mono ?_
  rintro e w49 ⟨rfl, x49⟩
  go_wp2
  go_ret
  exact ⟨rfl, ((((((x34.trans x40).trans x41).trans x46).trans x47).trans x48).trans x49)⟩

/-! The row. -/
set_option maxRecDepth 100000 in
theorem lifted (os : Os) (started : os.Started) (H : Type) (enc : TypeId × Value → H) :
    ReturnsInHanded {} Tryd.checked os 3 .any (fun w args => (Rows.fnExactAddLinkSpec.pre enc Tryd.prog Tryd.f3 Rows.fnExactAddLinkRow.domain false w args ∧ laidMetH Tryd.prog Rows.fnExactAddLinkRow.laid w) ∧ sizedMet enc Tryd.prog Tryd.f3 (OpenSpec.ofChange Rows.fnExactAddLinkSpec) false w args)
      (Rows.fnExactAddLinkSpec.post enc Tryd.prog Tryd.f3 false true false false) := by
  refine handed_shaped_and (C := Tryd.checked) (X := fun w _ => laidMetH Tryd.prog Rows.fnExactAddLinkRow.laid w) (fun _ _ _ hh h => h.of_heap hh) own started (by kernel_rfl) Tryd.func3
    (ChangeSpec.witness_shaped (enc := enc) (C := Tryd.checked) (os := os) (X := fun w _ => laidMetH Tryd.prog Rows.fnExactAddLinkRow.laid w) false (World.laidAll Tryd.prog os Rows.fnExactAddLinkRow.laid) #[.slice none 0 0, .agg #[.string ⟨#[]⟩, .string ⟨#[]⟩, .int .i64 0, .int .i64 0]] 8 (World.laidAll_os _ _ _)
      (World.shaped_of_ZipB (by kernel_rfl) (by kernel_rfl)) (by kernel_rfl) (by kernel_rfl) (by kernel_rfl)
      (by rw [MakeChecks.laidMetH_plain _ _ _ (by kernel_rfl)]; exact laidMet_laidAll _ (by kernel_rfl) (by kernel_rfl))) ?_
  intro W base args ds gs before hval0 hW hcnd hshaped hlaid
  have hval : ∀ (j : Nat) t v, Tryd.f3.params[j]? = some t → args[j]? = some v → Value.okWide Tryd.prog W .any base t v := hval0
  have hW' := hW
  obtain ⟨p, q, hA0, hV, rfl, hfz, hnd⟩ := hW
  have hA : DataW.TrodAll enc Tryd.prog W 0 (fun _ => true) true Tryd.f3.params.toList args.toList ds p := hA0
  rw [Tryd.params3] at hA hval
  obtain ⟨v0, vs0, d0, ds0, p0, q0, hargs, rfl, rfl, h0, r0⟩ := trodAll_cons hA
  obtain ⟨v1, vs1, d1, ds1, p1, q1, rfl, rfl, rfl, h1, r1⟩ := trodAll_cons r0
  obtain ⟨rfl, rfl, rfl⟩ := trodAll_nil r1
  obtain rfl : args = #[v0, v1] := by cases args; simp_all
  obtain ⟨rfl, rfl⟩ := trodVars_none hV
  obtain ⟨a0, n0, c0, rfl⟩ := okWide_slice Tryd.underlying22 (hval 0 22 v0 rfl rfl)
  have k0 := h0
  have lt0 := trod_lt h0
  obtain ⟨z0, f0, _⟩ := open_inLink h0
  have k1 := h1
  have lt1 := trod_lt h1
  obtain ⟨z1, rfl, f1⟩ := open_valLink (hval 1 26 v1 rfl rfl) h1
  clear hA0 hval0
  refine (walk a0 n0 c0 z0 z1 W f0 f1).mono fun e W' ⟨he, bel⟩ => ?_
  subst he
  exact ⟨_, rfl, _, _, _, [], _, [], hW', trodAll_mk1 (shut_bool Tryd.underlying4 _), (trodAll_cons_mk (Below.trod laidOut (by kernel_rfl) (of_decide_eq_true (by kernel_rfl)) k0 bel lt0) (trodAll_cons_mk (Below.trod laidOut (by kernel_rfl) (of_decide_eq_true (by kernel_rfl)) k1 bel lt1) trodAll_mk0)), rfl, Below.frame bel _, fun h => by cases h⟩

theorem over : Rows.fnExactAddLinkRow.holds Tryd.pinned (OpenSpec.ofChange Rows.fnExactAddLinkSpec) :=
  OpenClaim.holds_of_wide 3 Tryd.f3 rfl rfl rfl rfl rfl rfl rfl ⟨rfl, rfl, rfl, rfl, rfl⟩ rfl rfl rfl rfl rfl (by kernel_rfl) Tryd.func3 (by kernel_rfl)
    (of_decide_eq_true (by kernel_rfl)) (by unfold Func.isWrapper; first | (rw [if_pos (by decide +kernel)]; kernel_rfl) | (rw [if_neg (by decide +kernel)]; exact ⟨rfl, rfl⟩))
    (fun os started H enc _ => lifted os started H enc)

theorem proved : Rows.FnExactAddLinkCardSaid :=
  Claim7.holds_tied_plain_at .later [] Rows.fnExactAddLinkCard.laidKinds true Rows.fnExactAddLinkCard.stood.harness Rows.fnExactAddLinkCard.stood.looks over (fun _ h => by cases h) (by kernel_rfl) (fun _ h => by cases h) fnExactAddLink_row_tie rfl ⟨rfl, rfl⟩ (by kernel_rfl) rfl
    (fun f fn hf hfn => by
      obtain rfl : f = 3 := Option.some.inj ((show Tryd.prog.funcNamed "loop.example/g01030/laws.FnExactAddLink" = some 3 by kernel_rfl).symm.trans hf) |>.symm
      obtain rfl : fn = Tryd.f3 := (Option.some.inj (Tryd.func3.symm.trans hfn)).symm
      exact ⟨by kernel_rfl, fun j t ht => by
        rw [Tryd.params3] at ht
        have hm : t ∈ [22, 26] := by simpa using Array.mem_of_getElem? ht
        have hall : ([22, 26].all fun u => !Tryd.prog.wantsStandIn u) = true := by kernel_rfl
        exact (show Tryd.prog.wantsStandIn t = false by simpa using List.all_eq_true.1 hall t hm)⟩)
    (by kernel_rfl)


end Go.Proofs.YtkljdmdlmhdpiaaDoor.fnExactAddLink

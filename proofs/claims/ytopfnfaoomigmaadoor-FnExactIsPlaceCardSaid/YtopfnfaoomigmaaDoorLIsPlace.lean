/-
  FnExactIsPlace returns true for every input: the program and the reference give the same answer, the arguments are left as they were, and what is handed back is new memory. No condition.
-/
import Derived.Test.YtopfnfaoomigmaaDoorPL
import Derived.Test.YtopfnfaoomigmaaDoorMPlace
import Derived.Test.YtopfnfaoomigmaaDoorW
import Derived.Deep.RegionHeld3
import Derived.Deep.DrawnRows
import Derived.Test.YtopfnfaoomigmaaDoorW4
import Derived.Test.YtopfnfaoomigmaaDoorTie
import Derived.Test.YtopfnfaoomigmaaDoorCards
namespace Go.Proofs.YtopfnfaoomigmaaDoor.fnExactIsPlace
open Go.ChangeShapes Go.WideShapes Go.ChangeAt Go.RowKit
attribute [local go_sem ↓] Go.wp_at_zero Go.wp_at_succ

set_option maxRecDepth 100000 in
set_option maxHeartbeats 2000000 in
theorem walk (z : PlaceV) (r : Ref) (w : World) (hi : NamesIn w r z) (hmax : MaxW w) :
    Calls Tryd.prog 3 #[valPlace z r] w fun e w' => e = .returned (.bool true) ∧ Ext w w' := by
  obtain ⟨v0, v1, v2, v3, v4⟩ := z
  obtain ⟨ra, rn, rc⟩ := r
  simp only [valPlace]
  have xb := (Ext.refl w).alloc (.cells #[.string v0, .int .i64 v1, .int .i64 v2, .int .i64 v3, .slice ra rn rc] 26)
  go_enter Tryd.func3, Tryd.ntmps3
  go_wp2_with fail
  refine (szPlace_any ⟨v0, v1, v2, v3, v4⟩ ⟨ra, rn, rc⟩ _ _ (hi.ext xb) (by omega) (by omega)).mono ?_
  rintro e w1 ⟨r1, rfl, l1, x1⟩
  by_cases hl1 : r1 < 0
  · go_wp2
    go_ret
    exact ⟨rfl, (xb.trans x1)⟩
  have hq1 := l1.1 (by omega)
  have hr := left_namesAt hi l1 (by omega) (by omega)
  have b0 : _ = some (Value.string v0) := box_keptG x1 0
  have b1 : _ = some (Value.int .i64 v1) := box_keptG x1 1
  have b2 : _ = some (Value.int .i64 v2) := box_keptG x1 2
  have b3 : _ = some (Value.int .i64 v3) := box_keptG x1 3
  have b4 : _ = some (Value.slice ra rn rc) := box_keptG x1 4
  go_wp2_with fail
  refine (toPlace_any ⟨v0, v1, v2, v3, v4⟩ ⟨ra, rn, rc⟩ _ (hr.ext (xb.trans x1))).mono ?_
  rintro e w2 ⟨⟨qa, qn, qc⟩, rfl, hn2, o2, x2⟩
  obtain rfl : qn = rn := hn2
  have hr2 : NamesAt w2 ⟨qa, qn, qc⟩ ⟨v0, v1, v2, v3, v4⟩ := ⟨o2.rd, o2.cap, hr.2.2.1, hr.2.2.2⟩
  go_wp2_with fail
  refine (specIsPlace_any ⟨v0, v1, v2, v3, v4⟩ ⟨qa, qn, qc⟩ _ hr2).mono ?_
  rintro e w3 ⟨rfl, x3⟩
  have b0x : _ = some (Value.string v0) := box_keptG ((x1.trans x2).trans x3) 0
  have b1x : _ = some (Value.int .i64 v1) := box_keptG ((x1.trans x2).trans x3) 1
  have b2x : _ = some (Value.int .i64 v2) := box_keptG ((x1.trans x2).trans x3) 2
  have b3x : _ = some (Value.int .i64 v3) := box_keptG ((x1.trans x2).trans x3) 3
  have b4x : _ = some (Value.slice ra qn rc) := box_keptG ((x1.trans x2).trans x3) 4
  go_wp2_with fail
  refine (toPlace_any ⟨v0, v1, v2, v3, v4⟩ ⟨ra, qn, rc⟩ _ (hr.ext (((xb.trans x1).trans x2).trans x3))).mono ?_
  rintro e w4 ⟨⟨pa, pn, pc⟩, rfl, hn4, o4, x4⟩
  obtain rfl : pn = qn := hn4
  rw [valPlace]
  have hr4 : NamesAt w4 ⟨pa, pn, pc⟩ ⟨v0, v1, v2, v3, v4⟩ := ⟨o4.rd, o4.cap, hr.2.2.1, hr.2.2.2⟩
  have xx := (((xb.trans x1).trans x2).trans x3).trans x4
  go_wp2_with fail
  have xb4 := (Ext.refl w4).alloc (.cells #[.string v0, .int .i64 v1, .int .i64 v2, .int .i64 v3, .slice pa pn pc] 32)
  refine (implIsPlace_any ⟨v0, v1, v2, v3, v4⟩ ⟨pa, pn, pc⟩ _ (hr4.ext xb4) (hmax.ext (xx.trans xb4))).mono ?_
  rintro e w5 ⟨rfl, x5⟩
  have za0 : _ = some (Value.string v0) := box_keptG (((((x1.trans x2).trans x3).trans x4).trans xb4).trans x5) 0
  have za1 : _ = some (Value.int .i64 v1) := box_keptG (((((x1.trans x2).trans x3).trans x4).trans xb4).trans x5) 1
  have za2 : _ = some (Value.int .i64 v2) := box_keptG (((((x1.trans x2).trans x3).trans x4).trans xb4).trans x5) 2
  have za3 : _ = some (Value.int .i64 v3) := box_keptG (((((x1.trans x2).trans x3).trans x4).trans xb4).trans x5) 3
  have za4 : _ = some (Value.slice ra pn rc) := box_keptG (((((x1.trans x2).trans x3).trans x4).trans xb4).trans x5) 4
  have zb0 : _ = some (Value.string v0) := box_keptG x5 0
  have zb1 : _ = some (Value.int .i64 v1) := box_keptG x5 1
  have zb2 : _ = some (Value.int .i64 v2) := box_keptG x5 2
  have zb3 : _ = some (Value.int .i64 v3) := box_keptG x5 3
  have zb4 : _ = some (Value.slice pa pn pc) := box_keptG x5 4
  go_wp2
  go_region_held3 (fun w' => w'.cell? ⟨w.heap.size, 0, none⟩ = some (Value.string v0) ∧ w'.cell? ⟨w.heap.size, 1, none⟩ = some (Value.int .i64 v1) ∧ w'.cell? ⟨w.heap.size, 2, none⟩ = some (Value.int .i64 v2) ∧ w'.cell? ⟨w.heap.size, 3, none⟩ = some (Value.int .i64 v3) ∧ w'.cell? ⟨w.heap.size, 4, none⟩ = some (Value.slice ra pn rc) ∧ w'.cell? ⟨w4.heap.size, 0, none⟩ = some (Value.string v0) ∧ w'.cell? ⟨w4.heap.size, 1, none⟩ = some (Value.int .i64 v1) ∧ w'.cell? ⟨w4.heap.size, 2, none⟩ = some (Value.int .i64 v2) ∧ w'.cell? ⟨w4.heap.size, 3, none⟩ = some (Value.int .i64 v3) ∧ w'.cell? ⟨w4.heap.size, 4, none⟩ = some (Value.slice pa pn pc)) (go_keep) (first | (go_at_call 10; refine (toPlace_any ⟨v0, v1, v2, v3, v4⟩ ⟨ra, pn, rc⟩ _ (hr.ext ((((xx.trans xb4).trans x5)).drew))).mono ?_; rintro e w6 ⟨⟨ta, tn, tc⟩, rfl, hn6, o6, x6d⟩; obtain rfl : tn = pn := hn6; have x6 := (Ext.refl _).drew.trans x6d; have hr6 : NamesAt w6 ⟨ta, tn, tc⟩ ⟨v0, v1, v2, v3, v4⟩ := ⟨o6.rd, o6.cap, hr.2.2.1, hr.2.2.2⟩; have ya0 : _ = some (Value.string v0) := box_keptG ((((((x1.trans x2).trans x3).trans x4).trans xb4).trans x5).trans x6) 0; have ya1 : _ = some (Value.int .i64 v1) := box_keptG ((((((x1.trans x2).trans x3).trans x4).trans xb4).trans x5).trans x6) 1; have ya2 : _ = some (Value.int .i64 v2) := box_keptG ((((((x1.trans x2).trans x3).trans x4).trans xb4).trans x5).trans x6) 2; have ya3 : _ = some (Value.int .i64 v3) := box_keptG ((((((x1.trans x2).trans x3).trans x4).trans xb4).trans x5).trans x6) 3; have ya4 : _ = some (Value.slice ra tn rc) := box_keptG ((((((x1.trans x2).trans x3).trans x4).trans xb4).trans x5).trans x6) 4; have yb0 : _ = some (Value.string v0) := box_keptG (x5.trans x6) 0; have yb1 : _ = some (Value.int .i64 v1) := box_keptG (x5.trans x6) 1; have yb2 : _ = some (Value.int .i64 v2) := box_keptG (x5.trans x6) 2; have yb3 : _ = some (Value.int .i64 v3) := box_keptG (x5.trans x6) 3; have yb4 : _ = some (Value.slice pa tn pc) := box_keptG (x5.trans x6) 4) | (go_at_call 12; refine (eqPlace_same ⟨v0, v1, v2, v3, v4⟩ ⟨pa, tn, pc⟩ ⟨ta, tn, tc⟩ _ (hr4.ext ((xb4.trans x5).trans x6)) hr6).mono ?_; rintro e w7 ⟨rfl, x7⟩; have ua0 : _ = some (Value.string v0) := box_keptG (((((((x1.trans x2).trans x3).trans x4).trans xb4).trans x5).trans x6).trans x7) 0; have ua1 : _ = some (Value.int .i64 v1) := box_keptG (((((((x1.trans x2).trans x3).trans x4).trans xb4).trans x5).trans x6).trans x7) 1; have ua2 : _ = some (Value.int .i64 v2) := box_keptG (((((((x1.trans x2).trans x3).trans x4).trans xb4).trans x5).trans x6).trans x7) 2; have ua3 : _ = some (Value.int .i64 v3) := box_keptG (((((((x1.trans x2).trans x3).trans x4).trans xb4).trans x5).trans x6).trans x7) 3; have ua4 : _ = some (Value.slice ra tn rc) := box_keptG (((((((x1.trans x2).trans x3).trans x4).trans xb4).trans x5).trans x6).trans x7) 4; have ub0 : _ = some (Value.string v0) := box_keptG ((x5.trans x6).trans x7) 0; have ub1 : _ = some (Value.int .i64 v1) := box_keptG ((x5.trans x6).trans x7) 1; have ub2 : _ = some (Value.int .i64 v2) := box_keptG ((x5.trans x6).trans x7) 2; have ub3 : _ = some (Value.int .i64 v3) := box_keptG ((x5.trans x6).trans x7) 3; have ub4 : _ = some (Value.slice pa tn pc) := box_keptG ((x5.trans x6).trans x7) 4))
  go_wp2
  go_ret
  exact ⟨rfl, (((xx.trans xb4).trans x5).trans x6).trans x7⟩

/-! The row. -/
set_option maxRecDepth 100000 in
theorem lifted (os : Os) (started : os.Started) (H : Type) (enc : TypeId × Value → H) :
    ReturnsInHanded {} Tryd.checked os 3 .any (fun w args => (Rows.fnExactIsPlaceSpec.pre enc Tryd.prog Tryd.f3 Rows.fnExactIsPlaceRow.domain false w args ∧ laidMetH Tryd.prog Rows.fnExactIsPlaceRow.laid w) ∧ sizedMet enc Tryd.prog Tryd.f3 (OpenSpec.ofChange Rows.fnExactIsPlaceSpec) false w args)
      (Rows.fnExactIsPlaceSpec.post enc Tryd.prog Tryd.f3 false true false false) := by
  refine handed_shaped_and (C := Tryd.checked) (X := fun w _ => laidMetH Tryd.prog Rows.fnExactIsPlaceRow.laid w) (fun _ _ _ hh h => h.of_heap hh) own started (by kernel_rfl) Tryd.func3
    (ChangeSpec.witness_shaped (enc := enc) (C := Tryd.checked) (os := os) (X := fun w _ => laidMetH Tryd.prog Rows.fnExactIsPlaceRow.laid w) false (World.laidAll Tryd.prog os Rows.fnExactIsPlaceRow.laid) #[.agg #[.string ⟨#[]⟩, .int .i64 0, .int .i64 0, .int .i64 0, .slice none 0 0]] 8 (World.laidAll_os _ _ _)
      (World.shaped_of_ZipB (by kernel_rfl) (by kernel_rfl)) (by kernel_rfl) (by kernel_rfl) (by kernel_rfl)
      (by rw [MakeChecks.laidMetH_plain _ _ _ (by kernel_rfl)]; exact laidMet_laidAll _ (by kernel_rfl) (by kernel_rfl))) ?_
  intro W base args ds gs before hval0 hW hcnd hshaped hlaid
  have hval : ∀ (j : Nat) t v, Tryd.f3.params[j]? = some t → args[j]? = some v → Value.okWide Tryd.prog W .any base t v := hval0
  have hW' := hW
  obtain ⟨p, q, hA0, hV, rfl, hfz, hnd⟩ := hW
  have hA : DataW.TrodAll enc Tryd.prog W 0 (fun _ => true) true Tryd.f3.params.toList args.toList ds p := hA0
  rw [Tryd.params3] at hA hval
  obtain ⟨v0, vs0, d0, ds0, p0, q0, hargs, rfl, rfl, h0, r0⟩ := trodAll_cons hA
  obtain ⟨rfl, rfl, rfl⟩ := trodAll_nil r0
  obtain rfl : args = #[v0] := by cases args; simp_all
  obtain ⟨rfl, rfl⟩ := trodVars_none hV
  have k0 := h0
  have lt0 := trod_lt h0
  obtain ⟨z0, q0, rfl, f0⟩ := open_valPlace (hval 0 26 v0 rfl rfl) h0
  clear hA0 hval0
  refine (walk z0 q0 W f0 (MaxW.of_shaped hshaped)).mono fun e W' ⟨he, bel⟩ => ?_
  subst he
  exact ⟨_, rfl, _, _, _, [], _, [], hW', trodAll_mk1 (shut_bool Tryd.underlying4 _), (trodAll_cons_mk (Below.trod laidOut (by kernel_rfl) (of_decide_eq_true (by kernel_rfl)) k0 bel lt0) trodAll_mk0), rfl, Below.frame bel _, fun h => by cases h⟩

theorem over : Rows.fnExactIsPlaceRow.holds Tryd.pinned (OpenSpec.ofChange Rows.fnExactIsPlaceSpec) :=
  OpenClaim.holds_of_wide 3 Tryd.f3 rfl rfl rfl rfl rfl rfl rfl ⟨rfl, rfl, rfl, rfl, rfl⟩ rfl rfl rfl rfl rfl (by kernel_rfl) Tryd.func3 (by kernel_rfl)
    (of_decide_eq_true (by kernel_rfl)) (by unfold Func.isWrapper; first | (rw [if_pos (by decide +kernel)]; kernel_rfl) | (rw [if_neg (by decide +kernel)]; exact ⟨rfl, rfl⟩))
    (fun os started H enc _ => lifted os started H enc)

theorem proved : Rows.FnExactIsPlaceCardSaid :=
  Claim7.holds_tied_plain_at .later [] Rows.fnExactIsPlaceCard.laidKinds true Rows.fnExactIsPlaceCard.stood.harness Rows.fnExactIsPlaceCard.stood.looks over (fun _ h => by cases h) (by kernel_rfl) (fun _ h => by cases h) fnExactIsPlace_row_tie rfl ⟨rfl, rfl⟩ (by kernel_rfl) rfl
    (fun f fn hf hfn => by
      obtain rfl : f = 3 := Option.some.inj ((show Tryd.prog.funcNamed "loop.example/g01030/laws.FnExactIsPlace" = some 3 by kernel_rfl).symm.trans hf) |>.symm
      obtain rfl : fn = Tryd.f3 := (Option.some.inj (Tryd.func3.symm.trans hfn)).symm
      exact ⟨by kernel_rfl, fun j t ht => by
        rw [Tryd.params3] at ht
        have hm : t ∈ [26] := by simpa using Array.mem_of_getElem? ht
        have hall : ([26].all fun u => !Tryd.prog.wantsStandIn u) = true := by kernel_rfl
        exact (show Tryd.prog.wantsStandIn t = false by simpa using List.all_eq_true.1 hall t hm)⟩)
    (by kernel_rfl)


end Go.Proofs.YtopfnfaoomigmaaDoor.fnExactIsPlace

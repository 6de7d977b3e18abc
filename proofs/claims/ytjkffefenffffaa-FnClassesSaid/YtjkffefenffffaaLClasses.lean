/-
  FnClasses returns true for every code: whatever tree and classes are drawn from it, the common kind is the same in both orders, and the distance is the sum of those from it. No condition.
-/
import Derived.Test.YtjkffefenffffaaD5
import Derived.Test.YtjkffefenffffaaD7
import Derived.Test.YtjkffefenffffaaG3
import Derived.Test.YtjkffefenffffaaW2
import Derived.Test.YtjkffefenffffaaQ2
namespace Go.Proofs.Ytjkffefenffffaa.fnClasses
open Go.ChangeShapes Go.WideShapes Go.ChangeAt Go.RowKit

set_option maxHeartbeats 8000000 in
set_option maxRecDepth 100000 in
theorem walk (a_code : Option Addr) (n_code c_code : Nat) (z_code : List Int) (w : World) (hi_code : InBy w a_code n_code z_code) :
    Calls Try.prog 14 #[.slice a_code n_code c_code] w fun e w' => e = .returned (.bool true) ∧ Ext w w' := by
  by_cases hbig : (4096 : Int) < n_code
  · go_enter Try.func14, Try.ntmps14
    go_wp2_with (go_at_call 39; refine (big_any _ _ _ _).mono ?_; rintro e w' ⟨rfl, rfl⟩)
    go_ret
    exact ⟨rfl, Ext.refl _⟩
  have hr := hi_code.rdBy (by omega)
  clear hi_code
  go_enter Try.func14, Try.ntmps14
  go_wp2_with (go_at_call 39; refine (big_any _ _ _ _).mono ?_; rintro e w' ⟨rfl, rfl⟩)
  clear hbig
  refine (drawCommonKind_any _ _ _ _ _ hr).mono ?_
  rintro e w1 ⟨v, t, p, q, rfl, _, a1, n1, c1, rfl, o1, x1⟩
  go_wp2_with fail
  refine (implCommonKind_any _ _ _ _ _ _ _ o1.rd).mono ?_
  rintro e w2 ⟨rfl, x2⟩
  go_wp2_with fail
  refine (specCommonKind_any _ _ _ _ _ _ _ (o1.rd.ext x2)).mono ?_
  rintro e w3 ⟨rfl, x3⟩
  go_wp2_with fail
  refine (implDistanceOf_any _ _ _ _ _ _ _ (o1.rd.ext (x2.trans x3))).mono ?_
  rintro e w4 ⟨rfl, x4⟩
  go_wp2_with fail
  refine (specDistanceOf_any _ _ _ _ _ _ _ (o1.rd.ext ((x2.trans x3).trans x4))).mono ?_
  rintro e w5 ⟨rfl, x5⟩
  have y5 := (((x1.trans x2).trans x3).trans x4).trans x5
  have r5 := o1.rd.ext (((x2.trans x3).trans x4).trans x5)
  clear o1 x1 x2 x3 x4 x5
  go_wp2_with fail
  refine (drawIsKindOf_any _ _ _ _ _ (hr.ext y5)).mono ?_
  rintro e w6 ⟨v, x, y, z, rfl, _, a6, n6, c6, rfl, o6, x6⟩
  go_wp2_with fail
  refine (implIsKindOf_any _ _ _ _ _ _ _ o6.rd).mono ?_
  rintro e w7 ⟨rfl, x7⟩
  go_wp2_with fail
  refine (specIsKindOf_any _ _ _ _ _ _ _ (o6.rd.ext x7)).mono ?_
  rintro e w8 ⟨rfl, x8⟩
  have y8 := ((y5.trans x6).trans x7).trans x8
  have r8 := r5.ext ((x6.trans x7).trans x8)
  clear o6 x6 x7 x8 y5 r5
  go_wp2_with fail
  refine (drawSubclassesOf_any _ _ _ _ _ (hr.ext y8)).mono ?_
  rintro e w9 ⟨v, u, k, rfl, hu, a9, n9, c9, rfl, o9, x9⟩
  go_wp2_with fail
  refine (implSubclassesOf_any _ _ _ _ _ _ o9.rd).mono ?_
  rintro e w10 ⟨v, rfl, a10, n10, c10, rfl, o10, x10⟩
  go_wp2_with fail
  refine (specSubclassesOf_any _ _ _ _ _ _ (o9.rd.ext x10)).mono ?_
  rintro e w11 ⟨v, rfl, a11, n11, c11, rfl, o11, x11⟩
  obtain rfl : n10 = n11 := o10.rd.len.symm.trans o11.rd.len
  go_wp2_with fail
  refine (implKindsOf_any _ _ _ _ _ _ (o9.rd.ext (x10.trans x11))).mono ?_
  rintro e w12 ⟨v, rfl, a12, n12, c12, rfl, o12, x12⟩
  go_wp2_with fail
  refine (specKindsOf_any _ _ _ _ _ _ (o9.rd.ext ((x10.trans x11).trans x12))).mono ?_
  rintro e w13 ⟨v, rfl, a13, n13, c13, rfl, o13, x13⟩
  obtain rfl : n12 = n13 := o12.rd.len.symm.trans o13.rd.len
  go_wp2_with fail
  refine (likeInts_same _ _ _ _ _ _ _ (o10.rd.ext ((x11.trans x12).trans x13)) (o11.rd.ext (x12.trans x13))).mono ?_
  rintro e w14 ⟨rfl, s14⟩
  go_wp2_with fail
  refine (likeInts_same _ _ _ _ _ _ _ (o12.rd.ext (x13.trans s14.ext)) (o13.rd.ext s14.ext)).mono ?_
  rintro e w15 ⟨rfl, s15⟩
  go_wp2_with fail
  have x915 := (((x10.trans x11).trans x12).trans x13).trans (s14.ext.trans s15.ext)
  refine (implIsClassTree_any _ _ _ _ _ (o9.rd.ext x915)).mono ?_
  rintro e w' ⟨rfl, rfl⟩
  go_wp2_with fail
  refine (specIsClassTree_any _ _ _ _ _ (o9.rd.ext x915)).mono ?_
  rintro e w' ⟨rfl, rfl⟩
  have y15 := (y8.trans x9).trans x915
  have r15 := r8.ext (x9.trans x915)
  have ru := o9.rd.ext x915
  have rs := o10.rd.ext (((x11.trans x12).trans x13).trans (s14.ext.trans s15.ext))
  have hlu := ru.len
  have hn9 := hu
  rw [hlu] at hn9
  have HR := Lib.hid (And.intro y15 (And.intro r15 (And.intro ru (And.intro rs hlu))))
  clear o9 o10 o11 o12 o13 x9 x10 x11 x12 x13 s14 s15 x915 y8 r8 y15 r15 ru rs hlu hu hr
  cases hk : (codeL u [k] == 0)
  · go_wp2
    go_loopw [31] (fun i wr => i = .int .i64 0 ∧ wr = w15) (fun _ _ => 0)
    case atStart => exact ⟨rfl, rfl⟩
    case round =>
      obtain ⟨rfl, rfl⟩ := hrel
      have hx := Ext.refl wr
      cases hb : (codeL t [p, q] == 0)
      · have hb' : (codeL t [p, q] != 0) = true := by rw [bne, hb]; rfl
        clear hb
        go_wp2
        go_ret
        exact ⟨rfl, HR.out.1.trans hx⟩
      · have hb' : (codeL t [p, q] != 0) = false := by rw [bne, hb]; rfl
        have h0 : codeL t [p, q] = 0 := by simpa using hb
        have h0' := h0
        obtain ⟨l1, l2, l3, l4, l5, ⟨l6, l7⟩, ⟨l8, l9⟩⟩ := common_law h0
        have e5 : (distR t p (comR t p q) + distR t (comR t p q) q == distR t p q) = true := by rw [l5]; simp
        have HC := Lib.hid (And.intro l1 (And.intro l2 (And.intro l3 l4)))
        clear hb h0 h0' l1 l2 l3 l4 l5
        go_wp2_with fail
        refine (implCommonKind_any _ _ _ _ _ _ _ (HR.out.2.1.ext hx)).mono ?_
        rintro e v1 ⟨rfl, z1⟩
        rw [HC.out.1, HC.out.2.1]
        go_wp2_with fail
        refine (implDistanceOf_any _ _ _ _ _ _ _ (HR.out.2.1.ext (hx.trans z1))).mono ?_
        rintro e v2 ⟨rfl, z2⟩
        rw [HC.out.2.2.1]
        go_wp2_with fail
        refine (implDistanceOf_any _ _ _ _ _ _ _ (HR.out.2.1.ext ((hx.trans z1).trans z2))).mono ?_
        rintro e v3 ⟨rfl, z3⟩
        rw [HC.out.2.2.2]
        go_wp2
        go_ret
        exact ⟨rfl, (((HR.out.1.trans hx).trans z1).trans z2).trans z3⟩
  · have hk0 : codeL u [k] = 0 := by simpa using hk
    have HK := Lib.hid hk0
    clear hk0
    go_wp2
    go_loopw [31] (fun i wr => ∃ j : Nat, j ≤ n9 ∧ i = .int .i64 j ∧ Ext w15 wr) (fun i _ => n9 - (intOf i).toNat)
    case atStart => exact ⟨0, Nat.zero_le _, rfl, Ext.refl _⟩
    case round =>
      obtain ⟨j, hj, rfl, hx⟩ := hrel
      by_cases hlt : j < n9
      · obtain ⟨m1, m2⟩ := subR_has HK.out (i := j) (by rw [HR.out.2.2.2.2]; exact hlt)
        have HM := Lib.hid (And.intro m1 m2)
        clear m1 m2
        go_wp2_with fail
        refine (implIsKindOf_any _ _ _ _ _ _ _ (HR.out.2.2.1.ext hx)).mono ?_
        rintro e v1 ⟨rfl, z1⟩
        rw [HM.out.1]
        go_wp2_with fail
        refine (hasInt_any _ _ _ _ _ _ (HR.out.2.2.2.1.ext (hx.trans z1))).mono ?_
        rintro e w' ⟨rfl, rfl⟩
        rw [HM.out.2]
        go_wp2
        go_roundw
        case rel => exact ⟨j + 1, by omega, by go_num, hx.trans z1⟩
        case measure => simp [intOf]; omega
      · obtain rfl : j = n9 := by omega
        cases hb : (codeL t [p, q] == 0)
        · have hb' : (codeL t [p, q] != 0) = true := by rw [bne, hb]; rfl
          clear hb
          go_wp2
          go_ret
          exact ⟨rfl, HR.out.1.trans hx⟩
        · have hb' : (codeL t [p, q] != 0) = false := by rw [bne, hb]; rfl
          have h0 : codeL t [p, q] = 0 := by simpa using hb
          have h0' := h0
          obtain ⟨l1, l2, l3, l4, l5, ⟨l6, l7⟩, ⟨l8, l9⟩⟩ := common_law h0
          have e5 : (distR t p (comR t p q) + distR t (comR t p q) q == distR t p q) = true := by rw [l5]; simp
          have HC := Lib.hid (And.intro l1 (And.intro l2 (And.intro l3 l4)))
          clear hb h0 h0' l1 l2 l3 l4 l5
          go_wp2_with fail
          refine (implCommonKind_any _ _ _ _ _ _ _ (HR.out.2.1.ext hx)).mono ?_
          rintro e v1 ⟨rfl, z1⟩
          rw [HC.out.1, HC.out.2.1]
          go_wp2_with fail
          refine (implDistanceOf_any _ _ _ _ _ _ _ (HR.out.2.1.ext (hx.trans z1))).mono ?_
          rintro e v2 ⟨rfl, z2⟩
          rw [HC.out.2.2.1]
          go_wp2_with fail
          refine (implDistanceOf_any _ _ _ _ _ _ _ (HR.out.2.1.ext ((hx.trans z1).trans z2))).mono ?_
          rintro e v3 ⟨rfl, z3⟩
          rw [HC.out.2.2.2]
          go_wp2
          go_ret
          exact ⟨rfl, (((HR.out.1.trans hx).trans z1).trans z2).trans z3⟩

/-! The row. -/
set_option maxRecDepth 100000 in
theorem lifted (os : Os) (started : os.Started) (H : Type) (enc : TypeId × Value → H) :
    ReturnsInHanded {} Try.checked os 14 .any (Rows.fnClassesSpec.pre6 enc Try.prog Try.f14 Rows.fnClassesRow.domain false) (Rows.fnClassesSpec.post enc Try.prog Try.f14 false true false false) := by
  refine returnsInHanded_of_change (C := Try.checked) own started (by kernel_rfl) Try.func14
    (ChangeSpec.witness6 (enc := enc) (C := Try.checked) false ⟨#[], #[.slice none 0 0], []⟩ 8 (by kernel_rfl) (by kernel_rfl) (by kernel_rfl) (by kernel_rfl)) ?_
  intro W base args ds gs before hval0 hW hcnd _
  have hval : ∀ (j : Nat) t v, Try.f14.params[j]? = some t → args[j]? = some v → Value.okWide Try.prog W .any base t v := hval0
  have hW' := hW
  obtain ⟨p, q, hA0, hV, rfl, hfz, hnd⟩ := hW
  have hA : DataW.TrodAll enc Try.prog W 0 (fun _ => true) true Try.f14.params.toList args.toList ds p := hA0
  rw [Try.params14] at hA hval
  obtain ⟨v0, vs0, d0, ds0, p0, q0, hargs, rfl, rfl, h0, r0⟩ := trodAll_cons hA
  obtain ⟨rfl, rfl, rfl⟩ := trodAll_nil r0
  obtain rfl : args = #[v0] := by cases args; simp_all
  obtain ⟨rfl, rfl⟩ := trodVars_none hV
  obtain ⟨a0, n0, c0, rfl⟩ := okWide_slice Try.underlying37 (hval 0 37 v0 rfl rfl)
  have k0 := h0
  have lt0 := trod_lt h0
  obtain ⟨z0, f0⟩ := open_inBy h0
  clear hA0 hval0
  refine (walk a0 n0 c0 z0 W f0).mono fun e W' ⟨he, bel⟩ => ?_
  subst he
  exact ⟨_, rfl, _, _, _, [], _, [], hW', trodAll_mk1 (shut_bool Try.underlying4 _), (trodAll_cons_mk (Below.trod laidOut (by kernel_rfl) (of_decide_eq_true (by kernel_rfl)) k0 bel lt0) trodAll_mk0), rfl, Below.frame bel _, fun h => by cases h⟩

theorem over : Rows.fnClassesRow.holds Try.pinned (OpenSpec.ofChange Rows.fnClassesSpec) :=
  OpenClaim.holds_of_wide 14 Try.f14 rfl rfl rfl rfl rfl rfl rfl ⟨rfl, rfl, rfl, rfl, rfl⟩ rfl rfl rfl rfl rfl (by kernel_rfl) Try.func14 (by kernel_rfl)
    (of_decide_eq_true (by kernel_rfl)) (by unfold Func.isWrapper; first | (rw [if_pos (by decide +kernel)]; kernel_rfl) | (rw [if_neg (by decide +kernel)]; exact ⟨rfl, rfl⟩))
    (fun os started H enc _ => lifted os started H enc)

theorem proved : Rows.FnClassesSaid := over


end Go.Proofs.Ytjkffefenffffaa.fnClasses

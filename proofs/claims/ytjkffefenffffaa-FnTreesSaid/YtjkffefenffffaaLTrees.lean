/-
  FnTrees returns true for every code: whatever tree and classes are drawn from it, an added class is a leaf and a moved class is a kind of its new parent. No condition.
-/
import Derived.Test.YtjkffefenffffaaD5
import Derived.Test.YtjkffefenffffaaD6
import Derived.Test.YtjkffefenffffaaG3
import Derived.Test.YtjkffefenffffaaW2
import Derived.Test.YtjkffefenffffaaQ2
namespace Go.Proofs.Ytjkffefenffffaa.fnTrees
open Go.ChangeShapes Go.WideShapes Go.ChangeAt Go.RowKit

set_option maxHeartbeats 4000000 in
theorem walk (a_code : Option Addr) (n_code c_code : Nat) (z_code : List Int) (w : World) (hi_code : InBy w a_code n_code z_code) :
    Calls Try.prog 13 #[.slice a_code n_code c_code] w fun e w' => e = .returned (.bool true) ∧ Ext w w' := by
  by_cases hbig : (4096 : Int) < n_code
  · go_enter Try.func13, Try.ntmps13
    go_wp2_with (go_at_call 39; refine (big_any _ _ _ _).mono ?_; rintro e w' ⟨rfl, rfl⟩)
    go_ret
    exact ⟨rfl, Ext.refl _⟩
  have hr := hi_code.rdBy (by omega)
  clear hi_code
  go_enter Try.func13, Try.ntmps13
  go_wp2_with (go_at_call 39; refine (big_any _ _ _ _).mono ?_; rintro e w' ⟨rfl, rfl⟩)
  clear hbig
  refine (drawAddClass_any _ _ _ _ _ hr).mono ?_
  rintro e w1 ⟨v, t, p, rfl, ht, a1, n1, c1, rfl, o1, x1⟩
  go_wp2_with fail
  refine (implAddClass_any _ _ _ _ _ _ o1.rd).mono ?_
  rintro e w2 ⟨v, rfl, a2, n2, c2, rfl, o2, x2⟩
  go_wp2_with fail
  refine (specAddClass_any _ _ _ _ _ _ (o1.rd.ext x2)).mono ?_
  rintro e w3 ⟨v, rfl, a3, n3, c3, rfl, o3, x3⟩
  obtain rfl : n2 = n3 := o2.rd.len.symm.trans o3.rd.len
  go_wp2_with fail
  refine (drawMoveClass_any _ _ _ _ _ (hr.ext ((x1.trans x2).trans x3))).mono ?_
  rintro e w4 ⟨v, x, y, z, rfl, hx, a4, n4, c4, rfl, o4, x4⟩
  go_wp2_with fail
  refine (implMoveClass_any _ _ _ _ _ _ _ o4.rd).mono ?_
  rintro e w5 ⟨v, rfl, a5, n5, c5, rfl, o5, x5⟩
  go_wp2_with fail
  refine (specMoveClass_any _ _ _ _ _ _ _ (o4.rd.ext x5)).mono ?_
  rintro e w6 ⟨v, rfl, a6, n6, c6, rfl, o6, x6⟩
  obtain rfl : n5 = n6 := o5.rd.len.symm.trans o6.rd.len
  go_wp2_with fail
  have x16 := ((((x1.trans x2).trans x3).trans x4).trans x5).trans x6
  refine (drawLeavesOf_any _ _ _ _ _ (hr.ext x16)).mono ?_
  rintro e w7 ⟨v, b, rfl, hb, a7, n7, c7, rfl, o7, x7⟩
  go_wp2_with fail
  refine (implLeavesOf_any _ _ _ _ _ o7.rd).mono ?_
  rintro e w8 ⟨v, rfl, a8, n8, c8, rfl, o8, x8⟩
  go_wp2_with fail
  refine (specLeavesOf_any _ _ _ _ _ (o7.rd.ext x8)).mono ?_
  rintro e w9 ⟨v, rfl, a9, n9, c9, rfl, o9, x9⟩
  obtain rfl : n8 = n9 := o8.rd.len.symm.trans o9.rd.len
  go_wp2_with fail
  have x79 := (x7.trans x8).trans x9
  have x59 := (x6.trans x79)
  have x39 := ((x4.trans x5).trans x59)
  refine (likeInts_same _ _ _ _ _ _ _ (o2.rd.ext (x3.trans x39)) (o3.rd.ext x39)).mono ?_
  rintro e w10 ⟨rfl, s10⟩
  go_wp2_with fail
  refine (likeInts_same _ _ _ _ _ _ _ (o5.rd.ext (x59.trans s10.ext)) (o6.rd.ext (x79.trans s10.ext))).mono ?_
  rintro e w11 ⟨rfl, s11⟩
  go_wp2_with fail
  refine (likeInts_same _ _ _ _ _ _ _ (o8.rd.ext ((x9.trans s10.ext).trans s11.ext)) (o9.rd.ext (s10.ext.trans s11.ext))).mono ?_
  rintro e w12 ⟨rfl, s12⟩
  have xs := (s10.ext.trans s11.ext).trans s12.ext
  have r1 := o1.rd.ext ((x2.trans x3).trans (x39.trans xs))
  have r2 := o2.rd.ext ((x3.trans x39).trans xs)
  have r5 := o5.rd.ext (x59.trans xs)
  have X12 := (x16.trans x79).trans xs
  have hl1 := r1.len
  have HR := Lib.hid (And.intro r1 (And.intro r2 (And.intro r5 (And.intro X12 hl1))))
  clear o1 o2 o3 o4 o5 o6 o7 o8 o9 x1 x2 x3 x4 x5 x6 x7 x8 x9 s10 s11 s12 x16 x79 x59 x39 xs r1 r2 r5 X12 hl1 hr ht hx hb
  have tail : ∀ w13 : World, Ext w w13 → RdI w13 a2 n2 (addR t p) → RdI w13 a1 n1 t → addC t p = 0 → True := fun _ _ _ _ _ => trivial
  clear tail
  cases hm : (moveC x y z == 0)
  · cases ha : (addC t p == 0)
    · have ha' : (addC t p != 0) = true := by rw [bne, ha]; rfl
      clear ha
      go_wp2
      go_ret
      exact ⟨rfl, HR.out.2.2.2.1⟩
    · have ha' : (addC t p != 0) = false := by rw [bne, ha]; rfl
      have h0 : addC t p = 0 := by simpa using ha
      obtain ⟨l1, l2, l3⟩ := added_law h0
      rw [HR.out.2.2.2.2] at l3
      have HA := Lib.hid (And.intro l1.treeB (And.intro l2 l3))
      clear ha h0 l1 l2 l3
      go_wp2_with fail
      refine (implLeavesOf_any _ _ _ _ _ HR.out.2.1).mono ?_
      rintro e w13 ⟨v, rfl, a13, n13, c13, rfl, o13, x13⟩
      rw [HA.out.2.1]
      go_wp2_with fail
      refine (hasInt_any _ _ _ _ _ _ o13.rd).mono ?_
      rintro e w' ⟨rfl, rfl⟩
      rw [HA.out.2.2]
      go_wp2_with fail
      refine (implIsClassTree_any _ _ _ _ _ (HR.out.2.1.ext x13)).mono ?_
      rintro e w' ⟨rfl, rfl⟩
      rw [HA.out.1]
      go_wp2
      go_ret
      exact ⟨rfl, HR.out.2.2.2.1.trans x13⟩
  · have hm0 : moveC x y z = 0 := by simpa using hm
    obtain ⟨l1, l2, l3⟩ := moved_law hm0
    have HM := Lib.hid (And.intro l1.treeB (And.intro l2 l3))
    clear hm0 l1 l2 l3
    go_wp2_with fail
    refine (implIsKindOf_any _ _ _ _ _ _ _ HR.out.2.2.1).mono ?_
    rintro e w13 ⟨rfl, x13⟩
    rw [HM.out.2.1, HM.out.2.2]
    go_wp2_with fail
    refine (implIsClassTree_any _ _ _ _ _ (HR.out.2.2.1.ext x13)).mono ?_
    rintro e w' ⟨rfl, rfl⟩
    rw [HM.out.1]
    cases ha : (addC t p == 0)
    · have ha' : (addC t p != 0) = true := by rw [bne, ha]; rfl
      clear ha
      go_wp2
      go_ret
      exact ⟨rfl, HR.out.2.2.2.1.trans x13⟩
    · have ha' : (addC t p != 0) = false := by rw [bne, ha]; rfl
      have h0 : addC t p = 0 := by simpa using ha
      obtain ⟨l1, l2, l3⟩ := added_law h0
      rw [HR.out.2.2.2.2] at l3
      have HA := Lib.hid (And.intro l1.treeB (And.intro l2 l3))
      clear ha h0 l1 l2 l3
      go_wp2_with fail
      refine (implLeavesOf_any _ _ _ _ _ (HR.out.2.1.ext x13)).mono ?_
      rintro e w14 ⟨v, rfl, a14, n14, c14, rfl, o14, x14⟩
      rw [HA.out.2.1]
      go_wp2_with fail
      refine (hasInt_any _ _ _ _ _ _ o14.rd).mono ?_
      rintro e w' ⟨rfl, rfl⟩
      rw [HA.out.2.2]
      go_wp2_with fail
      refine (implIsClassTree_any _ _ _ _ _ (HR.out.2.1.ext (x13.trans x14))).mono ?_
      rintro e w' ⟨rfl, rfl⟩
      rw [HA.out.1]
      go_wp2
      go_ret
      exact ⟨rfl, (HR.out.2.2.2.1.trans x13).trans x14⟩

/-! The row. -/
set_option maxRecDepth 100000 in
theorem lifted (os : Os) (started : os.Started) (H : Type) (enc : TypeId × Value → H) :
    ReturnsInHanded {} Try.checked os 13 .any (Rows.fnTreesSpec.pre6 enc Try.prog Try.f13 Rows.fnTreesRow.domain false) (Rows.fnTreesSpec.post enc Try.prog Try.f13 false true false false) := by
  refine returnsInHanded_of_change (C := Try.checked) own started (by kernel_rfl) Try.func13
    (ChangeSpec.witness6 (enc := enc) (C := Try.checked) false ⟨#[], #[.slice none 0 0], []⟩ 8 (by kernel_rfl) (by kernel_rfl) (by kernel_rfl) (by kernel_rfl)) ?_
  intro W base args ds gs before hval0 hW hcnd _
  have hval : ∀ (j : Nat) t v, Try.f13.params[j]? = some t → args[j]? = some v → Value.okWide Try.prog W .any base t v := hval0
  have hW' := hW
  obtain ⟨p, q, hA0, hV, rfl, hfz, hnd⟩ := hW
  have hA : DataW.TrodAll enc Try.prog W 0 (fun _ => true) true Try.f13.params.toList args.toList ds p := hA0
  rw [Try.params13] at hA hval
  obtain ⟨v0, vs0, d0, ds0, p0, q0, hargs, rfl, rfl, h0, r0⟩ := trodAll_cons hA
  obtain ⟨rfl, rfl, rfl⟩ := trodAll_nil r0
  obtain rfl : args = #[v0] := by cases args; simp_all
  obtain ⟨rfl, rfl⟩ := trodVars_none hV
  obtain ⟨a0, n0, c0, rfl⟩ := okWide_slice Try.underlying37 (hval 0 37 v0 rfl rfl)
  have k0 := h0
  have lt0 := trod_lt h0
  obtain ⟨z0, f0⟩ := open_inBy h0
  clear hA0 hval0
  refine (walk a0 n0 c0 z0 W f0).mono fun e W' ⟨he, bel⟩ => ?_
  subst he
  exact ⟨_, rfl, _, _, _, [], _, [], hW', trodAll_mk1 (shut_bool Try.underlying4 _), (trodAll_cons_mk (Below.trod laidOut (by kernel_rfl) (of_decide_eq_true (by kernel_rfl)) k0 bel lt0) trodAll_mk0), rfl, Below.frame bel _, fun h => by cases h⟩

theorem over : Rows.fnTreesRow.holds Try.pinned (OpenSpec.ofChange Rows.fnTreesSpec) :=
  OpenClaim.holds_of_wide 13 Try.f13 rfl rfl rfl rfl rfl rfl rfl ⟨rfl, rfl, rfl, rfl, rfl⟩ rfl rfl rfl rfl rfl (by kernel_rfl) Try.func13 (by kernel_rfl)
    (of_decide_eq_true (by kernel_rfl)) (by unfold Func.isWrapper; first | (rw [if_pos (by decide +kernel)]; kernel_rfl) | (rw [if_neg (by decide +kernel)]; exact ⟨rfl, rfl⟩))
    (fun os started H enc _ => lifted os started H enc)

theorem proved : Rows.FnTreesSaid := over

end Go.Proofs.Ytjkffefenffffaa.fnTrees

/-
  FnExactSubclassesOf returns true for every input: the program and the reference give the same answer, the arguments are left as they were, and what is handed back is new memory. No condition.
-/
import Derived.Test.YtjkffefenffffaaD5
import Derived.Test.YtjkffefenffffaaW
namespace Go.Proofs.Ytjkffefenffffaa.fnExactSubclassesOf
open Go.ChangeShapes Go.WideShapes Go.ChangeAt Go.RowKit

set_option maxHeartbeats 2000000 in
theorem walk (a_aTree : Option Addr) (n_aTree c_aTree : Nat) (z_aTree : List Int) (x_aA : Int) (w : World) (hi_aTree : InI w a_aTree n_aTree z_aTree) (_ : (Lit.int .i64 x_aA).wf = true) :
    Calls Try.prog 12 #[.slice a_aTree n_aTree c_aTree, .int .i64 x_aA] w fun e w' => e = .returned (.bool true) ∧ Ext w w' := by
  by_cases hbig_aTree : 1048576 < n_aTree
  · have hb_aTree : (1048576 : Int) < n_aTree := by omega
    go_enter Try.func12, Try.ntmps12
    go_wp2
    go_ret
    exact ⟨rfl, Ext.refl _⟩
  have hr_aTree := hi_aTree.rdI (by omega)
  clear hi_aTree
  go_enter Try.func12, Try.ntmps12
  go_wp2_with fail
  refine (toInt64S_any _ _ _ _ _ hr_aTree).mono ?_
  rintro e w1 ⟨v1, rfl, a1, n1, c1, rfl, o1, x1⟩
  obtain rfl : n_aTree = n1 := hr_aTree.len.symm.trans o1.rd.len
  go_wp2_with fail
  refine (specSubclassesOf_any _ _ _ _ _ _ o1.rd).mono ?_
  rintro e w2 ⟨v2, rfl, a2, n2, c2, rfl, o2, x2⟩
  go_wp2_with fail
  refine (toInt64S_any _ _ _ _ _ (hr_aTree.ext (x1.trans x2))).mono ?_
  rintro e w3 ⟨v3, rfl, a3, n3, c3, rfl, o3, x3⟩
  obtain rfl : n_aTree = n3 := hr_aTree.len.symm.trans o3.rd.len
  go_wp2_with fail
  refine (implSubclassesOf_any _ _ _ _ _ _ o3.rd).mono ?_
  rintro e w4 ⟨v4, rfl, a4, n4, c4, rfl, o4, x4⟩
  obtain rfl : n2 = n4 := o2.rd.len.symm.trans o4.rd.len
  go_wp2_with fail
  refine (eqInt64S_same _ _ _ _ _ _ _ o4.rd (o2.rd.ext (x3.trans x4))).mono ?_
  rintro e w5 ⟨rfl, s5⟩
  have x5 := s5.ext
  go_wp2_with fail
  refine (toInt64S_any _ _ _ _ _ (hr_aTree.ext ((((x1.trans x2).trans x3).trans x4).trans x5))).mono ?_
  rintro e w6 ⟨v6, rfl, a6, n6, c6, rfl, o6, x6⟩
  obtain rfl : n_aTree = n6 := hr_aTree.len.symm.trans o6.rd.len
  go_wp2_with fail
  refine (eqInt64S_same _ _ _ _ _ _ _ (o3.rd.ext ((x4.trans x5).trans x6)) o6.rd).mono ?_
  rintro e w7 ⟨rfl, s7⟩
  have x7 := s7.ext
  have y8 := (o3.ext (((x4.trans x5).trans x6).trans x7))
  go_wp2_with fail
  refine (markInt64S_any _ _ _ _ _ _ _ y8 (by decide) (by decide)).mono ?_
  rintro e w8 ⟨rfl, m8, k8⟩
  have x9 := k8.ext ((((((x1.trans x2).trans x3).trans x4).trans x5).trans x6).trans x7) y8.1 (x1.trans x2).size
  have x10 := k8.ext ((((((x1.trans x2).trans x3).trans x4).trans x5).trans x6).trans x7) y8.1 (x1.trans x2).size
  have x11 := k8.ext (((((x2.trans x3).trans x4).trans x5).trans x6).trans x7) y8.1 x2.size
  have x12 := k8.ext ((((x3.trans x4).trans x5).trans x6).trans x7) y8.1 (Nat.le_refl _)
  have q13 : OwnI _ _ _ _ _ _ := ⟨k8.kept (o4.ext ((x5.trans x6).trans x7)).1 ⟨_, o3.1, Nat.le_refl _⟩, (o4.ext ((x5.trans x6).trans x7)).2⟩
  have q14 : OwnI _ _ _ _ _ _ := ⟨k8.kept (o6.ext x7).1 ⟨_, o3.1, (x4.trans x5).size⟩, (o6.ext x7).2⟩
  go_wp2_with fail
  refine (eqInt64S_same _ _ _ _ _ _ _ q13.rd (o2.rd.ext x12)).mono ?_
  rintro e w15 ⟨rfl, s15⟩
  have x15 := s15.ext
  have y16 := (q13.ext x15)
  go_wp2_with fail
  refine (markInt64S_any _ _ _ _ _ _ _ y16 (by decide) (by decide)).mono ?_
  rintro e w16 ⟨rfl, m16, k16⟩
  have x17 := k16.ext (x9.trans x15) y16.1 ((x1.trans x2).trans x3).size
  have x18 := k16.ext (x10.trans x15) y16.1 ((x1.trans x2).trans x3).size
  have x19 := k16.ext (x11.trans x15) y16.1 (x2.trans x3).size
  have x20 := k16.ext (x12.trans x15) y16.1 x3.size
  go_wp2_with fail
  refine (heldInt64S_marks _ _ _ _ _ m16.rd (by decide) (by decide)).mono ?_
  rintro e w21 ⟨rfl, rfl⟩
  go_wp2_with fail
  refine (toInt64S_any _ _ _ _ _ (hr_aTree.ext x18)).mono ?_
  rintro e w22 ⟨v22, rfl, a22, n22, c22, rfl, o22, x22⟩
  obtain rfl : n_aTree = n22 := hr_aTree.len.symm.trans o22.rd.len
  go_wp2_with fail
  refine (implSubclassesOf_any _ _ _ _ _ _ o22.rd).mono ?_
  rintro e w23 ⟨v23, rfl, a23, n23, c23, rfl, o23, x23⟩
  obtain rfl : n2 = n23 := o2.rd.len.symm.trans o23.rd.len
  go_wp2_with fail
  refine (eqInt64S_same _ _ _ _ _ _ _ o23.rd (o2.rd.ext ((x20.trans x22).trans x23))).mono ?_
  rintro e w24 ⟨rfl, s24⟩
  have x24 := s24.ext
  go_wp2_with fail
  refine (heldInt64S_marks _ _ _ _ _ (m16.rd.ext ((x22.trans x23).trans x24)) (by decide) (by decide)).mono ?_
  rintro e w25 ⟨rfl, rfl⟩
  go_wp2
  go_ret
  exact ⟨rfl, (((x17.trans x22).trans x23).trans x24)⟩

/-! The row. -/
set_option maxRecDepth 100000 in
theorem lifted (os : Os) (started : os.Started) (H : Type) (enc : TypeId × Value → H) :
    ReturnsInHanded {} Try.checked os 12 .any (Rows.fnExactSubclassesOfSpec.pre6 enc Try.prog Try.f12 Rows.fnExactSubclassesOfRow.domain false) (Rows.fnExactSubclassesOfSpec.post enc Try.prog Try.f12 false true false false) := by
  refine returnsInHanded_of_change (C := Try.checked) own started (by kernel_rfl) Try.func12
    (ChangeSpec.witness6 (enc := enc) (C := Try.checked) false ⟨#[], #[.slice none 0 0, .int .i64 0], []⟩ 8 (by kernel_rfl) (by kernel_rfl) (by kernel_rfl) (by kernel_rfl)) ?_
  intro W base args ds gs before hval0 hW hcnd _
  have hval : ∀ (j : Nat) t v, Try.f12.params[j]? = some t → args[j]? = some v → Value.okWide Try.prog W .any base t v := hval0
  have hW' := hW
  obtain ⟨p, q, hA0, hV, rfl, hfz, hnd⟩ := hW
  have hA : DataW.TrodAll enc Try.prog W 0 (fun _ => true) true Try.f12.params.toList args.toList ds p := hA0
  rw [Try.params12] at hA hval
  obtain ⟨v0, vs0, d0, ds0, p0, q0, hargs, rfl, rfl, h0, r0⟩ := trodAll_cons hA
  obtain ⟨v1, vs1, d1, ds1, p1, q1, rfl, rfl, rfl, h1, r1⟩ := trodAll_cons r0
  obtain ⟨rfl, rfl, rfl⟩ := trodAll_nil r1
  obtain rfl : args = #[v0, v1] := by cases args; simp_all
  obtain ⟨rfl, rfl⟩ := trodVars_none hV
  obtain ⟨a0, n0, c0, rfl⟩ := okWide_slice Try.underlying22 (hval 0 22 v0 rfl rfl)
  have k0 := h0
  have lt0 := trod_lt h0
  obtain ⟨z0, f0⟩ := open_inI h0
  obtain ⟨a1, rfl, rfl, rfl, f1⟩ := open_int Try.underlying2 (hval 1 2 v1 rfl rfl) h1
  clear hA0 hval0
  refine (walk a0 n0 c0 z0 a1 W f0 f1).mono fun e W' ⟨he, bel⟩ => ?_
  subst he
  exact ⟨_, rfl, _, _, _, [], _, [], hW', trodAll_mk1 (shut_bool Try.underlying4 _), (trodAll_cons_mk (Below.trod laidOut (by kernel_rfl) (of_decide_eq_true (by kernel_rfl)) k0 bel lt0) (trodAll_cons_mk (shut_int Try.underlying2 f1) trodAll_mk0)), rfl, Below.frame bel _, fun h => by cases h⟩

theorem over : Rows.fnExactSubclassesOfRow.holds Try.pinned (OpenSpec.ofChange Rows.fnExactSubclassesOfSpec) :=
  OpenClaim.holds_of_wide 12 Try.f12 rfl rfl rfl rfl rfl rfl rfl ⟨rfl, rfl, rfl, rfl, rfl⟩ rfl rfl rfl rfl rfl (by kernel_rfl) Try.func12 (by kernel_rfl)
    (of_decide_eq_true (by kernel_rfl)) (by unfold Func.isWrapper; first | (rw [if_pos (by decide +kernel)]; kernel_rfl) | (rw [if_neg (by decide +kernel)]; exact ⟨rfl, rfl⟩))
    (fun os started H enc _ => lifted os started H enc)

theorem proved : Rows.FnExactSubclassesOfSaid := over


end Go.Proofs.Ytjkffefenffffaa.fnExactSubclassesOf

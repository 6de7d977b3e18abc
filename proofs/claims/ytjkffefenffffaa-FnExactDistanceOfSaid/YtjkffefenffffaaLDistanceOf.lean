/-
  FnExactDistanceOf returns true for every input: the program and the reference give the same answer, the arguments are left as they were, and what is handed back is new memory. No condition.
-/
import Derived.Test.YtjkffefenffffaaD7
import Derived.Test.YtjkffefenffffaaW
namespace Go.Proofs.Ytjkffefenffffaa.fnExactDistanceOf
open Go.ChangeShapes Go.WideShapes Go.ChangeAt Go.RowKit

set_option maxHeartbeats 2000000 in
theorem walk (a_aTree : Option Addr) (n_aTree c_aTree : Nat) (z_aTree : List Int) (x_aA : Int) (x_aB : Int) (w : World) (hi_aTree : InI w a_aTree n_aTree z_aTree) (_ : (Lit.int .i64 x_aA).wf = true) (_ : (Lit.int .i64 x_aB).wf = true) :
    Calls Try.prog 11 #[.slice a_aTree n_aTree c_aTree, .int .i64 x_aA, .int .i64 x_aB] w fun e w' => e = .returned (.bool true) ∧ Ext w w' := by
  by_cases hbig_aTree : 1048576 < n_aTree
  · have hb_aTree : (1048576 : Int) < n_aTree := by omega
    go_enter Try.func11, Try.ntmps11
    go_wp2
    go_ret
    exact ⟨rfl, Ext.refl _⟩
  have hr_aTree := hi_aTree.rdI (by omega)
  clear hi_aTree
  go_enter Try.func11, Try.ntmps11
  go_wp2_with fail
  refine (toInt64S_any _ _ _ _ _ hr_aTree).mono ?_
  rintro e w1 ⟨v1, rfl, a1, n1, c1, rfl, o1, x1⟩
  obtain rfl : n_aTree = n1 := hr_aTree.len.symm.trans o1.rd.len
  go_wp2_with fail
  refine (specDistanceOf_any _ _ _ _ _ _ _ o1.rd).mono ?_
  rintro e w2 ⟨rfl, x2⟩
  go_wp2_with fail
  refine (toInt64S_any _ _ _ _ _ (hr_aTree.ext (x1.trans x2))).mono ?_
  rintro e w3 ⟨v3, rfl, a3, n3, c3, rfl, o3, x3⟩
  obtain rfl : n_aTree = n3 := hr_aTree.len.symm.trans o3.rd.len
  go_wp2_with fail
  refine (implDistanceOf_any _ _ _ _ _ _ _ o3.rd).mono ?_
  rintro e w4 ⟨rfl, x4⟩
  go_wp2_with fail
  refine (toInt64S_any _ _ _ _ _ (hr_aTree.ext (((x1.trans x2).trans x3).trans x4))).mono ?_
  rintro e w5 ⟨v5, rfl, a5, n5, c5, rfl, o5, x5⟩
  obtain rfl : n_aTree = n5 := hr_aTree.len.symm.trans o5.rd.len
  go_wp2_with fail
  refine (eqInt64S_same _ _ _ _ _ _ _ (o3.rd.ext (x4.trans x5)) o5.rd).mono ?_
  rintro e w6 ⟨rfl, s6⟩
  have x6 := s6.ext
  go_wp2
  go_ret
  exact ⟨rfl, (((((x1.trans x2).trans x3).trans x4).trans x5).trans x6)⟩

/-! The row. -/
set_option maxRecDepth 100000 in
theorem lifted (os : Os) (started : os.Started) (H : Type) (enc : TypeId × Value → H) :
    ReturnsInHanded {} Try.checked os 11 .any (Rows.fnExactDistanceOfSpec.pre6 enc Try.prog Try.f11 Rows.fnExactDistanceOfRow.domain false) (Rows.fnExactDistanceOfSpec.post enc Try.prog Try.f11 false true false false) := by
  refine returnsInHanded_of_change (C := Try.checked) own started (by kernel_rfl) Try.func11
    (ChangeSpec.witness6 (enc := enc) (C := Try.checked) false ⟨#[], #[.slice none 0 0, .int .i64 0, .int .i64 0], []⟩ 8 (by kernel_rfl) (by kernel_rfl) (by kernel_rfl) (by kernel_rfl)) ?_
  intro W base args ds gs before hval0 hW hcnd _
  have hval : ∀ (j : Nat) t v, Try.f11.params[j]? = some t → args[j]? = some v → Value.okWide Try.prog W .any base t v := hval0
  have hW' := hW
  obtain ⟨p, q, hA0, hV, rfl, hfz, hnd⟩ := hW
  have hA : DataW.TrodAll enc Try.prog W 0 (fun _ => true) true Try.f11.params.toList args.toList ds p := hA0
  rw [Try.params11] at hA hval
  obtain ⟨v0, vs0, d0, ds0, p0, q0, hargs, rfl, rfl, h0, r0⟩ := trodAll_cons hA
  obtain ⟨v1, vs1, d1, ds1, p1, q1, rfl, rfl, rfl, h1, r1⟩ := trodAll_cons r0
  obtain ⟨v2, vs2, d2, ds2, p2, q2, rfl, rfl, rfl, h2, r2⟩ := trodAll_cons r1
  obtain ⟨rfl, rfl, rfl⟩ := trodAll_nil r2
  obtain rfl : args = #[v0, v1, v2] := by cases args; simp_all
  obtain ⟨rfl, rfl⟩ := trodVars_none hV
  obtain ⟨a0, n0, c0, rfl⟩ := okWide_slice Try.underlying22 (hval 0 22 v0 rfl rfl)
  have k0 := h0
  have lt0 := trod_lt h0
  obtain ⟨z0, f0⟩ := open_inI h0
  obtain ⟨a1, rfl, rfl, rfl, f1⟩ := open_int Try.underlying2 (hval 1 2 v1 rfl rfl) h1
  obtain ⟨a2, rfl, rfl, rfl, f2⟩ := open_int Try.underlying2 (hval 2 2 v2 rfl rfl) h2
  clear hA0 hval0
  refine (walk a0 n0 c0 z0 a1 a2 W f0 f1 f2).mono fun e W' ⟨he, bel⟩ => ?_
  subst he
  exact ⟨_, rfl, _, _, _, [], _, [], hW', trodAll_mk1 (shut_bool Try.underlying4 _), (trodAll_cons_mk (Below.trod laidOut (by kernel_rfl) (of_decide_eq_true (by kernel_rfl)) k0 bel lt0) (trodAll_cons_mk (shut_int Try.underlying2 f1) (trodAll_cons_mk (shut_int Try.underlying2 f2) trodAll_mk0))), rfl, Below.frame bel _, fun h => by cases h⟩

theorem over : Rows.fnExactDistanceOfRow.holds Try.pinned (OpenSpec.ofChange Rows.fnExactDistanceOfSpec) :=
  OpenClaim.holds_of_wide 11 Try.f11 rfl rfl rfl rfl rfl rfl rfl ⟨rfl, rfl, rfl, rfl, rfl⟩ rfl rfl rfl rfl rfl (by kernel_rfl) Try.func11 (by kernel_rfl)
    (of_decide_eq_true (by kernel_rfl)) (by unfold Func.isWrapper; first | (rw [if_pos (by decide +kernel)]; kernel_rfl) | (rw [if_neg (by decide +kernel)]; exact ⟨rfl, rfl⟩))
    (fun os started H enc _ => lifted os started H enc)

theorem proved : Rows.FnExactDistanceOfSaid := over


end Go.Proofs.Ytjkffefenffffaa.fnExactDistanceOf

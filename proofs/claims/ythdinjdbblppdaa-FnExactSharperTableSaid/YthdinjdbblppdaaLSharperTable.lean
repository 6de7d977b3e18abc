/-
  FnExactSharperTable returns true for every input: the program and the reference give the same answer, the arguments are left as they were, and what is handed back is new memory. No condition.
-/
import Derived.Test.YthdinjdbblppdaaS1
import Derived.Test.YthdinjdbblppdaaW
namespace Go.Proofs.Ythdinjdbblppdaa.fnExactSharperTable
open Go.ChangeShapes Go.WideShapes Go.ChangeAt Go.RowKit

set_option maxHeartbeats 2000000 in
theorem walk (a_aA : Option Addr) (n_aA c_aA : Nat) (z_aA : List Int) (a_aB : Option Addr) (n_aB c_aB : Nat) (z_aB : List Int) (w : World) (hi_aA : InI w a_aA n_aA z_aA) (hi_aB : InI w a_aB n_aB z_aB) :
    Calls Try.prog 3 #[.slice a_aA n_aA c_aA, .slice a_aB n_aB c_aB] w fun e w' => e = .returned (.bool true) ∧ Ext w w' := by
  by_cases hbig_aA : 1048576 < n_aA
  · have hb_aA : (1048576 : Int) < n_aA := by omega
    go_enter Try.func3, Try.ntmps3
    go_wp2
    go_ret
    exact ⟨rfl, Ext.refl _⟩
  by_cases hbig_aB : 1048576 < n_aB
  · have hb_aB : (1048576 : Int) < n_aB := by omega
    go_enter Try.func3, Try.ntmps3
    go_wp2
    go_ret
    exact ⟨rfl, Ext.refl _⟩
  have hr_aA := hi_aA.rdI (by omega)
  clear hi_aA
  have hr_aB := hi_aB.rdI (by omega)
  clear hi_aB
  go_enter Try.func3, Try.ntmps3
  go_wp2_with fail
  refine (toInt64S_any _ _ _ _ _ hr_aA).mono ?_
  rintro e w1 ⟨v1, rfl, a1, n1, c1, rfl, o1, x1⟩
  obtain rfl : n_aA = n1 := hr_aA.len.symm.trans o1.rd.len
  go_wp2_with fail
  refine (toInt64S_any _ _ _ _ _ (hr_aB.ext x1)).mono ?_
  rintro e w2 ⟨v2, rfl, a2, n2, c2, rfl, o2, x2⟩
  obtain rfl : n_aB = n2 := hr_aB.len.symm.trans o2.rd.len
  go_wp2_with fail
  refine (specSharperTable_any _ _ _ _ _ _ _ _ _ (o1.rd.ext x2) o2.rd).mono ?_
  rintro e w3 ⟨rfl, x3⟩
  go_wp2_with fail
  refine (toInt64S_any _ _ _ _ _ (hr_aA.ext ((x1.trans x2).trans x3))).mono ?_
  rintro e w4 ⟨v4, rfl, a4, n4, c4, rfl, o4, x4⟩
  obtain rfl : n_aA = n4 := hr_aA.len.symm.trans o4.rd.len
  go_wp2_with fail
  refine (toInt64S_any _ _ _ _ _ (hr_aB.ext (((x1.trans x2).trans x3).trans x4))).mono ?_
  rintro e w5 ⟨v5, rfl, a5, n5, c5, rfl, o5, x5⟩
  obtain rfl : n_aB = n5 := hr_aB.len.symm.trans o5.rd.len
  go_wp2_with fail
  refine (implSharperTable_any _ _ _ _ _ _ _ _ _ (o4.rd.ext x5) o5.rd).mono ?_
  rintro e w6 ⟨rfl, x6⟩
  go_wp2_with fail
  refine (toInt64S_any _ _ _ _ _ (hr_aA.ext (((((x1.trans x2).trans x3).trans x4).trans x5).trans x6))).mono ?_
  rintro e w7 ⟨v7, rfl, a7, n7, c7, rfl, o7, x7⟩
  obtain rfl : n_aA = n7 := hr_aA.len.symm.trans o7.rd.len
  go_wp2_with fail
  refine (eqInt64S_same _ _ _ _ _ _ _ (o4.rd.ext ((x5.trans x6).trans x7)) o7.rd).mono ?_
  rintro e w8 ⟨rfl, s8⟩
  have x8 := s8.ext
  go_wp2_with fail
  refine (toInt64S_any _ _ _ _ _ (hr_aB.ext (((((((x1.trans x2).trans x3).trans x4).trans x5).trans x6).trans x7).trans x8))).mono ?_
  rintro e w9 ⟨v9, rfl, a9, n9, c9, rfl, o9, x9⟩
  obtain rfl : n_aB = n9 := hr_aB.len.symm.trans o9.rd.len
  go_wp2_with fail
  refine (eqInt64S_same _ _ _ _ _ _ _ (o5.rd.ext (((x6.trans x7).trans x8).trans x9)) o9.rd).mono ?_
  rintro e w10 ⟨rfl, s10⟩
  have x10 := s10.ext
  go_wp2
  go_ret
  exact ⟨rfl, (((((((((x1.trans x2).trans x3).trans x4).trans x5).trans x6).trans x7).trans x8).trans x9).trans x10)⟩

/-! The row. -/
set_option maxRecDepth 100000 in
theorem lifted (os : Os) (started : os.Started) (H : Type) (enc : TypeId × Value → H) :
    ReturnsInHanded {} Try.checked os 3 .any (Rows.fnExactSharperTableSpec.pre6 enc Try.prog Try.f3 Rows.fnExactSharperTableRow.domain false) (Rows.fnExactSharperTableSpec.post enc Try.prog Try.f3 false true false false) := by
  refine returnsInHanded_of_change (C := Try.checked) own started (by kernel_rfl) Try.func3
    (ChangeSpec.witness6 (enc := enc) (C := Try.checked) false ⟨#[], #[.slice none 0 0, .slice none 0 0], []⟩ 8 (by kernel_rfl) (by kernel_rfl) (by kernel_rfl) (by kernel_rfl)) ?_
  intro W base args ds gs before hval0 hW hcnd _
  have hval : ∀ (j : Nat) t v, Try.f3.params[j]? = some t → args[j]? = some v → Value.okWide Try.prog W .any base t v := hval0
  have hW' := hW
  obtain ⟨p, q, hA0, hV, rfl, hfz, hnd⟩ := hW
  have hA : DataW.TrodAll enc Try.prog W 0 (fun _ => true) true Try.f3.params.toList args.toList ds p := hA0
  rw [Try.params3] at hA hval
  obtain ⟨v0, vs0, d0, ds0, p0, q0, hargs, rfl, rfl, h0, r0⟩ := trodAll_cons hA
  obtain ⟨v1, vs1, d1, ds1, p1, q1, rfl, rfl, rfl, h1, r1⟩ := trodAll_cons r0
  obtain ⟨rfl, rfl, rfl⟩ := trodAll_nil r1
  obtain rfl : args = #[v0, v1] := by cases args; simp_all
  obtain ⟨rfl, rfl⟩ := trodVars_none hV
  obtain ⟨a0, n0, c0, rfl⟩ := okWide_slice Try.underlying22 (hval 0 22 v0 rfl rfl)
  have k0 := h0
  have lt0 := trod_lt h0
  obtain ⟨z0, f0⟩ := open_inI h0
  obtain ⟨a1, n1, c1, rfl⟩ := okWide_slice Try.underlying22 (hval 1 22 v1 rfl rfl)
  have k1 := h1
  have lt1 := trod_lt h1
  obtain ⟨z1, f1⟩ := open_inI h1
  clear hA0 hval0
  refine (walk a0 n0 c0 z0 a1 n1 c1 z1 W f0 f1).mono fun e W' ⟨he, bel⟩ => ?_
  subst he
  exact ⟨_, rfl, _, _, _, [], _, [], hW', trodAll_mk1 (shut_bool Try.underlying4 _), (trodAll_cons_mk (Below.trod laidOut (by kernel_rfl) (of_decide_eq_true (by kernel_rfl)) k0 bel lt0) (trodAll_cons_mk (Below.trod laidOut (by kernel_rfl) (of_decide_eq_true (by kernel_rfl)) k1 bel lt1) trodAll_mk0)), rfl, Below.frame bel _, fun h => by cases h⟩

theorem over : Rows.fnExactSharperTableRow.holds Try.pinned (OpenSpec.ofChange Rows.fnExactSharperTableSpec) :=
  OpenClaim.holds_of_wide 3 Try.f3 rfl rfl rfl rfl rfl rfl rfl ⟨rfl, rfl, rfl, rfl, rfl⟩ rfl rfl rfl rfl rfl (by kernel_rfl) Try.func3 (by kernel_rfl)
    (of_decide_eq_true (by kernel_rfl)) (by unfold Func.isWrapper; first | (rw [if_pos (by decide +kernel)]; kernel_rfl) | (rw [if_neg (by decide +kernel)]; exact ⟨rfl, rfl⟩))
    (fun os started H enc _ => lifted os started H enc)

theorem proved : Rows.FnExactSharperTableSaid := over


end Go.Proofs.Ythdinjdbblppdaa.fnExactSharperTable

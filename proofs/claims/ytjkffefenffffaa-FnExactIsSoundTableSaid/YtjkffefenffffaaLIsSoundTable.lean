/-
  FnExactIsSoundTable returns true for every input: the program and the reference give the same answer, the arguments are left as they were, and what is handed back is new memory. No condition.
-/
import Derived.Test.YtjkffefenffffaaE
import Derived.Test.YtjkffefenffffaaW
namespace Go.Proofs.Ytjkffefenffffaa.fnExactIsSoundTable
open Go.ChangeShapes Go.WideShapes Go.ChangeAt Go.RowKit

set_option maxHeartbeats 2000000 in
theorem walk (a_aTable : Option Addr) (n_aTable c_aTable : Nat) (z_aTable : List Int) (w : World) (hi_aTable : InI w a_aTable n_aTable z_aTable) :
    Calls Try.prog 4 #[.slice a_aTable n_aTable c_aTable] w fun e w' => e = .returned (.bool true) ∧ Ext w w' := by
  by_cases hbig_aTable : 1048576 < n_aTable
  · have hb_aTable : (1048576 : Int) < n_aTable := by omega
    go_enter Try.func4, Try.ntmps4
    go_wp2
    go_ret
    exact ⟨rfl, Ext.refl _⟩
  have hr_aTable := hi_aTable.rdI (by omega)
  clear hi_aTable
  go_enter Try.func4, Try.ntmps4
  go_wp2_with fail
  refine (toInt64S_any _ _ _ _ _ hr_aTable).mono ?_
  rintro e w1 ⟨v1, rfl, a1, n1, c1, rfl, o1, x1⟩
  obtain rfl : n_aTable = n1 := hr_aTable.len.symm.trans o1.rd.len
  go_wp2_with fail
  refine (specIsSoundTable_any _ _ _ _ _ o1.rd).mono ?_
  rintro e w2 ⟨rfl, rfl⟩
  go_wp2_with fail
  refine (toInt64S_any _ _ _ _ _ (hr_aTable.ext x1)).mono ?_
  rintro e w3 ⟨v3, rfl, a3, n3, c3, rfl, o3, x3⟩
  obtain rfl : n_aTable = n3 := hr_aTable.len.symm.trans o3.rd.len
  go_wp2_with fail
  refine (implIsSoundTable_any _ _ _ _ _ o3.rd).mono ?_
  rintro e w4 ⟨rfl, rfl⟩
  go_wp2_with fail
  refine (toInt64S_any _ _ _ _ _ (hr_aTable.ext (x1.trans x3))).mono ?_
  rintro e w5 ⟨v5, rfl, a5, n5, c5, rfl, o5, x5⟩
  obtain rfl : n_aTable = n5 := hr_aTable.len.symm.trans o5.rd.len
  go_wp2_with fail
  refine (eqInt64S_same _ _ _ _ _ _ _ (o3.rd.ext x5) o5.rd).mono ?_
  rintro e w6 ⟨rfl, s6⟩
  have x6 := s6.ext
  go_wp2
  go_ret
  exact ⟨rfl, (((x1.trans x3).trans x5).trans x6)⟩

/-! The row. -/
set_option maxRecDepth 100000 in
theorem lifted (os : Os) (started : os.Started) (H : Type) (enc : TypeId × Value → H) :
    ReturnsInHanded {} Try.checked os 4 .any (Rows.fnExactIsSoundTableSpec.pre6 enc Try.prog Try.f4 Rows.fnExactIsSoundTableRow.domain false) (Rows.fnExactIsSoundTableSpec.post enc Try.prog Try.f4 false true false false) := by
  refine returnsInHanded_of_change (C := Try.checked) own started (by kernel_rfl) Try.func4
    (ChangeSpec.witness6 (enc := enc) (C := Try.checked) false ⟨#[], #[.slice none 0 0], []⟩ 8 (by kernel_rfl) (by kernel_rfl) (by kernel_rfl) (by kernel_rfl)) ?_
  intro W base args ds gs before hval0 hW hcnd _
  have hval : ∀ (j : Nat) t v, Try.f4.params[j]? = some t → args[j]? = some v → Value.okWide Try.prog W .any base t v := hval0
  have hW' := hW
  obtain ⟨p, q, hA0, hV, rfl, hfz, hnd⟩ := hW
  have hA : DataW.TrodAll enc Try.prog W 0 (fun _ => true) true Try.f4.params.toList args.toList ds p := hA0
  rw [Try.params4] at hA hval
  obtain ⟨v0, vs0, d0, ds0, p0, q0, hargs, rfl, rfl, h0, r0⟩ := trodAll_cons hA
  obtain ⟨rfl, rfl, rfl⟩ := trodAll_nil r0
  obtain rfl : args = #[v0] := by cases args; simp_all
  obtain ⟨rfl, rfl⟩ := trodVars_none hV
  obtain ⟨a0, n0, c0, rfl⟩ := okWide_slice Try.underlying22 (hval 0 22 v0 rfl rfl)
  have k0 := h0
  have lt0 := trod_lt h0
  obtain ⟨z0, f0⟩ := open_inI h0
  clear hA0 hval0
  refine (walk a0 n0 c0 z0 W f0).mono fun e W' ⟨he, bel⟩ => ?_
  subst he
  exact ⟨_, rfl, _, _, _, [], _, [], hW', trodAll_mk1 (shut_bool Try.underlying4 _), (trodAll_cons_mk (Below.trod laidOut (by kernel_rfl) (of_decide_eq_true (by kernel_rfl)) k0 bel lt0) trodAll_mk0), rfl, Below.frame bel _, fun h => by cases h⟩

theorem over : Rows.fnExactIsSoundTableRow.holds Try.pinned (OpenSpec.ofChange Rows.fnExactIsSoundTableSpec) :=
  OpenClaim.holds_of_wide 4 Try.f4 rfl rfl rfl rfl rfl rfl rfl ⟨rfl, rfl, rfl, rfl, rfl⟩ rfl rfl rfl rfl rfl (by kernel_rfl) Try.func4 (by kernel_rfl)
    (of_decide_eq_true (by kernel_rfl)) (by unfold Func.isWrapper; first | (rw [if_pos (by decide +kernel)]; kernel_rfl) | (rw [if_neg (by decide +kernel)]; exact ⟨rfl, rfl⟩))
    (fun os started H enc _ => lifted os started H enc)

theorem proved : Rows.FnExactIsSoundTableSaid := over


end Go.Proofs.Ytjkffefenffffaa.fnExactIsSoundTable

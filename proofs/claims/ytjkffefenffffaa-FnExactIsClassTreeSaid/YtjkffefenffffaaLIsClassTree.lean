/-
  FnExactIsClassTree returns true for every list of ints: the program and the reference give the same answer, and the argument is left as it was. No condition.
-/
import Derived.Test.YtjkffefenffffaaD
import Derived.Test.YtjkffefenffffaaW
namespace Go.Proofs.Ytjkffefenffffaa.fnExactIsClassTree
open Go.ChangeShapes Go.WideShapes Go.ChangeAt Go.RowKit

set_option maxHeartbeats 1000000 in
theorem walk (a : Option Addr) (n c : Nat) (zs : List Int) (w : World) (hi : InI w a n zs) :
    Calls Try.prog 3 #[.slice a n c] w fun e w' => e = .returned (.bool true) ∧ Ext w w' := by
  by_cases hbig : 1048576 < n
  · have hb : (1048576 : Int) < n := by omega
    go_enter Try.func3, Try.ntmps3
    go_wp2
    go_ret
    exact ⟨rfl, Ext.refl _⟩
  · have hr := hi.rdI (by omega)
    go_enter Try.func3, Try.ntmps3
    go_wp2_with fail
    refine (toInt64S_any _ _ _ _ _ hr).mono ?_
    rintro e w1 ⟨v, rfl, a1, n1, c1, rfl, o1, x1⟩
    go_wp2_with fail
    refine (specIsClassTree_any _ _ _ _ _ o1.rd).mono ?_
    rintro e w' ⟨rfl, rfl⟩
    go_wp2_with fail
    refine (toInt64S_any _ _ _ _ _ (hr.ext x1)).mono ?_
    rintro e w2 ⟨v, rfl, a2, n2, c2, rfl, o2, x2⟩
    go_wp2_with fail
    refine (implIsClassTree_any _ _ _ _ _ o2.rd).mono ?_
    rintro e w' ⟨rfl, rfl⟩
    go_wp2_with fail
    refine (toInt64S_any _ _ _ _ _ (hr.ext (x1.trans x2))).mono ?_
    rintro e w3 ⟨v, rfl, a3, n3, c3, rfl, o3, x3⟩
    have hn2 := o2.rd.len
    have hn3 := o3.rd.len
    obtain rfl : n2 = n3 := by omega
    clear hn2 hn3
    go_wp2_with fail
    refine (eqInt64S_same _ _ _ _ _ _ _ (o2.rd.ext x3) o3.rd).mono ?_
    rintro e w4 ⟨rfl, x4⟩
    go_wp2
    go_ret
    exact ⟨rfl, ((x1.trans x2).trans x3).trans x4.ext⟩

/- the row -/
set_option maxRecDepth 100000 in
theorem lifted (os : Os) (started : os.Started) (H : Type) (enc : TypeId × Value → H) :
    ReturnsInHanded {} Try.checked os 3 .any (Rows.fnExactIsClassTreeSpec.pre6 enc Try.prog Try.f3 Rows.fnExactIsClassTreeRow.domain false) (Rows.fnExactIsClassTreeSpec.post enc Try.prog Try.f3 false true false false) := by
  refine returnsInHanded_of_change (C := Try.checked) own started (by kernel_rfl) Try.func3
    (ChangeSpec.witness6 (enc := enc) (C := Try.checked) false ⟨#[], #[.slice none 0 0], []⟩ 8 (by kernel_rfl) (by kernel_rfl) (by kernel_rfl) (by kernel_rfl)) ?_
  intro W base args ds gs before hval0 hW hcnd _
  have hval : ∀ (j : Nat) t v, Try.f3.params[j]? = some t → args[j]? = some v → Value.okWide Try.prog W .any base t v := hval0
  have hW' := hW
  obtain ⟨p, q, hA0, hV, rfl, hfz, hnd⟩ := hW
  have hA : DataW.TrodAll enc Try.prog W 0 (fun _ => true) true Try.f3.params.toList args.toList ds p := hA0
  rw [Try.params3] at hA hval
  obtain ⟨v0, vs0, d0, ds0, p0, q0, hargs, rfl, rfl, h0, r0⟩ := trodAll_cons hA
  obtain ⟨rfl, rfl, rfl⟩ := trodAll_nil r0
  obtain rfl : args = #[v0] := by cases args; simp_all
  obtain ⟨rfl, rfl⟩ := trodVars_none hV
  obtain ⟨a0, n0, c0, rfl⟩ := okWide_slice Try.underlying22 (hval 0 22 v0 rfl rfl)
  have k0 := h0
  have lt0 := trod_lt h0
  obtain ⟨z0, f0⟩ := open_inI h0
  clear hA0 hval0
  refine (walk a0 n0 c0 z0 W f0).mono fun e W' ⟨he, bel⟩ => ?_
  subst he
  exact ⟨_, rfl, _, _, _, [], _, [], hW', trodAll_mk1 (shut_bool Try.underlying4 _), (trodAll_cons_mk (Below.trod laidOut (by kernel_rfl) (of_decide_eq_true (by kernel_rfl)) k0 bel lt0) trodAll_mk0), rfl, Below.frame bel _, fun h => by cases h⟩

theorem over : Rows.fnExactIsClassTreeRow.holds Try.pinned (OpenSpec.ofChange Rows.fnExactIsClassTreeSpec) :=
  OpenClaim.holds_of_wide 3 Try.f3 rfl rfl rfl rfl rfl rfl rfl ⟨rfl, rfl, rfl, rfl, rfl⟩ rfl rfl rfl rfl rfl (by kernel_rfl) Try.func3 (by kernel_rfl)
    (of_decide_eq_true (by kernel_rfl)) (by unfold Func.isWrapper; first | (rw [if_pos (by decide +kernel)]; kernel_rfl) | (rw [if_neg (by decide +kernel)]; exact ⟨rfl, rfl⟩))
    (fun os started H enc _ => lifted os started H enc)

theorem proved : Rows.FnExactIsClassTreeSaid := over


end Go.Proofs.Ytjkffefenffffaa.fnExactIsClassTree

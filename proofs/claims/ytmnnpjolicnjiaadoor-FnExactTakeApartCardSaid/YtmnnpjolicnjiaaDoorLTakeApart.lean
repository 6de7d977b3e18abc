/-
  FnExactTakeApart returns true for every input.
-/
import Derived.Test.YtmnnpjolicnjiaaDoorTA3
import Derived.Test.YtmnnpjolicnjiaaDoorW3
import Derived.Test.YtmnnpjolicnjiaaDoorW4
import Derived.Test.YtmnnpjolicnjiaaDoorTie
import Derived.Test.YtmnnpjolicnjiaaDoorCards
namespace Go.Proofs.YtmnnpjolicnjiaaDoor.fnExactTakeApart
open Go.ChangeShapes Go.WideShapes Go.ChangeAt Go.RowKit
open Go.ChangeMaps (open_string shut_string)

set_option maxRecDepth 100000 in
set_option maxHeartbeats 2000000 in
theorem walk (a : Option Addr) (n c : Nat) (z : List ByteArray) (x : ByteArray) (w : World) (hi : InS w a n z) (_ : x.size ≤ maxLen) (hmax : MaxW w) :
    Calls Tryd.prog 6 #[.slice a n c, .string x] w fun e w' => e = .returned (.bool true) ∧ Ext w w' := by
  by_cases hbig : 1048576 < x.size
  · have hb : (1048576 : Int) < x.size := by omega
    go_enter Tryd.func6, Tryd.ntmps6
    go_wp2
    go_ret
    exact ⟨rfl, Ext.refl _⟩
  have hs : x.size ≤ 1073741824 := by omega
  have hb : ¬ (1048576 : Int) < x.size := by omega
  go_enter Tryd.func6, Tryd.ntmps6
  go_wp2_with fail
  refine (szStringS_any _ _ _ _ _ _ hi (by omega) (by omega)).mono ?_
  rintro e w1 ⟨⟨r1, rfl, l1⟩, rfl⟩
  by_cases hl1 : r1 < 0
  · go_wp2
    go_ret
    exact ⟨rfl, Ext.refl _⟩
  have hr := l1.rdS hi (by omega) (by omega)
  go_wp2_with fail
  refine (toStringS_any _ _ _ _ _ hr).mono ?_
  rintro e w1 ⟨v1, rfl, a1, n1, c1, rfl, o1, x1⟩
  obtain rfl : n = n1 := hr.len.symm.trans o1.rd.len
  go_wp2_with fail
  refine (specTakeApart_any _ _ _ _ _ _ o1.rd hs).mono ?_
  rintro e w2 ⟨rfl, x2⟩
  rw [valParts]
  have y2 := x1.trans x2
  have hr2 := hr.ext y2
  have hr3 := hr2.ext ((Ext.refl _).alloc (.cells #[.string (takeP z x).spec, .string (takeP z x).gen] 39))
  go_wp2_with fail
  refine (toStringS_any _ _ _ _ _ hr3).mono ?_
  rintro e w4 ⟨v4, rfl, a4, n4, c4, rfl, o4, x4⟩
  obtain rfl : n = n4 := hr.len.symm.trans o4.rd.len
  go_wp2_with fail
  refine (implTakeApart_any _ _ _ _ _ _ o4.rd o4.cap hs (hmax.ext ((y2.alloc _).trans x4))).mono ?_
  rintro e w5 ⟨rfl, x5⟩
  rw [valParts]
  have c0 : w5.cell? ⟨w2.heap.size, 0, none⟩ = some (.string (takeP z x).spec) := box_keptG (x4.trans x5) 0
  have c1 : w5.cell? ⟨w2.heap.size, 1, none⟩ = some (.string (takeP z x).gen) := box_keptG (x4.trans x5) 1
  have hl5 : w2.heap.size < w5.heap.size := by have := (x4.trans x5).size; simp at this; omega
  have x6 := (Ext.refl w5).alloc (.cells #[.string (takeP z x).spec, .string (takeP z x).gen] 39)
  go_wp2_with fail
  refine (eqParts_same ⟨(takeP z x).spec, (takeP z x).gen⟩ _).mono ?_
  rintro e w7 ⟨rfl, x7⟩
  go_wp2_with fail
  refine (toStringS_any _ _ _ _ _ (hr3.ext ((x4.trans x5).trans (x6.trans x7)))).mono ?_
  rintro e w8 ⟨v8, rfl, a8, n8, c8, rfl, o8, x8⟩
  obtain rfl : n = n8 := hr.len.symm.trans o8.rd.len
  go_wp2_with fail
  refine (eqStringS_same _ _ _ _ _ _ _ (o4.rd.ext ((x5.trans (x6.trans x7)).trans x8)) o8.rd).mono ?_
  rintro e w9 ⟨rfl, s9⟩
  go_wp2
  go_ret
  exact ⟨rfl, (y2.alloc _).trans ((((x4.trans x5).trans (x6.trans x7)).trans x8).trans s9.ext)⟩

set_option maxRecDepth 100000 in
theorem lifted (os : Os) (started : os.Started) (H : Type) (enc : TypeId × Value → H) :
    ReturnsInHanded {} Tryd.checked os 6 .any (fun w args => (Rows.fnExactTakeApartSpec.pre enc Tryd.prog Tryd.f6 Rows.fnExactTakeApartRow.domain false w args ∧ laidMetH Tryd.prog Rows.fnExactTakeApartRow.laid w) ∧ sizedMet enc Tryd.prog Tryd.f6 (OpenSpec.ofChange Rows.fnExactTakeApartSpec) false w args)
      (Rows.fnExactTakeApartSpec.post enc Tryd.prog Tryd.f6 false true false false) := by
  refine handed_shaped_and (C := Tryd.checked) (X := fun w _ => laidMetH Tryd.prog Rows.fnExactTakeApartRow.laid w) (fun _ _ _ hh h => h.of_heap hh) own started (by kernel_rfl) Tryd.func6
    (ChangeSpec.witness_shaped (enc := enc) (C := Tryd.checked) (os := os) (X := fun w _ => laidMetH Tryd.prog Rows.fnExactTakeApartRow.laid w) false (World.laidAll Tryd.prog os Rows.fnExactTakeApartRow.laid) #[.slice none 0 0, .string ⟨#[]⟩] 8 (World.laidAll_os _ _ _)
      (World.shaped_of_ZipB (by kernel_rfl) (by kernel_rfl)) (by kernel_rfl) (by kernel_rfl) (by kernel_rfl)
      (by rw [MakeChecks.laidMetH_plain _ _ _ (by kernel_rfl)]; exact laidMet_laidAll _ (by kernel_rfl) (by kernel_rfl))) ?_
  intro W base args ds gs before hval0 hW hcnd hshaped hlaid
  have hval : ∀ (j : Nat) t v, Tryd.f6.params[j]? = some t → args[j]? = some v → Value.okWide Tryd.prog W .any base t v := hval0
  have hW' := hW
  obtain ⟨p, q, hA0, hV, rfl, hfz, hnd⟩ := hW
  have hA : DataW.TrodAll enc Tryd.prog W 0 (fun _ => true) true Tryd.f6.params.toList args.toList ds p := hA0
  rw [Tryd.params6] at hA hval
  obtain ⟨v0, vs0, d0, ds0, p0, q0, hargs, rfl, rfl, h0, r0⟩ := trodAll_cons hA
  obtain ⟨v1, vs1, d1, ds1, p1, q1, rfl, rfl, rfl, h1, r1⟩ := trodAll_cons r0
  obtain ⟨rfl, rfl, rfl⟩ := trodAll_nil r1
  obtain rfl : args = #[v0, v1] := by cases args; simp_all
  obtain ⟨rfl, rfl⟩ := trodVars_none hV
  obtain ⟨a0, n0, c0, rfl⟩ := okWide_slice Tryd.underlying22 (hval 0 22 v0 rfl rfl)
  have k0 := h0
  have lt0 := trod_lt h0
  obtain ⟨z0, f0, _⟩ := open_inS h0
  obtain ⟨a1, rfl, rfl, rfl, f1⟩ := open_string Tryd.underlying9 (hval 1 9 v1 rfl rfl) h1
  clear hA0 hval0
  refine (walk a0 n0 c0 z0 a1 W f0 f1 (MaxW.of_shaped hshaped)).mono fun e W' ⟨he, bel⟩ => ?_
  subst he
  exact ⟨_, rfl, _, _, _, [], _, [], hW', trodAll_mk1 (shut_bool Tryd.underlying4 _), (trodAll_cons_mk (Below.trod laidOut (by kernel_rfl) (of_decide_eq_true (by kernel_rfl)) k0 bel lt0) (trodAll_cons_mk (shut_string Tryd.underlying9 f1) trodAll_mk0)), rfl, Below.frame bel _, fun h => by cases h⟩

theorem over : Rows.fnExactTakeApartRow.holds Tryd.pinned (OpenSpec.ofChange Rows.fnExactTakeApartSpec) :=
  OpenClaim.holds_of_wide 6 Tryd.f6 rfl rfl rfl rfl rfl rfl rfl ⟨rfl, rfl, rfl, rfl, rfl⟩ rfl rfl rfl rfl rfl (by kernel_rfl) Tryd.func6 (by kernel_rfl)
    (of_decide_eq_true (by kernel_rfl)) (by unfold Func.isWrapper; first | (rw [if_pos (by decide +kernel)]; kernel_rfl) | (rw [if_neg (by decide +kernel)]; exact ⟨rfl, rfl⟩))
    (fun os started H enc _ => lifted os started H enc)

theorem proved : Rows.FnExactTakeApartCardSaid :=
  Claim7.holds_tied_plain_at .later [] Rows.fnExactTakeApartCard.laidKinds true Rows.fnExactTakeApartCard.stood.harness false over (fun _ h => by cases h) (by kernel_rfl) (fun _ h => by cases h) fnExactTakeApart_row_tie rfl ⟨rfl, rfl⟩ (by kernel_rfl) rfl
    (fun f fn hf hfn => by
      obtain rfl : f = 6 := Option.some.inj ((show Tryd.prog.funcNamed "loop.example/g01030/laws.FnExactTakeApart" = some 6 by kernel_rfl).symm.trans hf) |>.symm
      obtain rfl : fn = Tryd.f6 := (Option.some.inj (Tryd.func6.symm.trans hfn)).symm
      exact ⟨by kernel_rfl, fun j t ht => by
        rw [Tryd.params6] at ht
        have hm : t ∈ [22, 9] := by simpa using Array.mem_of_getElem? ht
        have hall : ([22, 9].all fun u => !Tryd.prog.wantsStandIn u) = true := by kernel_rfl
        exact (show Tryd.prog.wantsStandIn t = false by simpa using List.all_eq_true.1 hall t hm)⟩)
    (by kernel_rfl)

end Go.Proofs.YtmnnpjolicnjiaaDoor.fnExactTakeApart

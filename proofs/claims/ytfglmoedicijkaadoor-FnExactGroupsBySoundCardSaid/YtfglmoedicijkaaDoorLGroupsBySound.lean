/-
  FnExactGroupsBySound returns true for every input: the program and the reference give the same answer, the arguments are left as they were, and what is handed back is new memory. No condition.
-/
import Derived.Test.YtfglmoedicijkaaDoorGB
import Derived.Test.YtfglmoedicijkaaDoorGM
import Derived.Test.YtfglmoedicijkaaDoorT5
import Derived.Test.YtfglmoedicijkaaDoorW3
import Derived.Test.YtfglmoedicijkaaDoorW
import Derived.Test.YtfglmoedicijkaaDoorW4
import Derived.Test.YtfglmoedicijkaaDoorTie
import Derived.Test.YtfglmoedicijkaaDoorCards
namespace Go.Proofs.YtfglmoedicijkaaDoor.fnExactGroupsBySound
open Go.ChangeShapes Go.WideShapes Go.ChangeAt Go.RowKit
open Go.ChangeMaps (open_string shut_string)

theorem tot_gzs (gs : List Gr) : totG gs = totL (gzs gs) := by
  simp only [totG, totL, gzs, List.map_map]
  rfl
theorem gb_le (t : List Int) (ls : List ByteArray) : totL (gbL t ls) ≤ ls.length := by
  by_cases h : codeS t ls ⟨#[97]⟩ = 0
  · rw [gb_sum h]; exact Nat.le_refl _
  · rw [gbL_no rfl h]; exact Nat.zero_le _

set_option maxRecDepth 100000 in
set_option maxHeartbeats 4000000 in
theorem walk (a_aTable : Option Addr) (n_aTable c_aTable : Nat) (z_aTable : List Int) (a_aList : Option Addr) (n_aList c_aList : Nat) (z_aList : List ByteArray) (w : World) (hi_aTable : InI w a_aTable n_aTable z_aTable) (hi_aList : InS w a_aList n_aList z_aList) :
    Calls Tryd.prog 3 #[.slice a_aTable n_aTable c_aTable, .slice a_aList n_aList c_aList] w fun e w' => e = .returned (.bool true) ∧ Ext w w' := by
  by_cases hbig_aTable : 1048576 < n_aTable
  · have hb_aTable : (1048576 : Int) < n_aTable := by omega
    go_enter Tryd.func3, Tryd.ntmps3
    go_wp2
    go_ret
    exact ⟨rfl, Ext.refl _⟩
  have hr_aTable := hi_aTable.rdI (by omega)
  clear hi_aTable
  go_enter Tryd.func3, Tryd.ntmps3
  go_wp2_with fail
  refine (szStringS_any _ _ _ _ _ _ hi_aList (by omega) (by omega)).mono ?_
  rintro e w1 ⟨⟨r1, rfl, l1⟩, rfl⟩
  by_cases hl1 : r1 < 0
  · go_wp2
    go_ret
    exact ⟨rfl, Ext.refl _⟩
  have hq1 := l1.1 (by omega)
  have hr_aList := l1.rdS hi_aList (by omega) (by omega)
  have hnl : n_aList ≤ 1048576 := by omega
  have hlnl := hr_aList.len
  go_wp2_with fail
  refine (toInt64S_any _ _ _ _ _ hr_aTable).mono ?_
  rintro e w2 ⟨v2, rfl, a2, n2, c2, rfl, o2, x2⟩
  obtain rfl : n_aTable = n2 := hr_aTable.len.symm.trans o2.rd.len
  go_wp2_with fail
  refine (toStringS_any _ _ _ _ _ (hr_aList.ext x2)).mono ?_
  rintro e w3 ⟨v3, rfl, a3, n3, c3, rfl, o3, x3⟩
  obtain rfl : n_aList = n3 := hr_aList.len.symm.trans o3.rd.len
  go_wp2_with fail
  refine (specGroupsBySound_any _ _ _ _ _ _ _ _ _ (o2.rd.ext x3) o3.rd).mono ?_
  rintro e w4 ⟨a4, c4, gs4, rfl, e4, o4, x4⟩
  have r4 := o4.rd
  rw [e4] at r4
  have hl4 : gs4.length = (gbL z_aTable z_aList).length := by rw [← e4, gzs_len]
  rw [hl4] at r4 ⊢
  clear o4 e4 hl4
  have X4 := (x2.trans x3).trans x4
  clear o2 o3
  go_wp2_with fail
  refine (toInt64S_any _ _ _ _ _ (hr_aTable.ext X4)).mono ?_
  rintro e w5 ⟨v5, rfl, a5, n5, c5, rfl, o5, x5⟩
  obtain rfl : n_aTable = n5 := hr_aTable.len.symm.trans o5.rd.len
  go_wp2_with fail
  refine (toStringS_any _ _ _ _ _ (hr_aList.ext (X4.trans x5))).mono ?_
  rintro e w6 ⟨v6, rfl, a6, n6, c6, rfl, o6, x6⟩
  obtain rfl : n_aList = n6 := hr_aList.len.symm.trans o6.rd.len
  go_wp2_with fail
  refine (implGroupsBySound_any _ _ _ _ _ _ _ _ _ (o5.rd.ext x6) o6.rd).mono ?_
  rintro e w7 ⟨a7, c7, gs, rfl, e7, o7, x7⟩
  have hl7 : (gbL z_aTable z_aList).length = gs.length := by rw [← e7, gzs_len]
  rw [hl7] at r4 ⊢
  have htot : totG gs ≤ 1048576 := by
    rw [tot_gzs, e7]
    exact Nat.le_trans (gb_le z_aTable z_aList) (by omega)
  clear hl7
  have Y4 := (x5.trans x6).trans x7
  go_wp2_with fail
  refine (eqInt64SS_same _ _ _ _ _ (gbL z_aTable z_aList) _ (by rw [← e7]; exact o7.rd) (r4.ext Y4)).mono ?_
  rintro e w8 ⟨rfl, x8⟩
  go_wp2_with fail
  refine (toInt64S_any _ _ _ _ _ (hr_aTable.ext ((X4.trans Y4).trans x8))).mono ?_
  rintro e w9 ⟨v9, rfl, a9, n9, c9, rfl, o9, x9⟩
  obtain rfl : n_aTable = n9 := hr_aTable.len.symm.trans o9.rd.len
  go_wp2_with fail
  refine (eqInt64S_same _ _ _ _ _ _ _ (o5.rd.ext (((x6.trans x7).trans x8).trans x9)) o9.rd).mono ?_
  rintro e w10 ⟨rfl, s10⟩
  have x10 := s10.ext
  go_wp2_with fail
  refine (toStringS_any _ _ _ _ _ (hr_aList.ext ((((X4.trans Y4).trans x8).trans x9).trans x10))).mono ?_
  rintro e w11 ⟨v11, rfl, a11, n11, c11, rfl, o11, x11⟩
  obtain rfl : n_aList = n11 := hr_aList.len.symm.trans o11.rd.len
  go_wp2_with fail
  refine (eqStringS_same _ _ _ _ _ _ _ (o6.rd.ext ((((x7.trans x8).trans x9).trans x10).trans x11)) o11.rd).mono ?_
  rintro e w12 ⟨rfl, s12⟩
  have x12 := s12.ext
  have Z8 := (((x8.trans x9).trans x10).trans x11).trans x12
  have y5 := o5.ext ((x6.trans x7).trans Z8)
  have y6 := o6.ext (x7.trans Z8)
  have y7 := o7.ext Z8
  have V4 := Y4.trans Z8
  have V0 := X4.trans V4
  clear o9 o11 s10 s12
  go_wp2_with fail
  refine (markInt64S_any _ _ _ _ _ _ _ y5 (by decide) (by decide)).mono ?_
  rintro e w13 ⟨rfl, m13, k13⟩
  have U0 := k13.ext V0 y5.1 X4.size
  have U4 := k13.ext V4 y5.1 (Nat.le_refl _)
  have u6 : OwnS _ _ _ _ _ _ := ⟨⟨k13.kept y6.1.1 ⟨_, o5.1, Nat.le_refl _⟩, y6.1.2⟩, y6.2⟩
  have u7 := OwnGr.kept k13 y7 ⟨_, o5.1, x6.size⟩
  clear V0 V4 y5 y6 y7 m13
  go_wp2_with fail
  refine (markStringS_any _ _ _ _ _ _ _ u6 (by omega) (by omega) (by omega)).mono ?_
  rintro e w24 ⟨rfl, m24, k24⟩
  have V0 := k24.ext U0 u6.1.1 (X4.trans x5).size
  have V4 := k24.ext U4 u6.1.1 x5.size
  have y7 := OwnGr.kept k24 u7 ⟨_, o6.1.1, Nat.le_refl _⟩
  clear U0 U4 u6 u7 m24
  go_wp2_with fail
  refine (eqInt64SS_same _ _ _ _ _ (gbL z_aTable z_aList) _ (by rw [← e7]; exact y7.rd) (r4.ext V4)).mono ?_
  rintro e w34 ⟨rfl, x34⟩
  have z7 := y7.ext x34
  go_wp2_with fail
  refine (markInt64SS_any _ _ _ _ _ _ _ z7 (by decide) (by decide) htot).mono ?_
  rintro e w35 ⟨rfl, m35, b35⟩
  have U0 := b35.ext (V0.trans x34) ((X4.trans x5).trans x6).size
  have U4 := b35.ext (V4.trans x34) (x5.trans x6).size
  clear V0 V4 y7 z7
  go_wp2_with fail
  refine (heldInt64SS_marks _ _ _ _ _ _ _ m35 (by decide) (by decide) htot).mono ?_
  rintro e w44 ⟨rfl, rfl⟩
  go_wp2_with fail
  refine (toInt64S_any _ _ _ _ _ (hr_aTable.ext U0)).mono ?_
  rintro e w45 ⟨v45, rfl, a45, n45, c45, rfl, o45, x45⟩
  obtain rfl : n_aTable = n45 := hr_aTable.len.symm.trans o45.rd.len
  go_wp2_with fail
  refine (toStringS_any _ _ _ _ _ (hr_aList.ext (U0.trans x45))).mono ?_
  rintro e w46 ⟨v46, rfl, a46, n46, c46, rfl, o46, x46⟩
  obtain rfl : n_aList = n46 := hr_aList.len.symm.trans o46.rd.len
  go_wp2_with fail
  refine (implGroupsBySound_any _ _ _ _ _ _ _ _ _ (o45.rd.ext x46) o46.rd).mono ?_
  rintro e w47 ⟨a47, c47, gs47, rfl, e47, o47, x47⟩
  have hl47 : gs47.length = gs.length := by rw [← gzs_len gs47, e47, ← e7, gzs_len]
  have r47 := o47.rd
  rw [e47, hl47] at r47
  rw [hl47]
  clear o47 e47 hl47
  have T := (x45.trans x46).trans x47
  go_wp2_with fail
  refine (eqInt64SS_same _ _ _ _ _ (gbL z_aTable z_aList) _ r47 (r4.ext (U4.trans T))).mono ?_
  rintro e w48 ⟨rfl, x48⟩
  go_wp2_with fail
  refine (heldInt64SS_marks _ _ _ _ _ _ _ (m35.ext (T.trans x48)) (by decide) (by decide) htot).mono ?_
  rintro e w49 ⟨rfl, rfl⟩
  go_wp2
  go_ret
  exact ⟨rfl, (U0.trans T).trans x48⟩

/-! The row. -/
set_option maxRecDepth 100000 in
theorem lifted (os : Os) (started : os.Started) (H : Type) (enc : TypeId × Value → H) :
    ReturnsInHanded {} Tryd.checked os 3 .any (fun w args => (Rows.fnExactGroupsBySoundSpec.pre enc Tryd.prog Tryd.f3 Rows.fnExactGroupsBySoundRow.domain false w args ∧ laidMetH Tryd.prog Rows.fnExactGroupsBySoundRow.laid w) ∧ sizedMet enc Tryd.prog Tryd.f3 (OpenSpec.ofChange Rows.fnExactGroupsBySoundSpec) false w args)
      (Rows.fnExactGroupsBySoundSpec.post enc Tryd.prog Tryd.f3 false true false false) := by
  refine handed_shaped_and (C := Tryd.checked) (X := fun w _ => laidMetH Tryd.prog Rows.fnExactGroupsBySoundRow.laid w) (fun _ _ _ hh h => h.of_heap hh) own started (by kernel_rfl) Tryd.func3
    (ChangeSpec.witness_shaped (enc := enc) (C := Tryd.checked) (os := os) (X := fun w _ => laidMetH Tryd.prog Rows.fnExactGroupsBySoundRow.laid w) false (World.laidAll Tryd.prog os Rows.fnExactGroupsBySoundRow.laid) #[.slice none 0 0, .slice none 0 0] 8 (World.laidAll_os _ _ _)
      (World.shaped_of_ZipB (by kernel_rfl) (by kernel_rfl)) (by kernel_rfl) (by kernel_rfl) (by kernel_rfl)
      (by rw [MakeChecks.laidMetH_plain _ _ _ (by kernel_rfl)]; exact laidMet_laidAll _ (by kernel_rfl) (by kernel_rfl))) ?_
  intro W base args ds gs before hval0 hW hcnd hshaped hlaid
  have hval : ∀ (j : Nat) t v, Tryd.f3.params[j]? = some t → args[j]? = some v → Value.okWide Tryd.prog W .any base t v := hval0
  have hW' := hW
  obtain ⟨p, q, hA0, hV, rfl, hfz, hnd⟩ := hW
  have hA : DataW.TrodAll enc Tryd.prog W 0 (fun _ => true) true Tryd.f3.params.toList args.toList ds p := hA0
  rw [Tryd.params3] at hA hval
  obtain ⟨v0, vs0, d0, ds0, p0, q0, hargs, rfl, rfl, h0, r0⟩ := trodAll_cons hA
  obtain ⟨v1, vs1, d1, ds1, p1, q1, rfl, rfl, rfl, h1, r1⟩ := trodAll_cons r0
  obtain ⟨rfl, rfl, rfl⟩ := trodAll_nil r1
  obtain rfl : args = #[v0, v1] := by cases args; simp_all
  obtain ⟨rfl, rfl⟩ := trodVars_none hV
  obtain ⟨a0, n0, c0, rfl⟩ := okWide_slice Tryd.underlying22 (hval 0 22 v0 rfl rfl)
  have k0 := h0
  have lt0 := trod_lt h0
  obtain ⟨z0, f0⟩ := open_inI h0
  obtain ⟨a1, n1, c1, rfl⟩ := okWide_slice Tryd.underlying23 (hval 1 23 v1 rfl rfl)
  have k1 := h1
  have lt1 := trod_lt h1
  obtain ⟨z1, f1, _⟩ := open_inS h1
  clear hA0 hval0
  refine (walk a0 n0 c0 z0 a1 n1 c1 z1 W f0 f1).mono fun e W' ⟨he, bel⟩ => ?_
  subst he
  exact ⟨_, rfl, _, _, _, [], _, [], hW', trodAll_mk1 (shut_bool Tryd.underlying4 _), (trodAll_cons_mk (Below.trod laidOut (by kernel_rfl) (of_decide_eq_true (by kernel_rfl)) k0 bel lt0) (trodAll_cons_mk (Below.trod laidOut (by kernel_rfl) (of_decide_eq_true (by kernel_rfl)) k1 bel lt1) trodAll_mk0)), rfl, Below.frame bel _, fun h => by cases h⟩

theorem over : Rows.fnExactGroupsBySoundRow.holds Tryd.pinned (OpenSpec.ofChange Rows.fnExactGroupsBySoundSpec) :=
  OpenClaim.holds_of_wide 3 Tryd.f3 rfl rfl rfl rfl rfl rfl rfl ⟨rfl, rfl, rfl, rfl, rfl⟩ rfl rfl rfl rfl rfl (by kernel_rfl) Tryd.func3 (by kernel_rfl)
    (of_decide_eq_true (by kernel_rfl)) (by unfold Func.isWrapper; first | (rw [if_pos (by decide +kernel)]; kernel_rfl) | (rw [if_neg (by decide +kernel)]; exact ⟨rfl, rfl⟩))
    (fun os started H enc _ => lifted os started H enc)

theorem proved : Rows.FnExactGroupsBySoundCardSaid :=
  Claim7.holds_tied_plain_at .later [] Rows.fnExactGroupsBySoundCard.laidKinds true Rows.fnExactGroupsBySoundCard.stood.harness Rows.fnExactGroupsBySoundCard.stood.looks over (fun _ h => by cases h) (by kernel_rfl) (fun _ h => by cases h) fnExactGroupsBySound_row_tie rfl ⟨rfl, rfl⟩ (by kernel_rfl) rfl
    (fun f fn hf hfn => by
      obtain rfl : f = 3 := Option.some.inj ((show Tryd.prog.funcNamed "loop.example/g01030/laws.FnExactGroupsBySound" = some 3 by kernel_rfl).symm.trans hf) |>.symm
      obtain rfl : fn = Tryd.f3 := (Option.some.inj (Tryd.func3.symm.trans hfn)).symm
      exact ⟨by kernel_rfl, fun j t ht => by
        rw [Tryd.params3] at ht
        have hm : t ∈ [22, 23] := by simpa using Array.mem_of_getElem? ht
        have hall : ([22, 23].all fun u => !Tryd.prog.wantsStandIn u) = true := by kernel_rfl
        exact (show Tryd.prog.wantsStandIn t = false by simpa using List.all_eq_true.1 hall t hm)⟩)
    (by kernel_rfl)



end Go.Proofs.YtfglmoedicijkaaDoor.fnExactGroupsBySound

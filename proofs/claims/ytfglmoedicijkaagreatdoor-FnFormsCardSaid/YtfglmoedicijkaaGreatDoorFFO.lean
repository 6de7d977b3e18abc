/-
  FnForms returns true for every code: the walk.
-/
import Derived.Test.YtfglmoedicijkaaGreatDoorDE
import Derived.Test.YtfglmoedicijkaaGreatDoorFLW
import Derived.Test.YtfglmoedicijkaaGreatDoorWTX
import Derived.Test.YtfglmoedicijkaaGreatDoorW2
namespace Go.Proofs.YtfglmoedicijkaaGreatDoor.fnForms
open Go.ChangeShapes Go.WideShapes Go.ChangeAt Go.RowKit

theorem hasT_hasS (ss : List ByteArray) (s : ByteArray) : hasT ss s = hasS ss s := by
  rw [Bool.eq_iff_iff, hasT_mem]
  constructor
  · intro h
    obtain ⟨k, hk, rfl⟩ := List.getElem_of_mem h
    exact hasS_at hk (nthS_eq hk)
  · intro h
    obtain ⟨k, hk, e, _⟩ := hasS_of h
    rw [← e]; exact nthS_mem hk

set_option maxRecDepth 100000 in
set_option maxHeartbeats 8000000 in
theorem walk (a_code : Option Addr) (n_code c_code : Nat) (z_code : List Int) (w : World) (hi_code : InBy w a_code n_code z_code) :
    Calls Tryz.prog 4 #[.slice a_code n_code c_code] w fun e w' => e = .returned (.bool true) ∧ Ext w w' := by
  by_cases hbig : (4096 : Int) < n_code
  · go_enter Tryz.func4, Tryz.ntmps4
    go_wp2_with (go_at_call 5; refine (big_any _ _ _ _).mono ?_; rintro e w' ⟨rfl, rfl⟩)
    go_ret
    exact ⟨rfl, Ext.refl _⟩
  have hr := hi_code.rdBy (by omega)
  clear hi_code
  go_enter Tryz.func4, Tryz.ntmps4
  go_wp2_with (go_at_call 5; refine (big_any _ _ _ _).mono ?_; rintro e w' ⟨rfl, rfl⟩)
  clear hbig
  refine (drawBasesOf_any _ _ _ _ _ hr).mono ?_
  rintro e w1 ⟨a1, c1, xs, s, rfl, hl1, o1, hs, x1⟩
  have X := x1
  have hcap1 := o1.cap
  have hs2 : s.size ≤ 1073741824 := by omega
  have hn1 : xs.length ≤ 1048576 := by omega
  have r1 := o1.rd
  clear o1
  go_wp2_with fail
  refine (implBasesOf_any _ _ _ _ _ _ r1 hcap1 hs2 hn1).mono ?_
  rintro e w2 ⟨v2, rfl, a2, n2, c2, rfl, hn2, o2, x2⟩
  replace r1 := r1.ext x2
  replace X := X.trans x2
  have r2 := o2.rd
  clear o2
  go_wp2_with fail
  refine (specBasesOf_any _ _ _ _ _ _ r1 hs2 hn1).mono ?_
  rintro e w3 ⟨v3, rfl, a3, n3, c3, rfl, hn3, o3, x3⟩
  replace r1 := r1.ext x3
  replace r2 := r2.ext x3
  replace X := X.trans x3
  have r3 := o3.rd
  clear o3
  obtain rfl : n2 = n3 := r2.len.symm.trans r3.len
  go_wp2_with fail
  refine (implFormsOf_any _ _ _ _ _ _ r1 hcap1 hs2 hn1).mono ?_
  rintro e w4 ⟨v4, rfl, a4, n4, c4, rfl, hn4, o4, x4⟩
  replace r1 := r1.ext x4
  replace r2 := r2.ext x4
  replace r3 := r3.ext x4
  replace X := X.trans x4
  have r4 := o4.rd
  clear o4
  go_wp2_with fail
  refine (specFormsOf_any _ _ _ _ _ _ r1 hs2 hn1).mono ?_
  rintro e w5 ⟨v5, rfl, a5, n5, c5, rfl, hn5, o5, x5⟩
  replace r1 := r1.ext x5
  replace r2 := r2.ext x5
  replace r3 := r3.ext x5
  replace r4 := r4.ext x5
  replace X := X.trans x5
  have r5 := o5.rd
  clear o5
  obtain rfl : n4 = n5 := r4.len.symm.trans r5.len
  go_wp2_with fail
  refine (drawCasesOf_any _ _ _ _ _ (hr.ext X)).mono ?_
  rintro e w6 ⟨a6, c6, ys, b, t, rfl, hl6, o6, hb, ht, x6⟩
  replace r1 := r1.ext x6
  replace r2 := r2.ext x6
  replace r3 := r3.ext x6
  replace r4 := r4.ext x6
  replace r5 := r5.ext x6
  replace X := X.trans x6
  have hcap6 := o6.cap
  have hb2 : b.size ≤ 1073741824 := by omega
  have hn6 : ys.length ≤ 1048576 := by omega
  have r6 := o6.rd
  clear o6
  go_wp2_with fail
  refine (implCasesOf_any _ _ _ _ _ _ _ r6 hcap6 hb2 ht hn6).mono ?_
  rintro e w7 ⟨v7, rfl, a7, n7, c7, rfl, o7, x7⟩
  replace r1 := r1.ext x7
  replace r2 := r2.ext x7
  replace r3 := r3.ext x7
  replace r4 := r4.ext x7
  replace r5 := r5.ext x7
  replace r6 := r6.ext x7
  replace X := X.trans x7
  have r7 := o7.rd
  clear o7
  go_wp2_with fail
  refine (specCasesOf_any _ _ _ _ _ _ _ r6 hb2 ht hn6).mono ?_
  rintro e w8 ⟨v8, rfl, a8, n8, c8, rfl, o8, x8⟩
  replace r1 := r1.ext x8
  replace r2 := r2.ext x8
  replace r3 := r3.ext x8
  replace r4 := r4.ext x8
  replace r5 := r5.ext x8
  replace r6 := r6.ext x8
  replace r7 := r7.ext x8
  replace X := X.trans x8
  have r8 := o8.rd
  clear o8
  obtain rfl : n7 = n8 := r7.len.symm.trans r8.len
  go_wp2_with fail
  refine (likeTexts_same _ _ _ _ _ _ _ r2 r3).mono ?_
  rintro e w9 ⟨rfl, s9⟩
  replace r1 := r1.ext s9.ext
  replace r2 := r2.ext s9.ext
  replace r3 := r3.ext s9.ext
  replace r4 := r4.ext s9.ext
  replace r5 := r5.ext s9.ext
  replace r6 := r6.ext s9.ext
  replace r7 := r7.ext s9.ext
  replace r8 := r8.ext s9.ext
  replace X := X.trans s9.ext
  clear r3
  go_wp2_with fail
  refine (likeTexts_same _ _ _ _ _ _ _ r4 r5).mono ?_
  rintro e w10 ⟨rfl, s10⟩
  replace r1 := r1.ext s10.ext
  replace r2 := r2.ext s10.ext
  replace r4 := r4.ext s10.ext
  replace r5 := r5.ext s10.ext
  replace r6 := r6.ext s10.ext
  replace r7 := r7.ext s10.ext
  replace r8 := r8.ext s10.ext
  replace X := X.trans s10.ext
  clear r4
  clear r5
  go_wp2_with fail
  refine (likeInts_same _ _ _ _ _ _ _ r7 r8).mono ?_
  rintro e w11 ⟨rfl, s11⟩
  replace r1 := r1.ext s11.ext
  replace r2 := r2.ext s11.ext
  replace r6 := r6.ext s11.ext
  replace r7 := r7.ext s11.ext
  replace r8 := r8.ext s11.ext
  replace X := X.trans s11.ext
  clear r8
  go_wp2_with fail
  refine (implIsEndingTable_any _ _ _ _ _ r1 hcap1).mono ?_
  rintro e w12 ⟨rfl, x12⟩
  replace r1 := r1.ext x12
  replace r2 := r2.ext x12
  replace r6 := r6.ext x12
  replace r7 := r7.ext x12
  replace X := X.trans x12
  go_wp2_with fail
  refine (specIsEndingTable_any _ _ _ _ _ r1).mono ?_
  rintro e w13 ⟨rfl, x13⟩
  replace r1 := r1.ext x13
  replace r2 := r2.ext x13
  replace r6 := r6.ext x13
  replace r7 := r7.ext x13
  replace X := X.trans x13
  cases h1 : (csC ys b t == 0)
  · clear r6 r7
    have r6 := r1
    have r7 := r2
    cases h2 : (tabC xs s == 0)
    · have HX := Lib.hid X
      clear r1 r2 r6 r7 X
      rename World => wb
      go_wp2
      go_loopw [22, 23, 24] (fun i _ _ wr => i = .int .i64 0 ∧ Ext wb wr) (fun i _ _ _ => 0)
      case atStart => exact ⟨rfl, Ext.refl _⟩
      case round =>
        obtain ⟨rfl, hx⟩ := hrel
        go_wp2
        go_ret
        exact ⟨rfl, HX.out.trans hx⟩
    · have h20 : tabC xs s = 0 := by simpa using h2
      rw [h20]
      have HN := Lib.hid (fun z (hz : z ∈ baseL xs s) => form_of_base h20 hz)
      have hln2 := r2.len
      have HR := Lib.hid (And.intro r1 (And.intro r2 X))
      clear r1 r2 r6 r7 X h20 h2
      rename World => wb
      go_wp2
      go_loopw [22, 23, 24] (fun i _ _ wr => ∃ k : Nat, k ≤ n2 ∧ i = .int .i64 k ∧ Ext wb wr) (fun i _ _ _ => n2 - (intOf i).toNat)
      case atStart => exact ⟨0, Nat.zero_le _, rfl, Ext.refl _⟩
      case round =>
        obtain ⟨k, hk, rfl, hx⟩ := hrel
        by_cases hlt : k < n2
        · obtain ⟨b2, o2, ea, hbb, hA2⟩ := (HR.out.2.1.ext hx).at (by omega)
          have hck := hA2 k hlt
          have hzs := HR.out.2.1.size hlt
          subst ea
          have hki : (k : Int) < n2 := by omega
          obtain ⟨q1, q2⟩ := HN.out (nthS (baseL xs s) k) (nthS_mem (by omega))
          have HQ := Lib.hid (And.intro q1 (hasT_mem.2 q2))
          clear hA2 q1 q2
          go_wp2_with fail
          refine (implFormsOf_any _ _ _ _ _ _ (HR.out.1.ext hx) hcap1 hzs hn1).mono ?_
          rintro e w20 ⟨v20, rfl, a20, n20, c20, rfl, hn20, o20, x20⟩
          rw [HQ.out.1]
          have r20 := o20.rd
          clear o20 hck
          go_wp2_with fail
          refine (hasText_any _ _ _ _ _ _ r20).mono ?_
          rintro e w21 ⟨rfl, rfl⟩
          rw [HQ.out.2]
          go_wp2
          go_roundw
          case rel => exact ⟨k + 1, by omega, by go_num, hx.trans x20⟩
          case measure => simp [intOf]; omega
        · go_wp2
          go_ret
          exact ⟨rfl, HR.out.2.2.trans hx⟩
  · have h10 : csC ys b t = 0 := by simpa using h1
    obtain ⟨p1, p2⟩ := cases_law h10
    have hln7 := r7.len
    have HQ := Lib.hid (And.intro p1 (show hasT (formL ys b) t = decide (0 < (csL ys b t).length) by rw [← p2, hasT_hasS]))
    clear p1 p2 h10
    go_wp2_with fail
    refine (implFormsOf_any _ _ _ _ _ _ r6 hcap6 hb2 hn6).mono ?_
    rintro e w14 ⟨v14, rfl, a14, n14, c14, rfl, hn14, o14, x14⟩
    rw [HQ.out.1]
    have r14 := o14.rd
    replace r1 := r1.ext x14
    replace r2 := r2.ext x14
    replace X := X.trans x14
    clear o14
    go_wp2_with fail
    refine (hasText_any _ _ _ _ _ _ r14).mono ?_
    rintro e w15 ⟨rfl, rfl⟩
    rw [HQ.out.2]
    clear r14
    by_cases h7 : 0 < n7
    · have h7i : (0 : Int) < n7 := by omega
      rw [show decide (0 < (csL ys b t).length) = true from decide_eq_true (by omega)]
      cases h2 : (tabC xs s == 0)
      · have HX := Lib.hid X
        clear r1 r2 r6 r7 X
        rename World => wb
        go_wp2
        go_loopw [22, 23, 24] (fun i _ _ wr => i = .int .i64 0 ∧ Ext wb wr) (fun i _ _ _ => 0)
        case atStart => exact ⟨rfl, Ext.refl _⟩
        case round =>
          obtain ⟨rfl, hx⟩ := hrel
          go_wp2
          go_ret
          exact ⟨rfl, HX.out.trans hx⟩
      · have h20 : tabC xs s = 0 := by simpa using h2
        rw [h20]
        have HN := Lib.hid (fun z (hz : z ∈ baseL xs s) => form_of_base h20 hz)
        have hln2 := r2.len
        have HR := Lib.hid (And.intro r1 (And.intro r2 X))
        clear r1 r2 r6 r7 X h20 h2
        rename World => wb
        go_wp2
        go_loopw [22, 23, 24] (fun i _ _ wr => ∃ k : Nat, k ≤ n2 ∧ i = .int .i64 k ∧ Ext wb wr) (fun i _ _ _ => n2 - (intOf i).toNat)
        case atStart => exact ⟨0, Nat.zero_le _, rfl, Ext.refl _⟩
        case round =>
          obtain ⟨k, hk, rfl, hx⟩ := hrel
          by_cases hlt : k < n2
          · obtain ⟨b2, o2, ea, hbb, hA2⟩ := (HR.out.2.1.ext hx).at (by omega)
            have hck := hA2 k hlt
            have hzs := HR.out.2.1.size hlt
            subst ea
            have hki : (k : Int) < n2 := by omega
            obtain ⟨q1, q2⟩ := HN.out (nthS (baseL xs s) k) (nthS_mem (by omega))
            have HQ := Lib.hid (And.intro q1 (hasT_mem.2 q2))
            clear hA2 q1 q2
            go_wp2_with fail
            refine (implFormsOf_any _ _ _ _ _ _ (HR.out.1.ext hx) hcap1 hzs hn1).mono ?_
            rintro e w20 ⟨v20, rfl, a20, n20, c20, rfl, hn20, o20, x20⟩
            rw [HQ.out.1]
            have r20 := o20.rd
            clear o20 hck
            go_wp2_with fail
            refine (hasText_any _ _ _ _ _ _ r20).mono ?_
            rintro e w21 ⟨rfl, rfl⟩
            rw [HQ.out.2]
            go_wp2
            go_roundw
            case rel => exact ⟨k + 1, by omega, by go_num, hx.trans x20⟩
            case measure => simp [intOf]; omega
          · go_wp2
            go_ret
            exact ⟨rfl, HR.out.2.2.trans hx⟩
    · have h7i : ¬ (0 : Int) < n7 := by omega
      rw [show decide (0 < (csL ys b t).length) = false from decide_eq_false (by omega)]
      cases h2 : (tabC xs s == 0)
      · have HX := Lib.hid X
        clear r1 r2 r6 r7 X
        rename World => wb
        go_wp2
        go_loopw [22, 23, 24] (fun i _ _ wr => i = .int .i64 0 ∧ Ext wb wr) (fun i _ _ _ => 0)
        case atStart => exact ⟨rfl, Ext.refl _⟩
        case round =>
          obtain ⟨rfl, hx⟩ := hrel
          go_wp2
          go_ret
          exact ⟨rfl, HX.out.trans hx⟩
      · have h20 : tabC xs s = 0 := by simpa using h2
        rw [h20]
        have HN := Lib.hid (fun z (hz : z ∈ baseL xs s) => form_of_base h20 hz)
        have hln2 := r2.len
        have HR := Lib.hid (And.intro r1 (And.intro r2 X))
        clear r1 r2 r6 r7 X h20 h2
        rename World => wb
        go_wp2
        go_loopw [22, 23, 24] (fun i _ _ wr => ∃ k : Nat, k ≤ n2 ∧ i = .int .i64 k ∧ Ext wb wr) (fun i _ _ _ => n2 - (intOf i).toNat)
        case atStart => exact ⟨0, Nat.zero_le _, rfl, Ext.refl _⟩
        case round =>
          obtain ⟨k, hk, rfl, hx⟩ := hrel
          by_cases hlt : k < n2
          · obtain ⟨b2, o2, ea, hbb, hA2⟩ := (HR.out.2.1.ext hx).at (by omega)
            have hck := hA2 k hlt
            have hzs := HR.out.2.1.size hlt
            subst ea
            have hki : (k : Int) < n2 := by omega
            obtain ⟨q1, q2⟩ := HN.out (nthS (baseL xs s) k) (nthS_mem (by omega))
            have HQ := Lib.hid (And.intro q1 (hasT_mem.2 q2))
            clear hA2 q1 q2
            go_wp2_with fail
            refine (implFormsOf_any _ _ _ _ _ _ (HR.out.1.ext hx) hcap1 hzs hn1).mono ?_
            rintro e w20 ⟨v20, rfl, a20, n20, c20, rfl, hn20, o20, x20⟩
            rw [HQ.out.1]
            have r20 := o20.rd
            clear o20 hck
            go_wp2_with fail
            refine (hasText_any _ _ _ _ _ _ r20).mono ?_
            rintro e w21 ⟨rfl, rfl⟩
            rw [HQ.out.2]
            go_wp2
            go_roundw
            case rel => exact ⟨k + 1, by omega, by go_num, hx.trans x20⟩
            case measure => simp [intOf]; omega
          · go_wp2
            go_ret
            exact ⟨rfl, HR.out.2.2.trans hx⟩

end Go.Proofs.YtfglmoedicijkaaGreatDoor.fnForms
